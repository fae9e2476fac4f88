/- The data level and the contracts of the functions that are reached (part 9). -/
import Derived.Test.YtddbdpcgikmiaaaGreatDoorPnh
set_option linter.unusedSimpArgs false
set_option linter.unusedVariables false
set_option linter.unusedSectionVars false
-- The reference of chapter 2: lines.
namespace Go.Dl
open Go Go.Proofs Go.RowKit
set_option maxRecDepth 100000
structure Lin where
 depth:Int
 l:List Tok
 deriving DecidableEq,Inhabited
def Ae2 (x:Lin):List DVal:= [dI x.depth,Bh x.l]
theorem Aa1 (x:Lin):(Ae2 x).length=2:=rfl
def Pn (x:Lin):Bool:=Te x.l&&decide (0<=x.depth)&&decide (x.depth<=80)
def Xn (x:Lin):Bool:=decide (256<2*x.depth+((Uo x.l).length:Int))
def Di1 (x:Lin):List UInt8:=Et7 x.depth.toNat x.l++ [10]
def Mx (ls:List Lin):List UInt8:=ls.flatMap Di1
def Rl (ls:List Lin):List UInt8×Int:=if ls.all Pn then(if ls.any Xn || decide (65536<(Mx ls).length) then([],3) else(Mx ls,0)) else([],2)
section
end
section
variable {G:Nat->DVal} {H:Ac}
theorem Cg8 (G:Nat->DVal) (H:Ac) (s:List UInt8):Af Tryz.prog G 315 [.str s] H (Au (.bool (Co7 s)) H):=by
 refine Ab Tryz.func315 Tryz.call315 rfl (by kernel_rfl) ?_;simp(disch:=omega)only[go_sem];refine(Bj3 G _).mono ?_;rintro _ H1 ⟨rfl,rfl⟩;simp(disch:=omega)only[go_sem];refine(Dp2 G _ Vu s (by decide)).mono ?_;rintro _ H1 ⟨rfl,rfl⟩;simp(disch:=omega)only[go_sem];exact Es.refl ⟨by rw[Eu3],rfl⟩
end
section
variable {G:Nat->DVal} {H:Ac}
theorem Di2 (G:Nat->DVal) (H:Ac) (t:Tok):Af Tryz.prog G 300 [.agg (Cy t)] H (Au (.bool (Vc t)) H):=by
 refine Ab Tryz.func300 Tryz.call300 rfl (by kernel_rfl) ?_;simp(disch:=omega)only[go_sem,DVal.cells];intro r hr;dsimp only at hr;by_cases k1:t.kind=1
 ·by_cases h:t.n=0
  ·simp(disch:=omega)only[go_sem,Aq,Ou,Vd,Ov,Rk,k1,h];refine(Bj4 G _ t.text).mono ?_;rintro _ H1 ⟨rfl,rfl⟩;simp(disch:=omega)only[go_sem];refine Es.dropA r hr (Es.refl ⟨?_,rfl⟩);simp [Vc,k1,h]
  ·simp(disch:=omega)only[go_sem,Aq,Ou,Vd,Ov,Rk,k1,h];refine Es.dropA r hr (Es.refl ⟨?_,rfl⟩);simp [Vc,k1,h]
 by_cases y:t.kind=2
 ·by_cases h:t.n=0
  ·simp(disch:=omega)only[go_sem,Aq,Ou,Vd,Ov,Rk,k1,y,h];refine(At9 G _ t.text).mono ?_;rintro _ H1 ⟨rfl,rfl⟩;simp(disch:=omega)only[go_sem];refine Es.dropA r hr (Es.refl ⟨?_,rfl⟩);simp [Vc,y,h]
  ·simp(disch:=omega)only[go_sem,Aq,Ou,Vd,Ov,Rk,k1,y,h];refine Es.dropA r hr (Es.refl ⟨?_,rfl⟩);simp [Vc,y,h]
 by_cases C:t.kind=4
 ·by_cases h:t.n=0
  ·simp(disch:=omega)only[go_sem,Aq,Ou,Vd,Ov,Rk,k1,y,C,h];refine(Cg8 G _ t.text).mono ?_;rintro _ H1 ⟨rfl,rfl⟩;simp(disch:=omega)only[go_sem];refine Es.dropA r hr (Es.refl ⟨?_,rfl⟩);simp [Vc,C,h]
  ·simp(disch:=omega)only[go_sem,Aq,Ou,Vd,Ov,Rk,k1,y,C,h];refine Es.dropA r hr (Es.refl ⟨?_,rfl⟩);simp [Vc,C,h]
 have hm:Vc t=(decide (t.kind=3)&&decide (t.text= [])&&decide (0<=t.n)&&decide (t.n<=2147483647)):=by
  rw[Vc,if_neg k1,if_neg y,if_neg C]
 rw[hm];by_cases D:t.kind=3
 ·by_cases t0:t.text= []
  ·by_cases h:0<=t.n
   ·simp(disch:=omega)only[go_sem,Aq,Ou,Vd,Ov,Rk,k1,y,C,D,t0,h];exact Es.dropA r hr (Es.refl ⟨by simp,rfl⟩)
   ·simp(disch:=omega)only[go_sem,Aq,Ou,Vd,Ov,Rk,k1,y,C,D,t0,h];exact Es.dropA r hr (Es.refl ⟨by simp,rfl⟩)
  ·simp(disch:=omega)only[go_sem,Aq,Ou,Vd,Ov,Rk,k1,y,C,D,t0];exact Es.dropA r hr (Es.refl ⟨by simp,rfl⟩)
 ·simp(disch:=omega)only[go_sem,Aq,Ou,Vd,Ov,Rk,k1,y,C,D];exact Es.dropA r hr (Es.refl ⟨by simp,rfl⟩)
end
section
variable {G:Nat->DVal} {H:Ac}
def Bo8 (l:List Tok) (k:Nat):List UInt8:=Uo (l.take k)
theorem Bo9: ∀(l:List Tok) (t:Tok) (a:Option Tok),Qo a (l++ [t])=Qo a l++((match (match l.getLast? with | some x=>some x | none=>a) with | some x=>if Zm x t then [32] else [] | none=> [])++Gw t)
 | [],t,none=>by simp [Qo]
 | [],t,some a=>by simp [Qo]
 | x::l,t,a=>by
  have ih:=Bo9 l t (some x)
  have C:(match l.getLast? with | some y=>some y | none=>some x)=(x::l).getLast? :=by
   cases l with
   | nil=>rfl
   | cons y l=>rw[List.getLast?_cons_cons];cases h:(y::l).getLast? with
    | none=>simp at h
    | some z=>rfl
  rw[C] at ih
  cases hl:(x::l).getLast? with
  | none=>simp at hl
  | some z=>
   rw[hl] at ih
   cases a with
   | none=>
    show Gw x++Qo (some x) (l++ [t])=Gw x++Qo (some x) l++_
    rw[ih,jO]
   | some a=>
    show(if Zm a x then [32] else [])++(Gw x++Qo (some x) (l++ [t]))=(if Zm a x then [32] else [])++(Gw x++Qo (some x) l)++_
    rw[ih];simp [jO]
theorem Di3 {l:List Tok} {k:Nat} (h:k<l.length):Bo8 l (k+1)=Bo8 l k++((if hk:0<k then(if Zm (l[k-1]'(by omega)) l[k] then [32] else []) else [])++Gw l[k]):=by
 rw[Bo8,List.take_add_one,List.getElem?_eq_getElem h,Uo,Option.toList_some,Bo9];congr 2;by_cases hk:0<k
 ·rw[dif_pos hk];have:(l.take k).getLast? =some (l[k-1]'(by omega)):=by
   rw[List.getLast?_eq_getElem?,List.length_take,Nat.min_eq_left (by omega),List.getElem?_take,if_pos (by omega),List.getElem?_eq_getElem (by omega)]
  rw[this]
 ·have:k=0:=by omega
  subst this;simp
theorem Eg1 {l:List Tok} {k:Nat} (h:Te (l.take k)=true) (hk:k<l.length) (hm:Vc l[k]=true):Te (l.take (k+1))=true:=by
 rw[List.take_add_one,List.getElem?_eq_getElem hk,Te,List.all_append];rw[Te] at h;rw[h];simp [hm]
theorem Eg2 {l:List Tok} {k:Nat} (h:Te (l.take k)=true):(Bo8 l k).length<=33*k:=by
 have:=(Ac8 _ none h).2;rw[Bo8,Uo];rw[List.length_take] at this;omega
end
section
variable {G:Nat->DVal} {H:Ac}
theorem Fa7 {x:Lin} (h:Pn x=true) (hl:x.l.length<=100000):(Di1 x).length<=3300161:=by
 simp only[Pn,jF,decide_eq_true_eq] at h;have:=(Ac8 x.l none h.1.1).2;rw[Di1,Et7,jC,jC,List.length_replicate,jQ,Uo];omega
theorem Ai0: ∀(ls:List Lin),ls.all Pn=true->(∀x∈ls,x.l.length<=100000)->(Mx ls).length<=3300161*ls.length
 | [],_,_=>by simp [Mx]
 | x::ls,h,hl=>by
  rw[List.all_cons,jF] at h;have h1:=Fa7 h.1 (hl x (by simp));have h2:=Ai0 ls h.2 fun y C=>hl y (by simp [C]);rw[show Mx (x::ls)=Di1 x++Mx ls from rfl,jC,jA];omega
theorem Eg3 {α:Type} {f:α->List UInt8} {l:List α} {k:Nat} (hk:k<l.length):(l.take (k+1)).flatMap f=(l.take k).flatMap f++f l[k]:=by
 rw[List.take_add_one,List.getElem?_eq_getElem hk,List.flatMap_append];simp
theorem Eg4 {α:Type} {p:α->Bool} {l:List α} {k:Nat} (h:(l.take k).all p=true) (hk:k<l.length) (hp:p l[k]=true):(l.take (k+1)).all p=true:=by
 rw[List.take_add_one,List.getElem?_eq_getElem hk,List.all_append,h];simp [hp]
theorem Fa8 {α:Type} {p:α->Bool} {l:List α} {k:Nat} (hk:k<l.length):(l.take (k+1)).any p=((l.take k).any p || p l[k]):=by
 rw[List.take_add_one,List.getElem?_eq_getElem hk,List.any_append];simp
end
def isR (t:Tok) (s:List UInt8):Bool:=decide (t.kind=4)&&decide (t.text=s)
def My (a b:Tok):Bool:=if isR b [44] || isR b [59] || isR b [41] || isR b [39] || isR a [40] || isR a [39] then true else isR a [46]&&!isR b [46]&&!isR b [46,46] || isR b [46]&&!isR a [46]&&!isR a [46,46]
theorem Ad6 (t:Tok) (c:UInt8):isS t [c]=isR t [c]:=by
 rw[isS,isR];congr 1;split
 ·rename_i d h
  rw[h,decide_eq_decide.2];simp
 ·rename_i h
  exact(decide_eq_false (fun e=>h c e)).symm
theorem Ap0 (t:Tok) (c d:UInt8) (l:List UInt8):isS t (c::d::l)=(isR t [c] || isS t (d::l)):=by
 rw[isS,isS,isR];cases decide (t.kind=4) with
 | false=>rfl
 | true=>
  simp only[jS];split
  ·rename_i x h
   rw[h,<-Bool.decide_or,decide_eq_decide.2];simp
  ·rename_i h
   rw[decide_eq_false (fun e=>h c e)];rfl
theorem Ct8 (a b:Tok):Zm a b=!My a b:=by
 rw[Zm,My,Ap0,Ap0,Ap0,Ad6,Ap0,Ad6,Ad6,Ad6,Do7,Do7,Ad6,Ad6];rw[show(decide (b.kind=4)&&decide (b.text= [46,46]))=isR b [46,46] from rfl,show(decide (a.kind=4)&&decide (a.text= [46,46]))=isR a [46,46] from rfl];cases isR b [44]<;>cases isR b [59]<;>cases isR b [41]<;>cases isR b [39]<;>cases isR a [40]<;>cases isR a [39]<;>try rfl
 cases isR a [46]<;>cases isR b [46]<;>cases isR b [46,46]<;>cases isR a [46,46]<;>rfl
section
variable {G:Nat->DVal} {H:Ac}
theorem Ia (G:Nat->DVal) (H:Ac) (t:Tok) (s:List UInt8):Af Tryz.prog G 316 [.agg (Cy t), .str s] H (Au (.bool (isR t s)) H):=by
 refine Ab Tryz.func316 Tryz.call316 rfl (by kernel_rfl) ?_;simp(disch:=omega)only[go_sem,DVal.cells];intro r hr;dsimp only at hr;by_cases h:t.kind=4
 ·simp(disch:=omega)only[go_sem,Aq,Ou,Ov,h];refine Es.dropA r hr (Es.refl ⟨?_,rfl⟩);rw[isR,decide_eq_true h,jS]
 ·simp(disch:=omega)only[go_sem,Aq,Ou,Ov,h];refine Es.dropA r hr (Es.refl ⟨?_,rfl⟩);rw[isR,decide_eq_false h];rfl
theorem Ct9 (G:Nat->DVal) (H:Ac) (a b:Tok):Af Tryz.prog G 301 [.agg (Cy a), .agg (Cy b)] H (Au (.bool (My a b)) H):=by
 refine Ab Tryz.func301 Tryz.call301 rfl (by kernel_rfl) ?_;simp(disch:=omega)only[go_sem,DVal.cells];intro E D;dsimp only at D;simp(disch:=omega)only[go_sem,DVal.cells];intro I C;dsimp only at C;obtain⟨h,y,J⟩:=Av.1 C;simp(disch:=omega)only[go_sem,Aq,Cv,y,h];refine(Ia G _ b [44]).mono ?_;rintro _ H1 ⟨rfl,rfl⟩;cases h1:isR b [44]
 case true=>
  simp(disch:=omega)only[go_sem,Aq,Cv,y,h];exact Es.sub (show Sub H _ from(by repeat (first | exact Sub.refl _ | assumption | refine Sub.up ?_ (by assumption) _))) (Es.refl ⟨by rw[My,h1];rfl,rfl⟩)
 simp(disch:=omega)only[go_sem,Aq,Cv,y,h];refine(Ia G _ b [59]).mono ?_;rintro _ H1 ⟨rfl,rfl⟩;cases h2:isR b [59]
 case true=>
  simp(disch:=omega)only[go_sem,Aq,Cv,y,h];exact Es.sub (show Sub H _ from(by repeat (first | exact Sub.refl _ | assumption | refine Sub.up ?_ (by assumption) _))) (Es.refl ⟨by rw[My,h1,h2];rfl,rfl⟩)
 simp(disch:=omega)only[go_sem,Aq,Cv,y,h];refine(Ia G _ b [41]).mono ?_;rintro _ H1 ⟨rfl,rfl⟩;cases h3:isR b [41]
 case true=>
  simp(disch:=omega)only[go_sem,Aq,Cv,y,h];exact Es.sub (show Sub H _ from(by repeat (first | exact Sub.refl _ | assumption | refine Sub.up ?_ (by assumption) _))) (Es.refl ⟨by rw[My,h1,h2,h3];rfl,rfl⟩)
 simp(disch:=omega)only[go_sem,Aq,Cv,y,h];refine(Ia G _ b [39]).mono ?_;rintro _ H1 ⟨rfl,rfl⟩;cases h4:isR b [39]
 case true=>
  simp(disch:=omega)only[go_sem,Aq,Cv,y,h];exact Es.sub (show Sub H _ from(by repeat (first | exact Sub.refl _ | assumption | refine Sub.up ?_ (by assumption) _))) (Es.refl ⟨by rw[My,h1,h2,h3,h4];rfl,rfl⟩)
 simp(disch:=omega)only[go_sem,Aq,Cv,y,h];refine(Ia G _ a [40]).mono ?_;rintro _ H1 ⟨rfl,rfl⟩;cases h5:isR a [40]
 case true=>
  simp(disch:=omega)only[go_sem,Aq,Cv,y,h];exact Es.sub (show Sub H _ from(by repeat (first | exact Sub.refl _ | assumption | refine Sub.up ?_ (by assumption) _))) (Es.refl ⟨by rw[My,h1,h2,h3,h4,h5];rfl,rfl⟩)
 simp(disch:=omega)only[go_sem,Aq,Cv,y,h];refine(Ia G _ a [39]).mono ?_;rintro _ H1 ⟨rfl,rfl⟩;cases h6:isR a [39]
 case true=>
  simp(disch:=omega)only[go_sem,Aq,Cv,y,h];exact Es.sub (show Sub H _ from(by repeat (first | exact Sub.refl _ | assumption | refine Sub.up ?_ (by assumption) _))) (Es.refl ⟨by rw[My,h1,h2,h3,h4,h5,h6];rfl,rfl⟩)
 simp(disch:=omega)only[go_sem,Aq,Cv,y,h];refine(Ia G _ a [46]).mono ?_;rintro _ H1 ⟨rfl,rfl⟩;cases h7:isR a [46]
 case true=>
  simp(disch:=omega)only[go_sem,Aq,Cv,y,h];refine(Ia G _ b [46]).mono ?_;rintro _ H1 ⟨rfl,rfl⟩;cases h8:isR b [46]
  case true=>
   simp(disch:=omega)only[go_sem,Aq,Cv,y,h];refine(Ia G _ b [46]).mono ?_;rintro _ H1 ⟨rfl,rfl⟩;cases h9:isR b [46]
   case false=>rw[h8] at h9;cases h9
   simp(disch:=omega)only[go_sem,Aq,Cv,y,h];refine(Ia G _ a [46]).mono ?_;rintro _ H1 ⟨rfl,rfl⟩;cases h10:isR a [46]
   case false=>rw[h7] at h10;cases h10
   simp(disch:=omega)only[go_sem,Aq,Cv,y,h];exact Es.sub (show Sub H _ from(by repeat (first | exact Sub.refl _ | assumption | refine Sub.up ?_ (by assumption) _))) (Es.refl ⟨by rw[My,h1,h2,h3,h4,h5,h6,h7,h8];rfl,rfl⟩)
  simp(disch:=omega)only[go_sem,Aq,Cv,y,h];refine(Ia G _ b [46,46]).mono ?_;rintro _ H1 ⟨rfl,rfl⟩;cases h9:isR b [46,46]
  case false=>
   simp(disch:=omega)only[go_sem,Aq,Cv,y,h];exact Es.sub (show Sub H _ from(by repeat (first | exact Sub.refl _ | assumption | refine Sub.up ?_ (by assumption) _))) (Es.refl ⟨by rw[My,h1,h2,h3,h4,h5,h6,h7,h8,h9];rfl,rfl⟩)
  simp(disch:=omega)only[go_sem,Aq,Cv,y,h];refine(Ia G _ b [46]).mono ?_;rintro _ H1 ⟨rfl,rfl⟩;cases h10:isR b [46]
  case true=>rw[h8] at h10;cases h10
  simp(disch:=omega)only[go_sem,Aq,Cv,y,h];exact Es.sub (show Sub H _ from(by repeat (first | exact Sub.refl _ | assumption | refine Sub.up ?_ (by assumption) _))) (Es.refl ⟨by rw[My,h1,h2,h3,h4,h5,h6,h7,h8,h9];rfl,rfl⟩)
 simp(disch:=omega)only[go_sem,Aq,Cv,y,h];refine(Ia G _ b [46]).mono ?_;rintro _ H1 ⟨rfl,rfl⟩;cases h8:isR b [46]
 case false=>
  simp(disch:=omega)only[go_sem,Aq,Cv,y,h];exact Es.sub (show Sub H _ from(by repeat (first | exact Sub.refl _ | assumption | refine Sub.up ?_ (by assumption) _))) (Es.refl ⟨by rw[My,h1,h2,h3,h4,h5,h6,h7,h8];rfl,rfl⟩)
 simp(disch:=omega)only[go_sem,Aq,Cv,y,h];refine(Ia G _ a [46]).mono ?_;rintro _ H1 ⟨rfl,rfl⟩;cases h9:isR a [46]
 case true=>rw[h7] at h9;cases h9
 simp(disch:=omega)only[go_sem,Aq,Cv,y,h];refine(Ia G _ a [46,46]).mono ?_;rintro _ H1 ⟨rfl,rfl⟩;cases h10:isR a [46,46]
 case true=>
  simp(disch:=omega)only[go_sem,Aq,Cv,y,h];exact Es.sub (show Sub H _ from(by repeat (first | exact Sub.refl _ | assumption | refine Sub.up ?_ (by assumption) _))) (Es.refl ⟨by rw[My,h1,h2,h3,h4,h5,h6,h7,h8,h10];rfl,rfl⟩)
 simp(disch:=omega)only[go_sem,Aq,Cv,y,h];exact Es.sub (show Sub H _ from(by repeat (first | exact Sub.refl _ | assumption | refine Sub.up ?_ (by assumption) _))) (Es.refl ⟨by rw[My,h1,h2,h3,h4,h5,h6,h7,h8,h10];rfl,rfl⟩)
theorem Eg5 (G:Nat->DVal): ∀(n:Nat) (H:Ac),n<=2147483647->Af Tryz.prog G 317 [dI n] H (Au (.str (Lib.decDigits n)) H):=by
 intro n
 induction n using Nat.strongRecOn with
 | ind n ih=>
  intro H hn;have y:Int.tmod (n:Int) 10=((n%10:Nat):Int):=by rw[Int.tmod_eq_emod_of_nonneg (by omega)];omega
  have C:Int.tdiv (n:Int) 10=((n/10:Nat):Int):=by rw[Int.tdiv_eq_ediv_of_nonneg (by omega)];omega
  have w1:IntKind.i64.wrap ((n%10:Nat):Int)=((n%10:Nat):Int):=by rw[IntKind.wrap_i64];omega
  have w2:IntKind.i64.wrap (48+((n%10:Nat):Int))=((48+n%10:Nat):Int):=by rw[IntKind.wrap_i64];omega
  have w3:IntKind.u8.wrap ((48+n%10:Nat):Int)=((48+n%10:Nat):Int):=by rw[IntKind.wrap_u8];omega
  have D:IntKind.i64.wrap ((n/10:Nat):Int)=((n/10:Nat):Int):=by rw[IntKind.wrap_i64];omega
  refine Ab Tryz.func317 Tryz.call317 rfl (by kernel_rfl) ?_;simp(disch:=omega)only[go_sem,y,w1,w2,w3];intro r hr;dsimp only at hr;have ho:(some [DVal.int IntKind.u8 ((48+n%10:Nat):Int)]).bind Yt=some [UInt8.ofNat (48+n%10)]:=rfl;simp(disch:=omega)only[go_sem];rw[ho];by_cases h:n<10
  ·have h': ¬(10:Int)<=(n:Int):=by omega
   simp(disch:=omega)only[go_sem,h'];refine Es.dropA r hr (Es.refl ⟨?_,rfl⟩);rw[(Lib.decDigits.eq_def n).trans (dif_pos h),Nat.mod_eq_of_lt h]
  ·have h':(10:Int)<=(n:Int):=by omega
   simp(disch:=omega)only[go_sem,h',C,D];refine(ih (n/10) (by omega) _ (by omega)).mono ?_;rintro _ H1 ⟨rfl,rfl⟩;simp(disch:=omega)only[go_sem];refine⟨by have:=Ce1 (n:=n/10) (by omega);omega,Es.dropA r hr (Es.refl ⟨?_,rfl⟩)⟩;rw[(Lib.decDigits.eq_def n).trans (dif_neg h)]
theorem Ai1 (G:Nat->DVal) (H:Ac) (t:Tok) (h:Vc t=true):Af Tryz.prog G 302 [.agg (Cy t)] H (Au (.str (Gw t)) H):=by
 refine Ab Tryz.func302 Tryz.call302 rfl (by kernel_rfl) ?_;simp(disch:=omega)only[go_sem,DVal.cells];intro r hr;dsimp only at hr;by_cases y:t.kind=3
 ·obtain⟨_,hx,C,D⟩:t.kind=3/\t.text= []/\0<=t.n/\t.n<=2147483647:=by
   rcases At8 h with h | h | h | h
   ·omega
   ·omega
   ·omega
   ·exact h
  obtain⟨n,hn⟩: ∃n:Nat,t.n=(n:Int):=⟨t.n.toNat,by omega⟩;simp(disch:=omega)only[go_sem,Aq,Ou,Ov,Rk,y,hn];refine(Eg5 G n _ (by omega)).mono ?_;rintro _ H1 ⟨rfl,rfl⟩;simp(disch:=omega)only[go_sem];refine Es.dropA r hr (Es.refl ⟨?_,rfl⟩);rw[Gw,if_pos y,hx,jH,hn,Bi9 (by omega)];rfl
 ·simp(disch:=omega)only[go_sem,Aq,Ou,Ov,Rk,y];refine Es.dropA r hr (Es.refl ⟨?_,rfl⟩);rw[Gw,if_neg y];rfl
theorem Di4 (G:Nat->DVal) (H:Ac) (l:List Tok) (hl:l.length<=1000000000):Af Tryz.prog G 266 [Bh l] H (Au (.bool (Te l)) H):=by
 refine Ab Tryz.func266 Tryz.call266 rfl (by kernel_rfl) ?_;simp(disch:=omega)only[go_sem,Bh];obtain⟨I,C⟩: ∃I:Nat->(Nat->DVal)->Ac->Prop,∀k env heap,I k env heap↔(env 0= .vslice (l.flatMap Cy) l.length/\env 3=dI k/\k<=l.length/\Te (l.take k)=true/\heap=H):=⟨_,fun _ _ _=>Iff.rfl⟩;refine Dn5.run I (fun k=>l.length-k) 0 ((C _ _ _).2 ?_) ?_
 ·simp(disch:=omega)only[go_sem];(repeat' apply And.intro)<;>(try first | rfl | assumption | omega)
 ·intro k env heap hi;obtain⟨h,y,hk,hf,rfl⟩:=(C _ _ _).1 hi;by_cases D:k<l.length
  ·have E:(k:Int)<(l.length:Int):=by omega
   have J:=Cu Aq l k D;have hfl:=Ax Aq l;have L:IntKind.i64.wrap ((k:Int)+1)=((k+1:Nat):Int):=by rw[IntKind.wrap_i64];omega
   simp(disch:=omega)only[go_sem,h,y,E,J,hfl,jD];refine(Di2 G _ l[k]).mono ?_;rintro _ H1 ⟨rfl,rfl⟩;cases hm:Vc l[k] with
   | true=>
    simp(disch:=omega)only[go_sem,h,y];refine⟨k+1,_,Ri.refl _,(C _ _ _).2 ?_,by omega⟩;simp(disch:=omega)only[go_sem,h,y,L];(repeat' apply And.intro)<;>(try first | rfl | assumption | omega);exact Eg1 hf D hm
   | false=>
    simp(disch:=omega)only[go_sem,h,y];refine Es.refl ⟨?_,rfl⟩;have:Te l=false:=by
     rw[Te,List.all_eq_false];exact⟨l[k],List.getElem_mem D,by rw[hm];simp⟩
    rw[this]
  ·have:k=l.length:=by omega
   subst this;rw[List.take_length] at hf;simp(disch:=omega)only[go_sem,h,y];exact Es.refl ⟨by rw[hf],rfl⟩
theorem Fr3 {l:List Tok} (h:Te l=true) {k:Nat} (hk:k<l.length):Vc l[k]=true:=List.all_eq_true.1 h _ (List.getElem_mem hk)
theorem Cg9 (G:Nat->DVal) (H:Ac) (l:List Tok) (hl:l.length<=1000000000) (hf:Te l=true):Af Tryz.prog G 267 [Bh l] H (Au (.str (Uo l)) H):=by
 refine Ab Tryz.func267 Tryz.call267 rfl (by kernel_rfl) ?_;simp(disch:=omega)only[go_sem,Bh];obtain⟨I,E⟩: ∃I:Nat->(Nat->DVal)->Ac->Prop,∀k env heap,I k env heap↔(env 0= .vslice (l.flatMap Cy) l.length/\env 3= .str (Bo8 l k)/\env 4=dI k/\k<=l.length/\heap=H):=⟨_,fun _ _ _=>Iff.rfl⟩;refine Dn5.run I (fun k=>l.length-k) 0 ((E _ _ _).2 ?_) ?_
 ·simp(disch:=omega)only[go_sem];(repeat' apply And.intro)<;>(try first | rfl | assumption | omega)
 ·intro k env heap hi;obtain⟨h,y,C,hk,rfl⟩:=(E _ _ _).1 hi;by_cases M:k<l.length
  ·have J:(k:Int)<(l.length:Int):=by omega
   have L:=Cu Aq l k M;have hfl:=Ax Aq l;have hm:=Fr3 hf M;have D:=Di3 M;have Y:=Eg2 (l:=l) (k:=k) (List.all_eq_true.2 fun t ht=>List.all_eq_true.1 hf t (List.mem_of_mem_take ht));have Z:=(Ac7 hm).2.2;have O:IntKind.i64.wrap ((k:Int)+1)=((k+1:Nat):Int):=by rw[IntKind.wrap_i64];omega
   simp(disch:=omega)only[go_sem,h,y,C,J];refine Aj (by kernel_rfl) (.take 0 (.take 1 (.take 2 (.take 3 (.take 4 (.take 5 (.take 6 (.take 7 (.take 8 (.take 9 (.take 10 (.take 11 (.go 12 [] (.take 13 (.take 14 .done))))))))))))))) (by kernel_rfl) ?_;by_cases h0:0<k
   ·have S:(0:Int)<(k:Int):=by omega
    have U:k-1<l.length:=by omega
    have V:=Cu Aq l (k-1) U;have W:IntKind.i64.wrap ((k:Int)-1)=((k-1:Nat):Int):=by rw[IntKind.wrap_i64];omega
    have X:((k-1:Nat):Int)<(l.length:Int):=by omega
    rw[dif_pos h0,Ct8] at D;simp(disch:=omega)only[go_sem,h,y,C,S,W,V,L,hfl,X,J,jD];refine(Ct9 G _ l[k-1] l[k]).mono ?_;rintro _ H1 ⟨rfl,rfl⟩;cases hc:My l[k-1] l[k] with
    | true=>
     rw[hc,if_neg (by simp),jG] at D;simp(disch:=omega)only[go_sem,h,y,C,L,hfl,J,jD];refine(Ai1 G _ l[k] hm).mono ?_;rintro _ H1 ⟨rfl,rfl⟩;simp(disch:=omega)only[go_sem,h,y,C];refine⟨k+1,_,Ri.refl _,(E _ _ _).2 ?_,by omega⟩;simp(disch:=omega)only[go_sem,h,y,C,O];(repeat' apply And.intro)<;>(try first | rfl | assumption | omega);rw[D]
    | false=>
     rw[hc,if_pos (by simp)] at D;simp(disch:=omega)only[go_sem,h,y,C,L,hfl,J,jD];refine(Ai1 G _ l[k] hm).mono ?_;rintro _ H1 ⟨rfl,rfl⟩;simp(disch:=omega)only[go_sem,h,y,C];refine⟨by rw[jC,jQ];omega,k+1,_,Ri.refl _,(E _ _ _).2 ?_,by omega⟩;simp(disch:=omega)only[go_sem,h,y,C,O];(repeat' apply And.intro)<;>(try first | rfl | assumption | omega);rw[D,jO]
   ·have S: ¬(0:Int)<(k:Int):=by omega
    rw[dif_neg h0,jG] at D;simp(disch:=omega)only[go_sem,h,y,C,S,L,hfl,J,jD];refine(Ai1 G _ l[k] hm).mono ?_;rintro _ H1 ⟨rfl,rfl⟩;simp(disch:=omega)only[go_sem,h,y,C];refine⟨k+1,_,Ri.refl _,(E _ _ _).2 ?_,by omega⟩;simp(disch:=omega)only[go_sem,h,y,C,O];(repeat' apply And.intro)<;>(try first | rfl | assumption | omega);rw[D]
  ·have:k=l.length:=by omega
   subst this;simp(disch:=omega)only[go_sem,h,y,C];refine Es.refl ⟨?_,rfl⟩;rw[Bo8,List.take_length]
end
def Fy0 (ls:List Lin):DVal:= .vslice (ls.flatMap Ae2) ls.length
theorem Ai2 {ls:List Lin} (h:ls.all Pn=false):Rl ls=([],2):=by rw[Rl,h];rfl
theorem Di5 {ls:List Lin} (h:ls.all Pn=true) (h2:ls.any Xn=true):Rl ls=([],3):=by rw[Rl,h,h2];rfl
theorem Di6 {ls:List Lin} (h:ls.all Pn=true) (h2:65536<(Mx ls).length):Rl ls=([],3):=by rw[Rl,h,decide_eq_true h2,Bool.or_true];rfl
theorem Eg6 {ls:List Lin} (h:ls.all Pn=true) (h1:ls.any Xn=false) (h2: ¬65536<(Mx ls).length):Rl ls=(Mx ls,0):=by rw[Rl,h,h1,decide_eq_false h2];rfl
theorem Di7 {ls:List Lin} {k:Nat} (hk:k<ls.length) (h:Pn ls[k]=false):ls.all Pn=false:=by
 rw[List.all_eq_false];exact⟨ls[k],List.getElem_mem hk,by rw[h];simp⟩
section
variable {G:Nat->DVal} {H:Ac}
set_option maxHeartbeats 4000000 in
theorem Cu0 (G:Nat->DVal) (H:Ac) (ls:List Lin) (hl:ls.length<=100000) (X: ∀x∈ls,x.l.length<=100000):Af Tryz.prog G 189 [Fy0 ls] H (Au (.tuple [.str (Rl ls).1,dI (Rl ls).2]) H):=by
 refine Ab Tryz.func189 Tryz.call189 rfl (by kernel_rfl) ?_;simp(disch:=omega)only[go_sem,Fy0];obtain⟨I,hI⟩: ∃I:Nat->(Nat->DVal)->Ac->Prop,∀k env heap,I k env heap↔(env 0= .vslice (ls.flatMap Ae2) ls.length/\env 4=dI k/\k<=ls.length/\(ls.take k).all Pn=true/\heap=H):=⟨_,fun _ _ _=>Iff.rfl⟩;refine Dn5.run I (fun k=>ls.length-k) 0 ((hI _ _ _).2 ?_) ?_
 ·simp(disch:=omega)only[go_sem];(repeat' apply And.intro)<;>(try first | rfl | assumption | omega)
 ·intro k env hp hi;obtain⟨h,E,hk,hf,rfl⟩:=(hI _ _ _).1 hi;have hfl:=Ax Aa1 ls;by_cases y:k<ls.length
  ·have L:(k:Int)<(ls.length:Int):=by omega
   have M:(ls.flatMap Ae2)[k*2]? =some (dI ls[k].depth):=Hw Aa1 ls k y 0 (by omega);have S:(ls.flatMap Ae2)[k*2+1]? =some (Bh ls[k].l):=Hw Aa1 ls k y 1 (by omega);have af:IntKind.i64.wrap ((k:Int)+1)=((k+1:Nat):Int):=by rw[IntKind.wrap_i64];omega
   have hx:=X ls[k] (List.getElem_mem y);by_cases U:ls[k].depth<0
   ·simp(disch:=omega)only[go_sem,h,E,L,hfl,M,S,U,jD];refine Es.refl ⟨?_,rfl⟩;rw[Ai2 (Di7 y (by rw[Pn,decide_eq_false (show¬0<=ls[k].depth by omega),Bool.and_false,jT]))]
   ·by_cases Y:80<ls[k].depth
    ·simp(disch:=omega)only[go_sem,h,E,L,hfl,M,S,U,Y,jD];refine Es.refl ⟨?_,rfl⟩;rw[Ai2 (Di7 y (by rw[Pn,decide_eq_false (show¬ls[k].depth<=80 by omega),Bool.and_false]))]
    ·simp(disch:=omega)only[go_sem,h,E,L,hfl,M,S,U,Y,jD];refine(Di4 G _ ls[k].l (by omega)).mono ?_;rintro _ H1 ⟨rfl,rfl⟩;cases hj:Te ls[k].l with
     | false=>
      simp(disch:=omega)only[go_sem,h,E];refine Es.refl ⟨?_,rfl⟩;rw[Ai2 (Di7 y (by rw[Pn,hj];rfl))]
     | true=>
      have hok:Pn ls[k]=true:=by rw[Pn,hj,decide_eq_true (show 0<=ls[k].depth by omega),decide_eq_true (show ls[k].depth<=80 by omega)];rfl
      simp(disch:=omega)only[go_sem,h,E];refine⟨k+1,_,Ri.refl _,(hI _ _ _).2 ?_,by omega⟩;simp(disch:=omega)only[go_sem,h,E,af];(repeat' apply And.intro)<;>(try first | rfl | assumption | omega);exact Eg4 hf y hok
  ·have:k=ls.length:=by omega
   subst this;rw[List.take_length] at hf;simp(disch:=omega)only[go_sem,h,E];obtain⟨J,hJ⟩: ∃J:Nat->(Nat->DVal)->Ac->Prop,∀m env heap,J m env heap↔(env 0= .vslice (ls.flatMap Ae2) ls.length/\env 5= .str (Mx (ls.take m))/\env 6=dI m/\m<=ls.length/\(ls.take m).any Xn=false/\heap=hp):=⟨_,fun _ _ _=>Iff.rfl⟩;refine Dn5.run J (fun m=>ls.length-m) 0 ((hJ _ _ _).2 ?_) ?_
   ·simp(disch:=omega)only[go_sem,h];(repeat' apply And.intro)<;>(try first | rfl | assumption | omega)
   ·intro m env hq hi;obtain⟨h,C,D,hm,aa,rfl⟩:=(hJ _ _ _).1 hi;by_cases y:m<ls.length
    ·have L:(m:Int)<(ls.length:Int):=by omega
     have M:(ls.flatMap Ae2)[m*2]? =some (dI ls[m].depth):=Hw Aa1 ls m y 0 (by omega);have S:(ls.flatMap Ae2)[m*2+1]? =some (Bh ls[m].l):=Hw Aa1 ls m y 1 (by omega);have ag:IntKind.i64.wrap ((m:Int)+1)=((m+1:Nat):Int):=by rw[IntKind.wrap_i64];omega
     have hok:Pn ls[m]=true:=List.all_eq_true.1 hf _ (List.getElem_mem y);have hx:=X ls[m] (List.getElem_mem y);have ac:=hok;simp only[Pn,jF,decide_eq_true_eq] at ac;obtain⟨⟨ad,U⟩,Y⟩:=ac;obtain⟨d,hd⟩: ∃d:Nat,ls[m].depth=d:=⟨ls[m].depth.toNat,by omega⟩;rw[hd] at M U Y;have ao:d<=80:=by omega
     have ap:(Uo ls[m].l).length<=3300000:=by
      have:=(Ac8 ls[m].l none ad).2;rw[Uo];omega
     have ae:=Ai0 (ls.take m) (List.all_eq_true.2 fun x hx=>List.all_eq_true.1 hf x (List.mem_of_mem_take hx)) fun x hx=>X x (List.mem_of_mem_take hx);rw[List.length_take,Nat.min_eq_left hm] at ae;have ah:=Fa8 (p:=Xn) y;have ai:Mx (ls.take (m+1))=Mx (ls.take m)++Di1 ls[m]:=Eg3 y;have aj:Di1 ls[m]=List.replicate (2*d) 32++Uo ls[m].l++ [10]:=by rw[Di1,Et7,hd];rfl
     have hlo:Xn ls[m]=decide (256<2*(d:Int)+((Uo ls[m].l).length:Int)):=by rw[Xn,hd]
     simp(disch:=omega)only[go_sem,h,C,D,L];obtain⟨Q,hQ⟩: ∃Q:Nat->(Nat->DVal)->Ac->Prop,∀j env heap,Q j env heap↔(env 0= .vslice (ls.flatMap Ae2) ls.length/\env 5= .str (Mx (ls.take m))/\env 6=dI m/\env 7= .str (List.replicate (2*j) 32)/\env 8=dI j/\j<=d/\heap=hq):=⟨_,fun _ _ _=>Iff.rfl⟩;refine Dn5.run Q (fun j=>d-j) 0 ((hQ _ _ _).2 ?_) ?_
     ·simp(disch:=omega)only[go_sem,h,C,D];(repeat' apply And.intro)<;>(try first | rfl | assumption | omega)
     ·intro j env heap hi;obtain⟨h,C,D,V,W,hj,rfl⟩:=(hQ _ _ _).1 hi;have Z:(List.replicate (2*j) (32:UInt8)).length=2*j:=List.length_replicate;by_cases aq:j<d
      ·have ak:(j:Int)<(d:Int):=by omega
       have al:IntKind.i64.wrap ((j:Int)+1)=((j+1:Nat):Int):=by rw[IntKind.wrap_i64];omega
       have am:List.replicate (2*j) (32:UInt8)++ [32,32]=List.replicate (2*(j+1)) 32:=by
        rw[show 2*(j+1)=2*j+2 by omega,<-List.replicate_append_replicate];rfl
       simp(disch:=omega)only[go_sem,h,C,D,V,W,L,hfl,M,S,ak,Z,jD];refine⟨j+1,_,Ri.refl _,(hQ _ _ _).2 ?_,by omega⟩;simp(disch:=omega)only[go_sem,h,C,D,V,W,al,am];(repeat' apply And.intro)<;>(try first | rfl | assumption | omega)
      ·have:j=d:=by omega
       subst this;simp(disch:=omega)only[go_sem,h,C,D,V,W,L,hfl,M,S,Z,jD];refine(Cg9 G _ ls[m].l (by omega) ad).mono ?_;rintro _ H1 ⟨rfl,rfl⟩;by_cases ab:256<2*j+(Uo ls[m].l).length
       ·have O:(256:Int)<((2*j+(Uo ls[m].l).length:Nat):Int):=by omega
        simp(disch:=omega)only[go_sem,h,C,D,V,W,Z,jC,O];refine Es.refl ⟨?_,rfl⟩;rw[Di5 hf (List.any_eq_true.2 ⟨ls[m],List.getElem_mem y,by rw[hlo];exact decide_eq_true (by omega)⟩)]
       ·have O: ¬(256:Int)<((2*j+(Uo ls[m].l).length:Nat):Int):=by omega
        simp(disch:=omega)only[go_sem,h,C,D,V,W,Z,jC,O];refine⟨m+1,_,Ri.refl _,(hJ _ _ _).2 ?_,by omega⟩;simp(disch:=omega)only[go_sem,h,C,D,ag];(repeat' apply And.intro)<;>(try first | rfl | assumption | omega)
        ·rw[ai,aj];simp [jO]
        ·rw[ah,aa,hlo];exact decide_eq_false (by omega)
    ·have:m=ls.length:=by omega
     subst this;rw[List.take_length] at aa C;have ae:=Ai0 ls hf X;by_cases ab:65536<(Mx ls).length
     ·have O:(65536:Int)<((Mx ls).length:Int):=by omega
      simp(disch:=omega)only[go_sem,h,C,D,O];exact Es.refl ⟨by rw[Di6 hf ab],rfl⟩
     ·have O: ¬(65536:Int)<((Mx ls).length:Int):=by omega
      simp(disch:=omega)only[go_sem,h,C,D,O];exact Es.refl ⟨by rw[Eg6 hf aa ab],rfl⟩
end
end Go.Dl
-- Chapter 4: forms: the plain laws, part 1
namespace Go.Dl
open Go
set_option maxRecDepth 10000
structure Ind where
 name:Ex
 lo:Ex
 hi:Ex
 value:Ex
structure Dis where
 name:Ex
 lo:Ex
 hi:Ex
structure Par where
 names:List (List UInt8)
 mode:Int
 type:Ex
 e:Ex
 line:Int
structure Asp where
 name:List UInt8
 e:Ex
structure Cmp where
 names:List (List UInt8)
 sub:Ind
 e:Ex
 line:Int
structure Arm where
 c:List Ch
 comps:List Cmp
structure Typ where
 kind:Int
 names:List (List UInt8)
 lo:Ex
 hi:Ex
 sub:Ind
 disc:Dis
 comps:List Cmp
 var:List UInt8
 arms:List Arm
 limited:Bool
def Tz:Ind:=⟨ex0,ex0,ex0,ex0⟩
def Ua:Dis:=⟨ex0,ex0,ex0⟩
def El:Typ:=⟨0,[],ex0,ex0,Tz,Ua,[],[],[],false⟩
def noE (e:Ex):Bool:=Hq e ex0
def Ye:Nat->Ex->Bool
 | 0,_=>false
 | n+1,e=>if e.kind=4 then Ye n (e.l.getD 0 ex0) else decide (e.kind=3)
def Hu (e:Ex):Bool:=Cg e&&Ye (Hx e) e
def Cr (s:Ind):Bool:=
 Hu s.name&&(if noE s.value then noE s.lo&&noE s.hi || Cg s.lo&&Cg s.hi else noE s.lo&&noE s.hi&&Cg s.value)
def Ib (d:Dis):Bool:=
 if noE d.lo&&noE d.hi then Hu d.name || decide (d.name.kind=6)&&Cg d.name else Cg d.lo&&Cg d.hi&&(noE d.name || Hu d.name)
def Ih (l:List (List UInt8)) (most:Nat):Bool:=l.all Lo&&decide (1<=l.length)&&decide (l.length<=most)
def Ge (e:Ex):Bool:=noE e || Cg e
def Ja (p:Par):Bool:=Ih p.names 8&&Hu p.type&&Ge p.e&&decide (1<=p.mode)&&decide (p.mode<=3)&&(decide (p.mode=1) || noE p.e)
def Ap1 (l:List Par):Nat:=(l.map fun p=>p.names.length).sum
def Ii (l:List Par):Bool:=l.all Ja&&decide (Ap1 l<=8)
def Yf (a:Asp):Bool:=Lo a.name&&Cg a.e
def Pc (l:List Asp):Bool:=l.all Yf&&decide (l.length<=8)
def Hd (c:Cmp):Bool:=Ih c.names 8&&Cr c.sub&&Ge c.e
def He (l:List Cmp):Nat:=(l.map fun c=>c.names.length).sum
def Mk (l:List Cmp):Bool:=l.all Hd&&decide (He l<=32)
def Kd (a:Arm):Bool:=a.comps.all Hd&&Kp a.c
def Tk (l:List Arm):Nat:=(l.map fun a=>He a.comps).sum
def Pd (t:Typ):Bool:=
 t.comps.all Hd&&decide ((t.var= [])↔(t.arms.length=0))&&decide (t.arms.length<=16)&&(decide (t.var= []) || Lo t.var)&&t.arms.all Kd&&decide (He t.comps+Tk t.arms<=32)
def Aa2 (s:Ind):Bool:=noE s.name&&noE s.lo&&noE s.hi&&noE s.value
def Yg (d:Dis):Bool:=noE d.name&&noE d.lo&&noE d.hi
def Af1 (t:Typ):Bool:=decide (t.comps.length=0)&&decide (t.var= [])&&decide (t.arms.length=0)
def Aa3 (t:Typ):Bool:=noE t.lo&&noE t.hi
def Yh (t:Typ):Bool:=decide (t.names.length=0)
def Eo (t:Typ):Bool:=
 if t.kind=1 then Ih t.names 64&&Aa3 t&&Aa2 t.sub&&Yg t.disc&&Af1 t&&!t.limited
 else if t.kind=2 then Yh t&&(Cg t.lo&&Cg t.hi)&&Aa2 t.sub&&Yg t.disc&&Af1 t&&!t.limited
 else if t.kind=3\/t.kind=6 then Yh t&&Aa3 t&&Cr t.sub&&Yg t.disc&&Af1 t&&!t.limited
 else if t.kind=4 then Yh t&&Aa3 t&&Cr t.sub&&Ib t.disc&&Af1 t&&!t.limited
 else if t.kind=5 then Yh t&&Aa3 t&&Aa2 t.sub&&Yg t.disc&&Pd t&&!t.limited
 else decide (t.kind=7)&&Yh t&&Aa3 t&&Aa2 t.sub&&Yg t.disc&&Af1 t
def Xo (a b:Ind):Bool:=Hq a.name b.name&&Hq a.lo b.lo&&Hq a.hi b.hi&&Hq a.value b.value
def Ad7 (a b:Dis):Bool:=Hq a.name b.name&&Hq a.lo b.lo&&Hq a.hi b.hi
def Cu1 {α:Type} (f:α->α->Bool):List α->List α->Bool
 | [],[]=>true
 | x::l,y::m=>f x y&&Cu1 f l m
 | _,_=>false
def Sc (a b:Par):Bool:=decide (a.names=b.names)&&decide (a.mode=b.mode)&&Hq a.type b.type&&Hq a.e b.e
def Ht:List UInt8:= [114,97,110,103,101]
def Fk:List UInt8:= [58]
def Kl:List UInt8:= [58,61]
def Dg:List UInt8:= [59]
def Tl:List UInt8:= [111,117,116]
def It:List UInt8:= [99,97,115,101]
def wIs:List UInt8:= [105,115]
def Ku:List UInt8:= [119,104,101,110]
def Ml:List UInt8:= [101,110,100]
def Cw:List UInt8:= [114,101,99,111,114,100]
def Bu0:List UInt8:= [110,101,119]
def Tm:List UInt8:= [97,114,114,97,121]
def wOf:List UInt8:= [111,102]
def Qj:List UInt8:= [97,99,99,101,115,115]
def Ic:List UInt8:= [112,114,105,118,97,116,101]
def Nh:List UInt8:= [108,105,109,105,116,101,100]
def Gi (a b:Ex):List Tok:=Ay a 2++(Ah Ev::Ay b 2)
def Mm (s:Ind):List Tok:=Am s.name++(if noE s.value then(if noE s.lo then [] else Ah Ht::Gi s.lo s.hi) else Ah Bi::(Am s.value++ [Ah Bt]))
def Ax2 (d:Dis):List Tok:=if noE d.lo then Am d.name else if noE d.name then Gi d.lo d.hi else Am d.name++(Ah Ht::Gi d.lo d.hi)
def Cp (l:List (List UInt8)):List Tok:=Ef Dh (l.map fun s=> [Ci s])
def Jx (e:Ex):List Tok:=if noE e then [] else Ah Kl::Am e
def Iu (m:Int):List Tok:=if m=2 then [Ah Tl] else if m=3 then [Ah wIn,Ah Tl] else []
def Jp (p:Par):List Tok:=Cp p.names++(Ah Fk::(Iu p.mode++(Am p.type++Jx p.e)))
def Oh (l:List Par):List Tok:=Ef Dg (l.map Jp)
def Eg7 (a:Asp):List Tok:=Ci a.name::Ah Bn::Am a.e
def Fy1 (l:List Asp):List Tok:=Ef Dh (l.map Eg7)
def Pj (c:Cmp):List Tok:=Cp c.names++(Ah Fk::(Mm c.sub++(Jx c.e++ [Ah Dg])))
def Pe (n:Int):Int:=IntKind.i64.wrap n
def We (l:List Cmp) (d:Int):List Lin:=if l.isEmpty then [⟨d,[Ah Ez,Ah Dg]⟩] else l.map fun c=>⟨d,Pj c⟩
def Wf (d:Int) (a:Arm):List Lin:=⟨Pe (d+2),Ah Ku::((Kt a.c).1++ [Ah Bn])⟩::We a.comps (Pe (d+3))
def Ch0 (t:Typ) (d:Int):List Lin:=
 ⟨d,[Ah Cw]⟩::((if t.comps.isEmpty then [] else We t.comps (Pe (d+1)))++
  ((if t.var= [] then [] else⟨Pe (d+1),[Ah It,Ci t.var,Ah wIs]⟩::(t.arms.flatMap (Wf d)++ [⟨Pe (d+1),[Ah Ml,Ah It,Ah Dg]⟩]))++ [⟨d,[Ah Ml,Ah Cw]⟩]))
def Lj (t:Typ) (d:Int):List Lin:=
 if t.kind=1 then [⟨d,Ah Bi::(Cp t.names++ [Ah Bt])⟩]
 else if t.kind=2 then [⟨d,Ah Ht::Gi t.lo t.hi⟩]
 else if t.kind=3 then [⟨d,Ah Bu0::Mm t.sub⟩]
 else if t.kind=4 then [⟨d,Ah Tm::Ah Bi::(Ax2 t.disc++(Ah Bt::Ah wOf::Mm t.sub))⟩]
 else if t.kind=6 then [⟨d,Ah Qj::Mm t.sub⟩]
 else if t.kind=7 then [⟨d,(if t.limited then [Ah Nh] else [])++ [Ah Ic]⟩]
 else if t.comps.isEmpty&&decide (t.var= []) then [⟨d,[Ah Ez,Ah Cw]⟩]
 else Ch0 t d
end Go.Dl
-- Chapter 3: the law's helpers.
namespace Go.Dl
open Go Go.Proofs
set_option maxRecDepth 100000
theorem Af.monoR {P:Program} {G:Nat->DVal} {f:FuncId} {args:List DVal} {H y:Ac} {v:DVal} {R:DEnd->Ac->Prop} (h:Af P G f args H (Au v y)) (k:R (.ret v) y):Af P G f args H R:=h.mono (by rintro _ _ ⟨rfl,rfl⟩;exact k)
section
end
def Df (s:Ind):List DVal:=dEx s.name++(dEx s.lo++(dEx s.hi++dEx s.value))
def Dz (d:Dis):List DVal:=dEx d.name++(dEx d.lo++dEx d.hi)
def Gj (p:Par):List DVal:=dW p.names:: .int .u8 p.mode::(dEx p.type++(dEx p.e++ [dI p.line]))
def Qw (a:Asp):List DVal:= .str a.name::dEx a.e
def Lk (c:Cmp):List DVal:=dW c.names::(Df c.sub++(dEx c.e++ [dI c.line]))
def Hr (l:List Par):DVal:= .vslice (l.flatMap Gj) l.length
def Lz (l:List Asp):DVal:= .vslice (l.flatMap Qw) l.length
def Ct (l:List Cmp):DVal:= .vslice (l.flatMap Lk) l.length
def Qc (a:Arm):List DVal:= [dCl a.c,Ct a.comps]
def Eg (l:List Arm):DVal:= .vslice (l.flatMap Qc) l.length
def Cs (t:Typ):List DVal:= .int .u8 t.kind::dW t.names::(dEx t.lo++(dEx t.hi++(Df t.sub++(Dz t.disc++ [Ct t.comps, .str t.var,Eg t.arms, .bool t.limited]))))
theorem Al (s:Ind):(Df s).length=36:=by simp [Df,Ad]
theorem Aw (s:Dis):(Dz s).length=27:=by simp [Dz,Ad]
theorem Ao (s:Par):(Gj s).length=21:=by simp [Gj,Ad]
theorem Ni (s:Asp):(Qw s).length=10:=by simp [Qw,Ad]
theorem Bp (s:Cmp):(Lk s).length=47:=by simp [Lk,Ad,Al]
theorem De (s:Arm):(Qc s).length=2:=rfl
theorem Cj (s:Typ):(Cs s).length=87:=by simp [Cs,Ad,Al,Aw]
theorem Ec (s:Ind):((Df s).all fun x=>x.one)=true:=by simp [Df,List.all_append,Bo]
theorem Ed (s:Dis):((Dz s).all fun x=>x.one)=true:=by simp [Dz,List.all_append,Bo]
theorem Fa9 (s:Par):((Gj s).all fun x=>x.one)=true:=by simp only[Gj,List.all_cons,List.all_append,Bo,Ec,Ed,List.all_nil,Bool.and_true,jS];rfl
theorem Fb0 (s:Asp):((Qw s).all fun x=>x.one)=true:=by simp only[Qw,List.all_cons,List.all_append,Bo,Ec,Ed,List.all_nil,Bool.and_true,jS];rfl
theorem Fb1 (s:Cmp):((Lk s).all fun x=>x.one)=true:=by simp only[Lk,List.all_cons,List.all_append,Bo,Ec,Ed,List.all_nil,Bool.and_true,jS];rfl
theorem Fb2 (s:Arm):((Qc s).all fun x=>x.one)=true:=by simp only[Qc,List.all_cons,List.all_append,Bo,Ec,Ed,List.all_nil,Bool.and_true,jS];rfl
theorem Cu2 (s:Typ):((Cs s).all fun x=>x.one)=true:=by simp only[Cs,List.all_cons,List.all_append,Bo,Ec,Ed,List.all_nil,Bool.and_true,jS];rfl
theorem Gg1 (s:Par):(Gj s).take 21=Gj s:=by rw[<-Ao s,List.take_length]
theorem Gg2 (s:Asp):(Qw s).take 10=Qw s:=by rw[<-Ni s,List.take_length]
theorem Gg3 (s:Cmp):(Lk s).take 47=Lk s:=by rw[<-Bp s,List.take_length]
theorem Gg4 (s:Arm):(Qc s).take 2=Qc s:=by rw[<-De s,List.take_length]
theorem Gg5 (s:Typ):(Cs s).take 87=Cs s:=by rw[<-Cj s,List.take_length]
attribute [go_sem] Gg1 Gg2 Gg3 Gg4 Gg5 Al Aw Ao Ni Bp De Cj Ec Ed Fa9 Fb0 Fb1 Fb2 Cu2
def Dn (n:Nat) (e:Ex):Prop:=Fh e<=n/\okE e
def Bp0 (n:Nat) (l:List (List UInt8)):Prop:=l.length<=n/\ ∀s∈l,s.length<=9223372036854775807
def Bp1 (n:Nat) (s:Ind):Prop:=Dn n s.name/\Dn n s.lo/\Dn n s.hi/\Dn n s.value
def Bz0 (n:Nat) (s:Dis):Prop:=Dn n s.name/\Dn n s.lo/\Dn n s.hi
def Yi (n:Nat) (p:Par):Prop:=Bp0 n p.names/\Dn n p.type/\Dn n p.e
def Dr3 (n:Nat) (a:Asp):Prop:=a.name.length<=9223372036854775807/\Dn n a.e
def Aa4 (n:Nat) (c:Cmp):Prop:=Bp0 n c.names/\Bp1 n c.sub/\Dn n c.e
def Mr {α:Type} (f:Nat->α->Prop) (n:Nat) (l:List α):Prop:=l.length<=n/\ ∀x∈l,f n x
def Di8 (n:Nat) (l:List Ch):Prop:=Jm l<=n/\Yp l
def Dr4 (n:Nat) (a:Arm):Prop:=Di8 n a.c/\Mr Aa4 n a.comps
def Wg (n:Nat) (t:Typ):Prop:=Bp0 n t.names/\Dn n t.lo/\Dn n t.hi/\Bp1 n t.sub/\Bz0 n t.disc/\Mr Aa4 n t.comps/\(t.var.length<=9223372036854775807/\0<=t.kind/\t.kind<=255)/\Mr Dr4 n t.arms
section
end
theorem Gq6 {e:Ex} (h:Dn 1048576 e):Fh e<=1099511627776:=by have:=h.1;omega
theorem Dn.fitx {e:Ex} (h:Dn 1048576 e):Fit e:=⟨by have:=h.1;omega,h.2⟩
theorem Fb3 {K:Ac}:Lt K (.agg [.int .u8 0, .int .u8 0, .int .i64 0, .str [], .nilSlice, .nilSlice, .int .i64 0, .int .i64 0, .int .i64 0]) K (.agg (dEx ex0)):=
 Lt.agg (Lt.ex (k:=0) (o:=0) (n:=0) (s:= []) (li:=0) (en:=0) (t:=0) (Sub.refl K) (.exs0 (Sub.refl K)) (.as0 (Sub.refl K)))
theorem Di9 (G:Nat->DVal) (H:Ac) (e:Ex) (he:Dn 1048576 e):Af Tryz.prog G 212 ([]++ [.agg (dEx e)]++ []) H (Au (.bool (!noE e)) H):=by
 refine Ab Tryz.func212 Tryz.call212 rfl (by kernel_rfl) ?_;simp(disch:=omega)only[go_sem,DVal.cells,jG,jH];intro r hr;dsimp only at hr;simp(disch:=omega)only[go_sem];refine((Kq.cons (Lt.keep (Sub.refl _) _) (Kq.cons Fb3 .nil)).call (Sub.refl _) (Kx G _ e ex0 (Gq6 he))).mono ?_;rintro _ H1 ⟨rfl,rfl⟩;simp(disch:=omega)only[go_sem];exact Es.dropA r hr (Es.refl ⟨rfl,rfl⟩)
theorem Bz1 (G:Nat->DVal) (H:Ac) (l:List Ex) (hl:l.length<=1099511627776) (hb: ∀x∈l,Dn 1048576 x):
  Af Tryz.prog G 112 [dXs l] H (Au (.bool (l.all noE)) H):=by
 refine Ab Tryz.func112 Tryz.call112 rfl (by kernel_rfl) ?_;simp(disch:=omega)only[go_sem,dXs];refine(Ag8 G _ (fun e=>!noE e) l 212 [] [] hl fun x hx=>Di9 G _ x (hb x hx)).mono ?_;rintro _ H1 ⟨rfl,rfl⟩;rw[Ut];simp(disch:=omega)only[go_sem];exact Es.refl ⟨by simp,rfl⟩
section
variable {G:Nat->DVal} (hG:GX G)
include hG
theorem Cu3 (H:Ac) (e:Ex) (he:Dn 1048576 e):Af Tryz.prog G 209 ([]++ [.agg (dEx e)]++ []) H (Au (.bool (!Cg e)) H):=by
 refine Ab Tryz.func209 Tryz.call209 rfl (by kernel_rfl) ?_;simp(disch:=omega)only[go_sem,DVal.cells,jG,jH];intro r hr;dsimp only at hr;simp(disch:=omega)only[go_sem];refine(Zt hG _ e he.fitx).mono ?_;rintro _ H1 ⟨rfl,rfl⟩;simp(disch:=omega)only[go_sem];exact Es.dropA r hr (Es.refl ⟨rfl,rfl⟩)
theorem Bp2 (H:Ac) (l:List Ex) (hl:l.length<=1099511627776) (hb: ∀x∈l,Dn 1048576 x):
  Af Tryz.prog G 102 [dXs l] H (Au (.bool (l.all Cg)) H):=by
 refine Ab Tryz.func102 Tryz.call102 rfl (by kernel_rfl) ?_;simp(disch:=omega)only[go_sem,dXs];refine(Ag8 G _ (fun e=>!Cg e) l 209 [] [] hl fun x hx=>Cu3 hG _ x (hb x hx)).mono ?_;rintro _ H1 ⟨rfl,rfl⟩;rw[Ut];simp(disch:=omega)only[go_sem];exact Es.refl ⟨by simp,rfl⟩
end
theorem Po (e:Ex) (l:List DVal):(dEx e++l).take 9=dEx e:=List.take_left' (Ad e)
theorem Dr (e:Ex) (l:List DVal) (k:Nat):(dEx e++l).drop (9+k)=l.drop k:=by
 rw[<-List.drop_drop,List.drop_left' (Ad e)]
theorem Gg6 (e:Ex):(dEx e).take 9=dEx e:=by rw[<-Ad e,List.take_length]
section
variable (s:Ind) (d:Dis) (p:Par) (a:Asp) (c:Cmp) (m:Arm) (t:Typ)
theorem Bv:(Df s).take 9=dEx s.name:=by rw[Df,Po]
theorem Bx:((Df s).drop 9).take 9=dEx s.lo:=by rw[Df,Dr _ _ 0,jJ,Po]
theorem By:((Df s).drop 18).take 9=dEx s.hi:=by rw[Df,Dr _ _ 9,Dr _ _ 0,jJ,Po]
theorem Bz:((Df s).drop 27).take 9=dEx s.value:=by rw[Df,Dr _ _ 18,Dr _ _ 9,Dr _ _ 0,jJ,Gg6]
theorem Jb:(Dz d).take 9=dEx d.name:=by rw[Dz,Po]
theorem Jc:((Dz d).drop 9).take 9=dEx d.lo:=by rw[Dz,Dr _ _ 0,jJ,Po]
theorem Jd:((Dz d).drop 18).take 9=dEx d.hi:=by rw[Dz,Dr _ _ 9,Dr _ _ 0,jJ,Gg6]
theorem Ck:(Gj p)[0]? =some (dW p.names):=rfl
theorem Cl:(Gj p)[1]? =some (.int .u8 p.mode):=rfl
theorem Cm:((Gj p).drop 2).take 9=dEx p.type:=by rw[Gj,jE,jE,jJ,Po]
theorem Bg:((Gj p).drop 11).take 9=dEx p.e:=by rw[Gj,jE,jE,Dr _ _ 0,jJ,Po]
theorem Cu4:(Qw a)[0]? =some (.str a.name):=rfl
theorem Cu5:((Qw a).drop 1).take 9=dEx a.e:=by rw[Qw,jE,jJ,Gg6]
theorem Gn:(Lk c)[0]? =some (dW c.names):=rfl
theorem Gp:((Lk c).drop 1).take 36=Df c.sub:=by rw[Lk,jE,jJ,List.take_left' (Al _)]
theorem Ee:((Lk c).drop 37).take 9=dEx c.e:=by
 rw[Lk,jE,List.drop_left' (Al _),Po]
theorem Ru:(Qc m)[0]? =some (dCl m.c):=rfl
theorem Rv:(Qc m)[1]? =some (Ct m.comps):=rfl
theorem Nj:(Cs t)[0]? =some (.int .u8 t.kind):=rfl
theorem Oi:(Cs t)[1]? =some (dW t.names):=rfl
theorem Oj:((Cs t).drop 2).take 9=dEx t.lo:=by rw[Cs,jE,jE,jJ,Po]
theorem Jq:((Cs t).drop 11).take 9=dEx t.hi:=by rw[Cs,jE,jE,Dr _ _ 0,jJ,Po]
theorem Jr:((Cs t).drop 20).take 36=Df t.sub:=by rw[Cs,jE,jE,Dr _ _ 9,Dr _ _ 0,jJ,List.take_left' (Al _)]
theorem Js:((Cs t).drop 56).take 27=Dz t.disc:=by
 rw[Cs,jE,jE,Dr _ _ 45,Dr _ _ 36,List.drop_left' (Al _),List.take_left' (Aw _)]
theorem Ap2 (k:Nat):(Cs t)[83+k]? = [Ct t.comps, .str t.var,Eg t.arms, .bool t.limited][k]? :=by
 have h1:Cs t=(.int .u8 t.kind::dW t.names::(dEx t.lo++(dEx t.hi++(Df t.sub++Dz t.disc))))++ [Ct t.comps, .str t.var,Eg t.arms, .bool t.limited]:=by simp [Cs]
 rw[h1,List.getElem?_append_right (by simp [Ad,Al,Aw])];congr 1;simp [Ad,Al,Aw]
theorem Jt:(Cs t)[83]? =some (Ct t.comps):=Ap2 t 0
theorem Ju:(Cs t)[84]? =some (.str t.var):=Ap2 t 1
theorem Jv:(Cs t)[85]? =some (Eg t.arms):=Ap2 t 2
theorem Jw:(Cs t)[86]? =some (.bool t.limited):=Ap2 t 3
end
section
variable (G:Nat->DVal) (H:Ac)
theorem Ap3 {e:Ex} {n:Nat} (h:Dn n e) (y:n<=1048576):Fh e<=1099511627776:=by have:=h.1;omega
theorem Ch1 (a b:Ind) (ha:Bp1 1048576 a):Af Tryz.prog G 37 [.agg (Df a), .agg (Df b)] H (Au (.bool (Xo a b)) H):=by
 obtain⟨W,X,Y,Z⟩:=ha;refine Ab Tryz.func37 Tryz.call37 rfl (by kernel_rfl) ?_;simp(disch:=omega)only[go_sem,DVal.cells,jG,jH];intro I L;dsimp only at L;obtain⟨C,D⟩: ∃K',K'=upd H I (some (.cells (Df a) 56)):=⟨_,rfl⟩;rw[<-D];have M:C I=some (.cells (Df a) 56):=by rw[D];exact Aa _ _ _
 have O:Sub H C:=by rw[D];exact(Sub.refl _).new L _
 simp(disch:=omega)only[go_sem,DVal.cells,jG,jH];intro S U;dsimp only at U;obtain⟨K,E⟩: ∃K',K'=upd C S (some (.cells (Df b) 56)):=⟨_,rfl⟩;rw[<-E];have V:K S=some (.cells (Df b) 56):=by rw[E];exact Aa _ _ _
 have J:Sub C K:=by rw[E];exact(Sub.refl _).new U _
 have h:K I=some (.cells (Df a) 56):=J _ _ M;have y:=V;have t:Sub H K:=O.trans J;clear J O V M E D;simp(disch:=omega)only[go_sem,h,y,Al,Bv,Bx,By,Bz];refine Af.monoR (Kx G K a.name b.name (Ap3 W (by omega))) ?_;cases h1:Hq a.name b.name
 ·simp(disch:=omega)only[go_sem,h,y,Al,Bv,Bx,By,Bz];exact Es.sub t (.refl ⟨by simp [Xo, *],rfl⟩)
 simp(disch:=omega)only[go_sem,h,y,Al,Bv,Bx,By,Bz];refine Af.monoR (Kx G K a.lo b.lo (Ap3 X (by omega))) ?_;cases h2:Hq a.lo b.lo
 ·simp(disch:=omega)only[go_sem,h,y,Al,Bv,Bx,By,Bz];exact Es.sub t (.refl ⟨by simp [Xo, *],rfl⟩)
 simp(disch:=omega)only[go_sem,h,y,Al,Bv,Bx,By,Bz];refine Af.monoR (Kx G K a.hi b.hi (Ap3 Y (by omega))) ?_;cases h3:Hq a.hi b.hi
 ·simp(disch:=omega)only[go_sem,h,y,Al,Bv,Bx,By,Bz];exact Es.sub t (.refl ⟨by simp [Xo, *],rfl⟩)
 simp(disch:=omega)only[go_sem,h,y,Al,Bv,Bx,By,Bz];refine Af.monoR (Kx G K a.value b.value (Ap3 Z (by omega))) ?_;cases h4:Hq a.value b.value
 ·simp(disch:=omega)only[go_sem,h,y,Al,Bv,Bx,By,Bz];exact Es.sub t (.refl ⟨by simp [Xo, *],rfl⟩)
 simp(disch:=omega)only[go_sem,h,y,Al,Bv,Bx,By,Bz];exact Es.sub t (.refl ⟨by simp [Xo, *],rfl⟩)
theorem Ch2 (a b:Dis) (ha:Bz0 1048576 a):Af Tryz.prog G 33 [.agg (Dz a), .agg (Dz b)] H (Au (.bool (Ad7 a b)) H):=by
 obtain⟨W,X,Y⟩:=ha;refine Ab Tryz.func33 Tryz.call33 rfl (by kernel_rfl) ?_;simp(disch:=omega)only[go_sem,DVal.cells,jG,jH];intro I L;dsimp only at L;obtain⟨C,D⟩: ∃K',K'=upd H I (some (.cells (Dz a) 58)):=⟨_,rfl⟩;rw[<-D];have M:C I=some (.cells (Dz a) 58):=by rw[D];exact Aa _ _ _
 have O:Sub H C:=by rw[D];exact(Sub.refl _).new L _
 simp(disch:=omega)only[go_sem,DVal.cells,jG,jH];intro S U;dsimp only at U;obtain⟨K,E⟩: ∃K',K'=upd C S (some (.cells (Dz b) 58)):=⟨_,rfl⟩;rw[<-E];have V:K S=some (.cells (Dz b) 58):=by rw[E];exact Aa _ _ _
 have J:Sub C K:=by rw[E];exact(Sub.refl _).new U _
 have h:K I=some (.cells (Dz a) 58):=J _ _ M;have y:=V;have t:Sub H K:=O.trans J;clear J O V M E D;simp(disch:=omega)only[go_sem,h,y,Aw,Jb,Jc,Jd];refine Af.monoR (Kx G K a.name b.name (Ap3 W (by omega))) ?_;cases h1:Hq a.name b.name
 ·simp(disch:=omega)only[go_sem,h,y,Aw,Jb,Jc,Jd];exact Es.sub t (.refl ⟨by simp [Ad7, *],rfl⟩)
 simp(disch:=omega)only[go_sem,h,y,Aw,Jb,Jc,Jd];refine Af.monoR (Kx G K a.lo b.lo (Ap3 X (by omega))) ?_;cases h2:Hq a.lo b.lo
 ·simp(disch:=omega)only[go_sem,h,y,Aw,Jb,Jc,Jd];exact Es.sub t (.refl ⟨by simp [Ad7, *],rfl⟩)
 simp(disch:=omega)only[go_sem,h,y,Aw,Jb,Jc,Jd];refine Af.monoR (Kx G K a.hi b.hi (Ap3 Y (by omega))) ?_;cases h3:Hq a.hi b.hi
 ·simp(disch:=omega)only[go_sem,h,y,Aw,Jb,Jc,Jd];exact Es.sub t (.refl ⟨by simp [Ad7, *],rfl⟩)
 simp(disch:=omega)only[go_sem,h,y,Aw,Jb,Jc,Jd];exact Es.sub t (.refl ⟨by simp [Ad7, *],rfl⟩)
theorem Bu1 {α:Type} {a b:List α} {i:Nat} (ha:i<a.length) (hb:i<b.length) (h:a.take i=b.take i) (e:a[i]=b[i]):a.take (i+1)=b.take (i+1):=by
 rw[List.take_add_one,List.take_add_one,List.getElem?_eq_getElem ha,List.getElem?_eq_getElem hb,h,e]
theorem Cu6 (a b:List (List UInt8)) (ha:a.length<=1099511627776) (hb:b.length<=1099511627776):Af Tryz.prog G 113 [dW a,dW b] H (Au (.bool (decide (a=b))) H):=by
 refine Ab Tryz.func113 Tryz.call113 rfl (by kernel_rfl) ?_;by_cases hl:a.length=b.length
 ·simp(disch:=omega)only[go_sem,hl,dW];obtain⟨I,C⟩: ∃I:Nat->(Nat->DVal)->Ac->Prop,∀i env heap,I i env heap↔(H=heap/\env 0= .vslice (a.map .str) a.length/\env 1= .vslice (b.map .str) b.length/\env 12=dI b.length/\env 13=dI i/\i<=a.length/\a.take i=b.take i):=⟨_,fun _ _ _=>Iff.rfl⟩;refine Dn5.run I (fun i=>a.length-i) 0 ((C _ _ _).2 ?_) ?_
  ·simp(disch:=omega)only[go_sem];simp [hl]
  ·intro i env heap hi;obtain⟨rfl,h0,h1,h,y,hi,ht⟩:=(C _ _ _).1 hi;by_cases D:i<a.length
   ·have E:i<b.length:=by omega
    by_cases hx:a[i]=b[i]
    ·simp(disch:=omega)only[go_sem,h0,h1,h,y,hx];refine Aj (by kernel_rfl) pL15 (by kernel_rfl) ?_;simp(disch:=omega)only[go_sem,h0,h1,h,y,hx];refine⟨i+1,_,Ri.refl _,(C _ _ _).2 ?_,by omega⟩;simp(disch:=omega)only[go_sem,h0,h1,h,y];(repeat' apply And.intro)<;>(try first | rfl | assumption | omega);exact Bu1 D E ht hx
    ·simp(disch:=omega)only[go_sem,h0,h1,h,y,hx];refine Aj (by kernel_rfl) pL15 (by kernel_rfl) ?_;simp(disch:=omega)only[go_sem,h0,h1,h,y,hx];refine Es.refl ⟨?_,rfl⟩;rw[decide_eq_false (fun e=>hx (by subst e;rfl))]
   ·simp(disch:=omega)only[go_sem,h0,h1,h,y];refine Es.refl ⟨?_,rfl⟩;have:a=b:=by
     rw[List.take_of_length_le (by omega),List.take_of_length_le (by omega)] at ht;exact ht
    rw[decide_eq_true this]
 ·simp(disch:=omega)only[go_sem,hl,dW];refine Es.refl ⟨?_,rfl⟩;rw[decide_eq_false (fun e=>hl (by rw[e]))]
end
theorem Eg8 {d:Nat} {x:Ex} (h:Fc d x=true) (C:x.kind=4): ∃y ys,x.l=y::ys:=by
 have hf:=(Is h).1;unfold Bc at hf;rw[if_neg (by omega),if_neg (by omega),if_neg (by omega),if_pos (.inl C)] at hf;cases hl:x.l with
 | nil=>simp [Jk,hl] at hf
 | cons y ys=>exact⟨y,ys,rfl⟩
theorem Gg7:True:=trivial
section
variable {G:Nat->DVal} (hG:GX G)
include hG
theorem Mn (H:Ac) (e:Ex) (he:Dn 1048576 e):Af Tryz.prog G 89 [.agg (dEx e)] H (Au (.bool (Hu e)) H):=by
 refine Ab Tryz.func89 Tryz.call89 rfl (by kernel_rfl) ?_;simp(disch:=omega)only[go_sem,DVal.cells];intro r hr;dsimp only at hr;simp(disch:=omega)only[go_sem];have h1:=he.1;refine(Zt hG _ e he.fitx).mono ?_;rintro _ H1 ⟨rfl,rfl⟩;cases hm:Cg e
 ·simp(disch:=omega)only[go_sem];exact Es.dropA r hr (Es.refl ⟨by simp [Hu,hm],rfl⟩)
 ·simp(disch:=omega)only[go_sem];have hv:Fc 1 e=true:=by unfold Cg at hm;simp only[jF] at hm;exact hm.1
  have J:Hu e=Ye (Hx e) e:=by rw[Hu,hm,jS]
  rw[J];obtain⟨I,D⟩: ∃I:Ex×Nat->(Nat->DVal)->Ac->Prop,∀h env heap,I h env heap↔(env 1= .optr r 0/\heap=upd H r (some (.cells (dEx h.1) 27))/\Hx h.1<=h.2/\Ye h.2 h.1=Ye (Hx e) e/\ ∃d,Fc d h.1=true):=⟨_,fun _ _ _=>Iff.rfl⟩;refine Dn5.run I (fun h=>h.2) (e,Hx e) ((D _ _ _).2 ?_) ?_
  ·simp(disch:=omega)only[go_sem];exact⟨1,hv⟩
  ·rintro⟨x,n⟩ env heap hi;obtain⟨e1,rfl,hn,hk,d,hd⟩:=(D _ _ _).1 hi;dsimp only at hn hk hd;have hg:upd H r (some (.cells (dEx x) 27)) r=some (.cells (dEx x) 27):=Aa _ _ _;have V:0<Hx x:=by rw[Sl];omega
   obtain⟨n,rfl⟩: ∃m,n=m+1:=⟨n-1,by omega⟩;rw[Ye] at hk;by_cases h4:x.kind=4
   ·obtain⟨y,ys,C⟩:=Eg8 hd h4;rw[if_pos h4,C] at hk;have E:y∈parts x:=by rw[parts,C];simp
    have W:=Az3 E;have L:=(Is hd).2 y E;have M:(x.l.flatMap dEx).take 9=dEx y:=by rw[C,List.flatMap_cons,Po]
    have O:9<=(x.l.flatMap dEx).length:=by rw[C,List.flatMap_cons,jC,Ad];omega
    have S:(0:Int)<(x.l.length:Int):=by rw[C,jA];omega
    have U:0<(x.l.flatMap dEx).length:=by omega
    simp(disch:=omega)only[go_sem,e1,hg,h4,M,O,S,U,Ad,Bo];refine⟨(y,n),_,Ri.refl _,(D _ _ _).2 ?_,by omega⟩;simp(disch:=omega)only[go_sem,e1];(repeat' apply And.intro)<;>(try first | rfl | assumption | omega);exact⟨d+1,L⟩
   ·rw[if_neg h4] at hk;simp(disch:=omega)only[go_sem,e1,hg,h4];exact Es.dropA r hr (Es.refl ⟨by rw[<-hk],rfl⟩)
end
theorem Gg8 (G:Nat->DVal) (H:Ac) (p:(List UInt8)->Bool) (l:List (List UInt8)) (g:FuncId) (xs y:List DVal) (hl:l.length<=1099511627776)
  (hp: ∀x∈l,Af Tryz.prog G g (xs++ [.str x]++y) H (Au (.bool (p x)) H)):
  Af Tryz.prog G 276 [.vslice (l.map .str) l.length, .func (.func g) xs y] H (Au (dI (Bc3 p l)) H):=by
 refine Ab Tryz.func276 Tryz.call276 rfl (by kernel_rfl) ?_;simp(disch:=omega)only[go_sem];refine Dn5.run (fun(i:Nat) env heap=>heap=H/\env 0= .vslice (l.map .str) l.length/\env 1= .func (.func g) xs y/\env 7=dI l.length/\env 8=dI i/\i<=l.length/\ ∀x∈l.take i,p x=false) (fun i=>l.length-i) 0 ?_ ?_
 ·simp(disch:=omega)only[go_sem];simp
 ·rintro i env heap ⟨rfl,h0,h1,h7,h8,hi,hn⟩;by_cases h:i<l.length
  ·skip
   simp(disch:=omega)only[go_sem,h0,h1,h7,h8,h];have hc:=hp l[i] (List.getElem_mem h)
   skip
   refine hc.mono ?_;rintro _ H ⟨rfl,rfl⟩;cases hx:p l[i] with
   | true=>
    simp(disch:=omega)only[go_sem,h0,h1,h7,h8];exact Es.refl ⟨by rw[Ac3 h hx hn],rfl⟩
   | false=>
    simp(disch:=omega)only[go_sem,h0,h1,h7,h8];refine⟨i+1,_,Ri.refl _, ?_,by omega⟩;simp(disch:=omega)only[go_sem,h0,h1,h7,h8];(repeat' apply And.intro)<;>(try first | rfl | assumption | omega);exact Mh h hn hx
  ·simp(disch:=omega)only[go_sem,h0,h1,h7,h8];have:i=l.length:=by omega
   subst this;rw[List.take_length] at hn;exact Es.refl ⟨by rw[Ac4 hn],rfl⟩
theorem Eg9 (G:Nat->DVal) (H:Ac) (p:List UInt8->Bool) (l:List (List UInt8)) (g:FuncId) (xs h:List DVal) (hl:l.length<=1099511627776)
  (hp: ∀x∈l,Af Tryz.prog G g (xs++ [.str x]++h) H (Au (.bool (p x)) H)):
  Af Tryz.prog G 207 [.vslice (l.map .str) l.length, .func (.func g) xs h] H (Au (.bool (l.any p)) H):=by
 refine Ab Tryz.func207 Tryz.call207 rfl (by kernel_rfl) ?_;simp(disch:=omega)only[go_sem];refine(Gg8 G H p l g xs h hl hp).mono ?_;rintro _ H ⟨rfl,rfl⟩;simp(disch:=omega)only[go_sem];exact Es.refl ⟨by rw[Vs],rfl⟩
section
variable {G:Nat->DVal} (hG:GX G)
include hG
theorem Cu7 (H:Ac) (s:List UInt8) (hs:s.length<=9223372036854775807):Af Tryz.prog G 208 ([]++ [.str s]++ []) H (Au (.bool (!Lo s)) H):=by
 refine Ab Tryz.func208 Tryz.call208 rfl (by kernel_rfl) ?_;simp(disch:=omega)only[go_sem,jG,jH];refine(Xb hG _ s hs).mono ?_;rintro _ H1 ⟨rfl,rfl⟩;simp(disch:=omega)only[go_sem];exact Es.refl ⟨rfl,rfl⟩
theorem Ai3 (H:Ac) (l:List (List UInt8)) (m:Nat) (hl:Bp0 1048576 l):Af Tryz.prog G 100 [dW l,dI m] H (Au (.bool (Ih l m)) H):=by
 have C:=hl.1;refine Ab Tryz.func100 Tryz.call100 rfl (by kernel_rfl) ?_;simp(disch:=omega)only[go_sem,dW];by_cases h0:0<l.length
 ·have h:(0:Int)<(l.length:Int):=by omega
  by_cases h1:l.length<=m
  ·have y:(l.length:Int)<=(m:Int):=by omega
   simp(disch:=omega)only[go_sem,h,y];refine(Eg9 G _ (fun e=>!Lo e) l 208 [] [] (by omega) fun x hx=>Cu7 hG _ x (hl.2 x hx)).mono ?_;rintro _ H1 ⟨rfl,rfl⟩;rw[Ut];simp(disch:=omega)only[go_sem];exact Es.refl ⟨by simp [Ih,h1];omega,rfl⟩
  ·have y: ¬(l.length:Int)<=(m:Int):=by omega
   simp(disch:=omega)only[go_sem,h,y];exact Es.refl ⟨by simp [Ih,h1],rfl⟩
 ·have h: ¬(0:Int)<(l.length:Int):=by omega
  simp(disch:=omega)only[go_sem,h];exact Es.refl ⟨by simp [Ih];omega,rfl⟩
end
theorem Rw (d:Dis):(Dz d)[0]? =some (.int .u8 d.name.kind):=by
 obtain⟨⟨k,o,n,s,l,a,li,en,t⟩,lo,hi⟩:=d;simp [Dz,Xf,Ex.kind]
theorem Iy (G:Nat->DVal) (H:Ac) (l:List Ex) (r:Nat) (y:H r=some (.cells (l.flatMap dEx) 27)) (hl:l.length<=1099511627776) (hb: ∀x∈l,Dn 1048576 x):
  Af Tryz.prog G 112 [.oslice 9 r 0 l.length l.length] H (Au (.bool (l.all noE)) H):=
 Kq.lent (H:=h0) (Kq.cons (Lt.cells (fun _ _ h=>by cases h) rfl y (Ax Ad l) (.keep (fun _ _ h=>by cases h) _)) .nil) (Bz1 G h0 l hl hb) rfl
section
variable {G:Nat->DVal} (hG:GX G)
include hG
theorem Gq (H:Ac) (l:List Ex) (r:Nat) (y:H r=some (.cells (l.flatMap dEx) 27)) (hl:l.length<=1099511627776) (hb: ∀x∈l,Dn 1048576 x):
  Af Tryz.prog G 102 [.oslice 9 r 0 l.length l.length] H (Au (.bool (l.all Cg)) H):=
 Kq.lent (H:=h0) (Kq.cons (Lt.cells (fun _ _ h=>by cases h) rfl y (Ax Ad l) (.keep (fun _ _ h=>by cases h) _)) .nil) (Bp2 hG h0 l hl hb) rfl
set_option maxHeartbeats 40000000 in
theorem Qy (H:Ac) (s:Ind) (hs:Bp1 1048576 s):Af Tryz.prog G 104 [.agg (Df s)] H (Au (.bool (Cr s)) H):=by
 obtain⟨f0,f1,f2,f3⟩:=hs;have p2: ∀x∈ [s.lo,s.hi],Dn 1048576 x:=by intro x hx;simp at hx;rcases hx with rfl | rfl<;>assumption
 have p1: ∀x∈ [s.value],Dn 1048576 x:=by intro x hx;simp at hx;subst hx;assumption
 have e2: [s.lo,s.hi].all noE=(noE s.lo&&noE s.hi):=by simp
 have e1: [s.value].all noE=noE s.value:=by simp
 have d2: [s.lo,s.hi].all Cg=(Cg s.lo&&Cg s.hi):=by simp
 have d1: [s.value].all Cg=Cg s.value:=by simp
 have q2: [s.lo,s.hi].flatMap dEx=dEx s.lo++dEx s.hi:=by simp
 have q1: [s.value].flatMap dEx=dEx s.value:=by simp
 refine Ab Tryz.func104 Tryz.call104 rfl (by kernel_rfl) ?_;simp(disch:=omega)only[go_sem,DVal.cells];intro L aj;dsimp only at aj;obtain⟨K,hK⟩: ∃K',K'=upd H L (some (.cells (Df s) 56)):=⟨_,rfl⟩;rw[<-hK];have ab:K L=some (.cells (Df s) 56):=by rw[hK];exact Aa _ _ _
 have sK:Sub H K:=by rw[hK];exact(Sub.refl _).new aj _
 simp(disch:=omega)only[go_sem,ab,Al,Bv,Bx,By,Bz,Ai (Ad _),Ap (Ad _) (Ad _)];refine Aj (by kernel_rfl) (.take 0 (.take 1 (.take 2 (.take 3 (.take 7 (.take 8 (.alt (.go 9 [3,1] (.go 4 [8] (.go 5 [8] (.take 6 (.go 10 [] (.take 11 (.take 12 (.take 13 .done)))))))) (.go 4 [8] (.alt (.go 9 [3,1] (.go 5 [8] (.take 6 (.go 10 [] (.take 11 (.take 12 (.take 13 .done))))))) (.go 5 [8] (.take 6 (.go 9 [3,1] (.go 10 [] (.take 11 (.take 12 (.take 13 .done)))))))))))))))) (by kernel_rfl) ?_;simp(disch:=omega)only[go_sem,ab,Al,Bv,Bx,By,Bz,Ai (Ad _),Ap (Ad _) (Ad _)];refine⟨?_, ?_⟩
 ·intro M Y;dsimp only at Y;obtain⟨J,ac⟩: ∃K',K'=upd K M (some (.cells (dEx s.value) 27)):=⟨_,rfl⟩;rw[<-ac];have ae:J M=some (.cells (dEx s.value) 27):=by rw[ac];exact Aa _ _ _
  have ad:Sub K J:=by rw[ac];exact(Sub.refl _).new Y _
  have O:J L=some (.cells (Df s) 56):=ad _ _ ab;simp(disch:=omega)only[go_sem,O,Al,Bv,Bx,By,Bz,Ai (Ad _),Ap (Ad _) (Ad _)];refine⟨⟨ab.symm,ab.symm⟩, ?_⟩;intro X af;dsimp only at af;obtain⟨h,S⟩: ∃K',K'=upd J X (some (.cells (dEx s.lo++dEx s.hi) 27)):=⟨_,rfl⟩;rw[<-S];have ai:h X=some (.cells (dEx s.lo++dEx s.hi) 27):=by rw[S];exact Aa _ _ _
  have W:Sub J h:=by rw[S];exact(Sub.refl _).new af _
  have y:h L=some (.cells (Df s) 56):=W _ _ O;have ak:h M=some (.cells (dEx s.value) 27):=W _ _ ae;have t:Sub H h:=sK.trans (ad.trans W);simp(disch:=omega)only[go_sem,y,Al,Bv,Bx,By,Bz,Ai (Ad _),Ap (Ad _) (Ad _)];refine⟨O.symm, ?_⟩;refine Af.monoR (Iy G h [s.lo,s.hi] X (by rw[q2];exact ai) (by simp) p2) ?_;rw[e2];simp(disch:=omega)only[go_sem,y,Al,Bv,Bx,By,Bz,Ai (Ad _),Ap (Ad _) (Ad _)];refine Af.monoR (Iy G h [s.value] M (by rw[q1];exact ak) (by simp) p1) ?_;rw[e1];simp(disch:=omega)only[go_sem,y,Al,Bv,Bx,By,Bz,Ai (Ad _),Ap (Ad _) (Ad _)];refine Af.monoR (Mn hG h s.name f0) ?_;cases h3:Hu s.name
  ·simp(disch:=omega)only[go_sem,y,Al,Bv,Bx,By,Bz,Ai (Ad _),Ap (Ad _) (Ad _)];exact Es.sub t (.refl ⟨by simp [Cr, *],rfl⟩)
  ·cases h1:(noE s.lo&&noE s.hi)<;>cases h2:noE s.value
   ·simp(disch:=omega)only[go_sem,y,Al,Bv,Bx,By,Bz,Ai (Ad _),Ap (Ad _) (Ad _)];exact Es.sub t (.refl ⟨by rw[Cr,h3,h2,h1];simp,rfl⟩)
   ·simp(disch:=omega)only[go_sem,y,Al,Bv,Bx,By,Bz,Ai (Ad _),Ap (Ad _) (Ad _)];intro U Z;dsimp only at Z;obtain⟨C,D⟩: ∃K',K'=upd h U (some (.cells (dEx s.lo++dEx s.hi) 27)):=⟨_,rfl⟩;rw[<-D];have ag:C U=some (.cells (dEx s.lo++dEx s.hi) 27):=by rw[D];exact Aa _ _ _
    have E:Sub h C:=by rw[D];exact(Sub.refl _).new Z _
    have I:C L=some (.cells (Df s) 56):=E _ _ y;simp(disch:=omega)only[go_sem,I,Al,Bv,Bx,By,Bz,Ai (Ad _),Ap (Ad _) (Ad _)];refine Af.monoR (Gq hG C [s.lo,s.hi] U (by rw[q2];exact ag) (by simp) p2) ?_;rw[d2];cases h5:(Cg s.lo&&Cg s.hi)
    ·simp(disch:=omega)only[go_sem,I,Al,Bv,Bx,By,Bz,Ai (Ad _),Ap (Ad _) (Ad _)];exact Es.sub (t.trans E) (.refl ⟨by rw[Cr,h3,h2,h1,h5];simp,rfl⟩)
    ·simp(disch:=omega)only[go_sem,I,Al,Bv,Bx,By,Bz,Ai (Ad _),Ap (Ad _) (Ad _)];exact Es.sub (t.trans E) (.refl ⟨by rw[Cr,h3,h2,h1,h5];simp,rfl⟩)
   ·simp(disch:=omega)only[go_sem,y,Al,Bv,Bx,By,Bz,Ai (Ad _),Ap (Ad _) (Ad _)];intro V aa;dsimp only at aa;obtain⟨C,D⟩: ∃K',K'=upd h V (some (.cells (dEx s.value) 27)):=⟨_,rfl⟩;rw[<-D];have ah:C V=some (.cells (dEx s.value) 27):=by rw[D];exact Aa _ _ _
    have E:Sub h C:=by rw[D];exact(Sub.refl _).new aa _
    have I:C L=some (.cells (Df s) 56):=E _ _ y;simp(disch:=omega)only[go_sem,I,Al,Bv,Bx,By,Bz,Ai (Ad _),Ap (Ad _) (Ad _)];refine Af.monoR (Gq hG C [s.value] V (by rw[q1];exact ah) (by simp) p1) ?_;rw[d1];cases h5:Cg s.value
    ·simp(disch:=omega)only[go_sem,I,Al,Bv,Bx,By,Bz,Ai (Ad _),Ap (Ad _) (Ad _)];exact Es.sub (t.trans E) (.refl ⟨by rw[Cr,h3,h2,h1,h5];simp,rfl⟩)
    ·simp(disch:=omega)only[go_sem,I,Al,Bv,Bx,By,Bz,Ai (Ad _),Ap (Ad _) (Ad _)];exact Es.sub (t.trans E) (.refl ⟨by rw[Cr,h3,h2,h1,h5];simp,rfl⟩)
   ·simp(disch:=omega)only[go_sem,y,Al,Bv,Bx,By,Bz,Ai (Ad _),Ap (Ad _) (Ad _)];exact Es.sub t (.refl ⟨by rw[Cr,h3,h2,h1];simp,rfl⟩)
 ·intro X af;dsimp only at af;obtain⟨J,ac⟩: ∃K',K'=upd K X (some (.cells (dEx s.lo++dEx s.hi) 27)):=⟨_,rfl⟩;rw[<-ac];have ai:J X=some (.cells (dEx s.lo++dEx s.hi) 27):=by rw[ac];exact Aa _ _ _
  have ad:Sub K J:=by rw[ac];exact(Sub.refl _).new af _
  have O:J L=some (.cells (Df s) 56):=ad _ _ ab;simp(disch:=omega)only[go_sem,O,Al,Bv,Bx,By,Bz,Ai (Ad _),Ap (Ad _) (Ad _)];refine⟨ab.symm, ?_, ?_⟩
  ·intro M Y;dsimp only at Y;obtain⟨h,S⟩: ∃K',K'=upd J M (some (.cells (dEx s.value) 27)):=⟨_,rfl⟩;rw[<-S];have ae:h M=some (.cells (dEx s.value) 27):=by rw[S];exact Aa _ _ _
   have W:Sub J h:=by rw[S];exact(Sub.refl _).new Y _
   have y:h L=some (.cells (Df s) 56):=W _ _ O;have g9:h X=some (.cells (dEx s.lo++dEx s.hi) 27):=W _ _ ai;have t:Sub H h:=sK.trans (ad.trans W);simp(disch:=omega)only[go_sem,y,Al,Bv,Bx,By,Bz,Ai (Ad _),Ap (Ad _) (Ad _)];refine⟨⟨O.symm,O.symm⟩, ?_⟩;refine Af.monoR (Iy G h [s.lo,s.hi] X (by rw[q2];exact g9) (by simp) p2) ?_;rw[e2];simp(disch:=omega)only[go_sem,y,Al,Bv,Bx,By,Bz,Ai (Ad _),Ap (Ad _) (Ad _)];refine Af.monoR (Iy G h [s.value] M (by rw[q1];exact ae) (by simp) p1) ?_;rw[e1];simp(disch:=omega)only[go_sem,y,Al,Bv,Bx,By,Bz,Ai (Ad _),Ap (Ad _) (Ad _)];refine Af.monoR (Mn hG h s.name f0) ?_;cases h3:Hu s.name
   ·simp(disch:=omega)only[go_sem,y,Al,Bv,Bx,By,Bz,Ai (Ad _),Ap (Ad _) (Ad _)];exact Es.sub t (.refl ⟨by simp [Cr, *],rfl⟩)
   ·cases h1:(noE s.lo&&noE s.hi)<;>cases h2:noE s.value
    ·simp(disch:=omega)only[go_sem,y,Al,Bv,Bx,By,Bz,Ai (Ad _),Ap (Ad _) (Ad _)];exact Es.sub t (.refl ⟨by rw[Cr,h3,h2,h1];simp,rfl⟩)
    ·simp(disch:=omega)only[go_sem,y,Al,Bv,Bx,By,Bz,Ai (Ad _),Ap (Ad _) (Ad _)];intro U Z;dsimp only at Z;obtain⟨C,D⟩: ∃K',K'=upd h U (some (.cells (dEx s.lo++dEx s.hi) 27)):=⟨_,rfl⟩;rw[<-D];have ag:C U=some (.cells (dEx s.lo++dEx s.hi) 27):=by rw[D];exact Aa _ _ _
     have E:Sub h C:=by rw[D];exact(Sub.refl _).new Z _
     have I:C L=some (.cells (Df s) 56):=E _ _ y;simp(disch:=omega)only[go_sem,I,Al,Bv,Bx,By,Bz,Ai (Ad _),Ap (Ad _) (Ad _)];refine Af.monoR (Gq hG C [s.lo,s.hi] U (by rw[q2];exact ag) (by simp) p2) ?_;rw[d2];cases h5:(Cg s.lo&&Cg s.hi)
     ·simp(disch:=omega)only[go_sem,I,Al,Bv,Bx,By,Bz,Ai (Ad _),Ap (Ad _) (Ad _)];exact Es.sub (t.trans E) (.refl ⟨by rw[Cr,h3,h2,h1,h5];simp,rfl⟩)
     ·simp(disch:=omega)only[go_sem,I,Al,Bv,Bx,By,Bz,Ai (Ad _),Ap (Ad _) (Ad _)];exact Es.sub (t.trans E) (.refl ⟨by rw[Cr,h3,h2,h1,h5];simp,rfl⟩)
    ·simp(disch:=omega)only[go_sem,y,Al,Bv,Bx,By,Bz,Ai (Ad _),Ap (Ad _) (Ad _)];intro V aa;dsimp only at aa;obtain⟨C,D⟩: ∃K',K'=upd h V (some (.cells (dEx s.value) 27)):=⟨_,rfl⟩;rw[<-D];have ah:C V=some (.cells (dEx s.value) 27):=by rw[D];exact Aa _ _ _
     have E:Sub h C:=by rw[D];exact(Sub.refl _).new aa _
     have I:C L=some (.cells (Df s) 56):=E _ _ y;simp(disch:=omega)only[go_sem,I,Al,Bv,Bx,By,Bz,Ai (Ad _),Ap (Ad _) (Ad _)];refine Af.monoR (Gq hG C [s.value] V (by rw[q1];exact ah) (by simp) p1) ?_;rw[d1];cases h5:Cg s.value
     ·simp(disch:=omega)only[go_sem,I,Al,Bv,Bx,By,Bz,Ai (Ad _),Ap (Ad _) (Ad _)];exact Es.sub (t.trans E) (.refl ⟨by rw[Cr,h3,h2,h1,h5];simp,rfl⟩)
     ·simp(disch:=omega)only[go_sem,I,Al,Bv,Bx,By,Bz,Ai (Ad _),Ap (Ad _) (Ad _)];exact Es.sub (t.trans E) (.refl ⟨by rw[Cr,h3,h2,h1,h5];simp,rfl⟩)
    ·simp(disch:=omega)only[go_sem,y,Al,Bv,Bx,By,Bz,Ai (Ad _),Ap (Ad _) (Ad _)];exact Es.sub t (.refl ⟨by rw[Cr,h3,h2,h1];simp,rfl⟩)
  ·refine Af.monoR (Iy G J [s.lo,s.hi] X (by rw[q2];exact ai) (by simp) p2) ?_;rw[e2];simp(disch:=omega)only[go_sem,O,Al,Bv,Bx,By,Bz,Ai (Ad _),Ap (Ad _) (Ad _)];intro M Y;dsimp only at Y;obtain⟨h,S⟩: ∃K',K'=upd J M (some (.cells (dEx s.value) 27)):=⟨_,rfl⟩;rw[<-S];have ae:h M=some (.cells (dEx s.value) 27):=by rw[S];exact Aa _ _ _
   have W:Sub J h:=by rw[S];exact(Sub.refl _).new Y _
   have y:h L=some (.cells (Df s) 56):=W _ _ O;have t:Sub H h:=sK.trans (ad.trans W);simp(disch:=omega)only[go_sem,y,Al,Bv,Bx,By,Bz,Ai (Ad _),Ap (Ad _) (Ad _)];refine⟨⟨O.symm,O.symm⟩, ?_⟩;refine Af.monoR (Iy G h [s.value] M (by rw[q1];exact ae) (by simp) p1) ?_;rw[e1];simp(disch:=omega)only[go_sem,y,Al,Bv,Bx,By,Bz,Ai (Ad _),Ap (Ad _) (Ad _)];refine Af.monoR (Mn hG h s.name f0) ?_;cases h3:Hu s.name
   ·simp(disch:=omega)only[go_sem,y,Al,Bv,Bx,By,Bz,Ai (Ad _),Ap (Ad _) (Ad _)];exact Es.sub t (.refl ⟨by simp [Cr, *],rfl⟩)
   ·cases h1:(noE s.lo&&noE s.hi)<;>cases h2:noE s.value
    ·simp(disch:=omega)only[go_sem,y,Al,Bv,Bx,By,Bz,Ai (Ad _),Ap (Ad _) (Ad _)];exact Es.sub t (.refl ⟨by rw[Cr,h3,h2,h1];simp,rfl⟩)
    ·simp(disch:=omega)only[go_sem,y,Al,Bv,Bx,By,Bz,Ai (Ad _),Ap (Ad _) (Ad _)];intro U Z;dsimp only at Z;obtain⟨C,D⟩: ∃K',K'=upd h U (some (.cells (dEx s.lo++dEx s.hi) 27)):=⟨_,rfl⟩;rw[<-D];have ag:C U=some (.cells (dEx s.lo++dEx s.hi) 27):=by rw[D];exact Aa _ _ _
     have E:Sub h C:=by rw[D];exact(Sub.refl _).new Z _
     have I:C L=some (.cells (Df s) 56):=E _ _ y;simp(disch:=omega)only[go_sem,I,Al,Bv,Bx,By,Bz,Ai (Ad _),Ap (Ad _) (Ad _)];refine Af.monoR (Gq hG C [s.lo,s.hi] U (by rw[q2];exact ag) (by simp) p2) ?_;rw[d2];cases h5:(Cg s.lo&&Cg s.hi)
     ·simp(disch:=omega)only[go_sem,I,Al,Bv,Bx,By,Bz,Ai (Ad _),Ap (Ad _) (Ad _)];exact Es.sub (t.trans E) (.refl ⟨by rw[Cr,h3,h2,h1,h5];simp,rfl⟩)
     ·simp(disch:=omega)only[go_sem,I,Al,Bv,Bx,By,Bz,Ai (Ad _),Ap (Ad _) (Ad _)];exact Es.sub (t.trans E) (.refl ⟨by rw[Cr,h3,h2,h1,h5];simp,rfl⟩)
    ·simp(disch:=omega)only[go_sem,y,Al,Bv,Bx,By,Bz,Ai (Ad _),Ap (Ad _) (Ad _)];intro V aa;dsimp only at aa;obtain⟨C,D⟩: ∃K',K'=upd h V (some (.cells (dEx s.value) 27)):=⟨_,rfl⟩;rw[<-D];have ah:C V=some (.cells (dEx s.value) 27):=by rw[D];exact Aa _ _ _
     have E:Sub h C:=by rw[D];exact(Sub.refl _).new aa _
     have I:C L=some (.cells (Df s) 56):=E _ _ y;simp(disch:=omega)only[go_sem,I,Al,Bv,Bx,By,Bz,Ai (Ad _),Ap (Ad _) (Ad _)];refine Af.monoR (Gq hG C [s.value] V (by rw[q1];exact ah) (by simp) p1) ?_;rw[d1];cases h5:Cg s.value
     ·simp(disch:=omega)only[go_sem,I,Al,Bv,Bx,By,Bz,Ai (Ad _),Ap (Ad _) (Ad _)];exact Es.sub (t.trans E) (.refl ⟨by rw[Cr,h3,h2,h1,h5];simp,rfl⟩)
     ·simp(disch:=omega)only[go_sem,I,Al,Bv,Bx,By,Bz,Ai (Ad _),Ap (Ad _) (Ad _)];exact Es.sub (t.trans E) (.refl ⟨by rw[Cr,h3,h2,h1,h5];simp,rfl⟩)
    ·simp(disch:=omega)only[go_sem,y,Al,Bv,Bx,By,Bz,Ai (Ad _),Ap (Ad _) (Ad _)];exact Es.sub t (.refl ⟨by rw[Cr,h3,h2,h1];simp,rfl⟩)
end
section
variable {G:Nat->DVal} (hG:GX G)
include hG
set_option maxHeartbeats 40000000 in
theorem Ba8 (H:Ac) (d:Dis) (hd:Bz0 1048576 d):Af Tryz.prog G 32 [.agg (Dz d)] H (Au (.bool (Ib d)) H):=by
 obtain⟨f0,f1,f2⟩:=hd;have p2: ∀x∈ [d.lo,d.hi],Dn 1048576 x:=by intro x hx;simp at hx;rcases hx with rfl | rfl<;>assumption
 have p1: ∀x∈ [d.name],Dn 1048576 x:=by intro x hx;simp at hx;subst hx;assumption
 have e2: [d.lo,d.hi].all noE=(noE d.lo&&noE d.hi):=by simp
 have e1: [d.name].all noE=noE d.name:=by simp
 have d2: [d.lo,d.hi].all Cg=(Cg d.lo&&Cg d.hi):=by simp
 have d1: [d.name].all Cg=Cg d.name:=by simp
 have q2: [d.lo,d.hi].flatMap dEx=dEx d.lo++dEx d.hi:=by simp
 have q1: [d.name].flatMap dEx=dEx d.name:=by simp
 refine Ab Tryz.func32 Tryz.call32 rfl (by kernel_rfl) ?_;simp(disch:=omega)only[go_sem,DVal.cells];intro I ab;dsimp only at ab;obtain⟨K,U⟩: ∃K',K'=upd H I (some (.cells (Dz d) 58)):=⟨_,rfl⟩;rw[<-U];have ac:K I=some (.cells (Dz d) 58):=by rw[U];exact Aa _ _ _
 have sK:Sub H K:=by rw[U];exact(Sub.refl _).new ab _
 simp(disch:=omega)only[go_sem,ac,Aw,Jb,Jc,Jd,Rw,Ai (Ad _),Ap (Ad _) (Ad _)];intro V ad;dsimp only at ad;obtain⟨y,W⟩: ∃K',K'=upd K V (some (.cells (dEx d.lo++dEx d.hi) 27)):=⟨_,rfl⟩;rw[<-W];have aj:y V=some (.cells (dEx d.lo++dEx d.hi) 27):=by rw[W];exact Aa _ _ _
 have ae:Sub K y:=by rw[W];exact(Sub.refl _).new ad _
 have C:y I=some (.cells (Dz d) 58):=ae _ _ ac;have M:Sub H y:=sK.trans ae;simp(disch:=omega)only[go_sem,C,Aw,Jb,Jc,Jd,Rw,Ai (Ad _),Ap (Ad _) (Ad _)];refine Af.monoR (Iy G y [d.lo,d.hi] V (by rw[q2];exact aj) (by simp) p2) ?_;rw[e2];cases h1:(noE d.lo&&noE d.hi)
 ·simp(disch:=omega)only[go_sem,C,Aw,Jb,Jc,Jd,Rw,Ai (Ad _),Ap (Ad _) (Ad _)];intro X af;dsimp only at af;obtain⟨h,D⟩: ∃K',K'=upd y X (some (.cells (dEx d.lo++dEx d.hi) 27)):=⟨_,rfl⟩;rw[<-D];have ak:h X=some (.cells (dEx d.lo++dEx d.hi) 27):=by rw[D];exact Aa _ _ _
  have L:Sub y h:=by rw[D];exact(Sub.refl _).new af _
  have E:h I=some (.cells (Dz d) 58):=L _ _ C;have O:Sub H h:=M.trans L;simp(disch:=omega)only[go_sem,E,Aw,Jb,Jc,Jd,Rw,Ai (Ad _),Ap (Ad _) (Ad _)];refine Af.monoR (Gq hG h [d.lo,d.hi] X (by rw[q2];exact ak) (by simp) p2) ?_;rw[d2];cases h2:(Cg d.lo&&Cg d.hi)
  ·simp(disch:=omega)only[go_sem,E,Aw,Jb,Jc,Jd,Rw,Ai (Ad _),Ap (Ad _) (Ad _)];exact Es.sub O (.refl ⟨by rw[Ib,h1,h2];simp,rfl⟩)
  ·simp(disch:=omega)only[go_sem,E,Aw,Jb,Jc,Jd,Rw,Ai (Ad _),Ap (Ad _) (Ad _)];intro Y ag;dsimp only at ag;obtain⟨J,Z⟩: ∃K',K'=upd h Y (some (.cells (dEx d.name) 27)):=⟨_,rfl⟩;rw[<-Z];have al:J Y=some (.cells (dEx d.name) 27):=by rw[Z];exact Aa _ _ _
   have ah:Sub h J:=by rw[Z];exact(Sub.refl _).new ag _
   have S:J I=some (.cells (Dz d) 58):=ah _ _ E;have t4:Sub H J:=O.trans ah;simp(disch:=omega)only[go_sem,S,Aw,Jb,Jc,Jd,Rw,Ai (Ad _),Ap (Ad _) (Ad _)];refine Af.monoR (Iy G J [d.name] Y (by rw[q1];exact al) (by simp) p1) ?_;rw[e1];cases h3:noE d.name
   ·simp(disch:=omega)only[go_sem,S,Aw,Jb,Jc,Jd,Rw,Ai (Ad _),Ap (Ad _) (Ad _)];refine Af.monoR (Mn hG J d.name f0) ?_;simp(disch:=omega)only[go_sem,S,Aw,Jb,Jc,Jd,Rw,Ai (Ad _),Ap (Ad _) (Ad _)];exact Es.sub t4 (.refl ⟨by rw[Ib,h1,h2,h3];simp,rfl⟩)
   ·simp(disch:=omega)only[go_sem,S,Aw,Jb,Jc,Jd,Rw,Ai (Ad _),Ap (Ad _) (Ad _)];exact Es.sub t4 (.refl ⟨by rw[Ib,h1,h2,h3];simp,rfl⟩)
 ·simp(disch:=omega)only[go_sem,C,Aw,Jb,Jc,Jd,Rw,Ai (Ad _),Ap (Ad _) (Ad _)];refine Af.monoR (Mn hG y d.name f0) ?_;cases h2:Hu d.name
  ·by_cases h4:d.name.kind=6
   ·simp(disch:=omega)only[go_sem,C,h4,Aw,Jb,Jc,Jd,Rw,Ai (Ad _)];intro aa ai;dsimp only at ai;obtain⟨h,D⟩: ∃K',K'=upd y aa (some (.cells (dEx d.name) 27)):=⟨_,rfl⟩;rw[<-D];have am:h aa=some (.cells (dEx d.name) 27):=by rw[D];exact Aa _ _ _
    have L:Sub y h:=by rw[D];exact(Sub.refl _).new ai _
    have E:h I=some (.cells (Dz d) 58):=L _ _ C;have O:Sub H h:=M.trans L;simp(disch:=omega)only[go_sem,E,Aw,Jb,Jc,Jd,Rw,Ai (Ad _),Ap (Ad _) (Ad _)];refine Af.monoR (Gq hG h [d.name] aa (by rw[q1];exact am) (by simp) p1) ?_;rw[d1];simp(disch:=omega)only[go_sem,E,Aw,Jb,Jc,Jd,Rw,Ai (Ad _),Ap (Ad _) (Ad _)];exact Es.sub O (.refl ⟨by rw[Ib,h1,h2];simp [h4],rfl⟩)
   ·simp(disch:=omega)only[go_sem,C,h4,Aw,Jb,Jc,Jd,Rw,Ai (Ad _)];exact Es.sub M (.refl ⟨by rw[Ib,h1,h2];simp [h4],rfl⟩)
  ·simp(disch:=omega)only[go_sem,C,Aw,Jb,Jc,Jd,Rw,Ai (Ad _),Ap (Ad _) (Ad _)];exact Es.sub M (.refl ⟨by rw[Ib,h1,h2];simp,rfl⟩)
end
theorem Gg9 (G:Nat->DVal) (H:Ac) (l:List Par) (p:Par->Bool) (y:Par->List (List UInt8)) (O S:FuncId) (hl:l.length<=1048576) (Y: ∀x∈l,(y x).length<=1048576)
  (h1: ∀x∈l,∀K,Af Tryz.prog G O ([]++ [.agg (Gj x)]++ []) K (Au (dW (y x)) K)) (h2: ∀x∈l,∀K,Af Tryz.prog G S ([]++ [.agg (Gj x)]++ []) K (Au (.bool (p x)) K)):
  Af Tryz.prog G 124 [.vslice (l.flatMap Gj) l.length, .func (.func O) [] [], .func (.func S) [] []] H (Au (.tuple [dI (if l.all p then((l.map fun x=>(y x).length).sum:Nat) else 0), .bool (l.all p)]) H):=by
 refine Ab Tryz.func124 Tryz.call124 rfl (by kernel_rfl) ?_;simp(disch:=omega)only[go_sem];obtain⟨I,U⟩: ∃I:Nat->(Nat->DVal)->Ac->Prop,∀i env heap,I i env heap↔(heap=H/\env 1= .func (.func O) [] []/\env 2= .func (.func S) [] []/\env 10= .vslice (l.flatMap Gj) l.length/\env 11=dI l.length/\env 12=dI i/\env 6=dI (((l.take i).map fun x=>(y x).length).sum:Nat)/\i<=l.length/\((l.take i).map fun x=>(y x).length).sum<=i*1048576/\ ∀x∈l.take i,p x=true):=⟨_,fun _ _ _=>Iff.rfl⟩;refine Dn5.run I (fun i=>l.length-i) 0 ((U _ _ _).2 ?_) ?_
 ·simp(disch:=omega)only[go_sem];simp
 ·intro i env heap hi;obtain⟨rfl,e1,D,E,J,L,C,hi,hs,hp⟩:=(U _ _ _).1 hi;by_cases M:i<l.length
  ·have V:(i:Int)<(l.length:Int):=by omega
   have Z:=Cu Ao l i M;have aa:IntKind.i64.wrap ((i:Int)+1)=((i+1:Nat):Int):=by rw[IntKind.wrap_i64];omega
   simp(disch:=omega)only[go_sem,e1,D,E,J,L,C,V,Z,Ax Ao];intro r hr;dsimp only at hr;simp(disch:=omega)only[go_sem,e1,D,E,J,L,C];have mx:=List.getElem_mem M;have hst:((l.take (i+1)).map fun x=>(y x).length).sum=((l.take i).map fun x=>(y x).length).sum+(y l[i]).length:=by
    rw[List.take_add_one,List.getElem?_eq_getElem M,List.map_append,List.sum_append];congr 1
   have ac:=Y l[i] mx;refine Af.monoR (by simpa using h2 l[i] mx _) ?_;cases hx:p l[i]
   ·simp(disch:=omega)only[go_sem,e1,D,E,J,L,C];have W:l.all p=false:=by
     rw[List.all_eq_false];exact⟨l[i],mx,by simp [hx]⟩
    exact Es.dropA r hr (Es.refl ⟨by rw[W];rfl,rfl⟩)
   ·simp(disch:=omega)only[go_sem,e1,D,E,J,L,C];refine Af.monoR (by simpa using h1 l[i] mx _) ?_;have ab:IntKind.i64.wrap ((((l.take i).map fun x=>(y x).length).sum:Nat)+((y l[i]).length:Int))=((((l.take (i+1)).map fun x=>(y x).length).sum:Nat):Int):=by
     rw[hst,IntKind.wrap_i64];omega
    simp(disch:=omega)only[go_sem,e1,D,E,J,L,C,dW];refine⟨i+1,_,Ri.drop _ r,(U _ _ _).2 ?_,by omega⟩;simp(disch:=omega)only[go_sem,e1,D,E,J,L,C,ab,aa];(repeat' apply And.intro)<;>(try first | rfl | assumption | omega)
    ·exact Zj hr
    ·rw[hst];rfl
    ·intro x X;rw[List.take_add_one,List.getElem?_eq_getElem M] at X;rcases List.mem_append.1 X with h | h
     ·exact hp x h
     ·simp at h;subst h;exact hx
  ·have:i=l.length:=by omega
   subst this;rw[List.take_length] at hp C;have W:l.all p=true:=by rw[List.all_eq_true];exact hp
   have V: ¬(l.length:Int)<(l.length:Int):=by omega
   simp(disch:=omega)only[go_sem,e1,D,E,J,L,C,V];exact Es.refl ⟨by rw[W];rfl,rfl⟩
theorem Fb4 (G:Nat->DVal) (H:Ac) (p:Par):Af Tryz.prog G 125 ([]++ [.agg (Gj p)]++ []) H (Au (dW p.names) H):=by
 refine Ab Tryz.func125 Tryz.call125 rfl (by kernel_rfl) ?_;simp(disch:=omega)only[go_sem,DVal.cells,jG,jH];intro y C;dsimp only at C;obtain⟨K,h⟩: ∃K',K'=upd H y (some (.cells (Gj p) 136)):=⟨_,rfl⟩;rw[<-h];have D:K y=some (.cells (Gj p) 136):=by rw[h];exact Aa _ _ _
 have E:Sub H K:=by rw[h];exact(Sub.refl _).new C _
 simp(disch:=omega)only[go_sem,D,Ao,Ck,Cl,Cm,Bg,Ai (Ad _)];exact Es.sub E (.refl ⟨rfl,rfl⟩)
section
variable {G:Nat->DVal} (hG:GX G)
include hG
set_option maxHeartbeats 40000000 in
theorem Dj0 (H:Ac) (p:Par) (hp:Yi 1048576 p):Af Tryz.prog G 126 ([]++ [.agg (Gj p)]++ []) H (Au (.bool (Ja p)) H):=by
 obtain⟨f0,f1,f2⟩:=hp;have X: ∀x∈ [p.e],Dn 1048576 x:=by intro x hx;simp at hx;subst hx;assumption
 have e1: [p.e].all noE=noE p.e:=by simp
 have d1: [p.e].all Cg=Cg p.e:=by simp
 have Y: [p.e].flatMap dEx=dEx p.e:=by simp
 refine Ab Tryz.func126 Tryz.call126 rfl (by kernel_rfl) ?_;simp(disch:=omega)only[go_sem,DVal.cells,jG,jH];intro L Z;dsimp only at Z;obtain⟨K,O⟩: ∃K',K'=upd H L (some (.cells (Gj p) 136)):=⟨_,rfl⟩;rw[<-O];have M:K L=some (.cells (Gj p) 136):=by rw[O];exact Aa _ _ _
 have sK:Sub H K:=by rw[O];exact(Sub.refl _).new Z _
 simp(disch:=omega)only[go_sem,M,Ao,Ck,Cl,Cm,Bg,Ai (Ad _)];refine Aj (by kernel_rfl) (.take 0 (.take 1 (.take 2 (.take 3 (.take 4 (.go 5 [1] (.go 6 [1] (.take 7 (.take 8 (.take 9 .done)))))))))) (by kernel_rfl) ?_;simp(disch:=omega)only[go_sem,M,Ao,Ck,Cl,Cm,Bg,Ai (Ad _)];intro S aa;dsimp only at aa;obtain⟨C,U⟩: ∃K',K'=upd K S (some (.cells (dEx p.e) 27)):=⟨_,rfl⟩;rw[<-U];have ae:C S=some (.cells (dEx p.e) 27):=by rw[U];exact Aa _ _ _
 have ab:Sub K C:=by rw[U];exact(Sub.refl _).new aa _
 have h:C L=some (.cells (Gj p) 136):=ab _ _ M;have y:Sub H C:=sK.trans ab;simp(disch:=omega)only[go_sem,h,Ao,Ck,Cl,Cm,Bg,Ai (Ad _)];refine⟨M.symm, ?_⟩;refine Af.monoR (Iy G C [p.e] S (by rw[Y];exact ae) (by simp) X) ?_;rw[e1];simp(disch:=omega)only[go_sem,h,Ao,Ck,Cl,Cm,Bg,Ai (Ad _)];refine Af.monoR (Ai3 hG C p.names 8 f0) ?_;cases h1:Ih p.names 8
 ·simp(disch:=omega)only[go_sem,h,Ao,Ck,Cl,Cm,Bg,Ai (Ad _)];exact Es.sub y (.refl ⟨by rw[Ja,h1];simp,rfl⟩)
 simp(disch:=omega)only[go_sem,h,Ao,Ck,Cl,Cm,Bg,Ai (Ad _)];refine Af.monoR (Mn hG C p.type f1) ?_;cases h2:Hu p.type
 ·simp(disch:=omega)only[go_sem,h,Ao,Ck,Cl,Cm,Bg,Ai (Ad _)];exact Es.sub y (.refl ⟨by rw[Ja,h1,h2];simp,rfl⟩)
 cases h3:noE p.e
 ·by_cases D:p.mode=1
  ·simp(disch:=omega)only[go_sem,h,D,Ao,Ck,Cl,Cm,Bg,Ai (Ad _)];intro V ac;dsimp only at ac;obtain⟨J,W⟩: ∃K',K'=upd C V (some (.cells (dEx p.e) 27)):=⟨_,rfl⟩;rw[<-W];have af:J V=some (.cells (dEx p.e) 27):=by rw[W];exact Aa _ _ _
   have ad:Sub C J:=by rw[W];exact(Sub.refl _).new ac _
   have g3:J L=some (.cells (Gj p) 136):=ad _ _ h;have t3:Sub H J:=y.trans ad;simp(disch:=omega)only[go_sem,g3,Ao,Ck,Cl,Cm,Bg,Ai (Ad _)];refine Af.monoR (Gq hG J [p.e] V (by rw[Y];exact af) (by simp) X) ?_;rw[d1];simp(disch:=omega)only[go_sem,g3,Ao,Ck,Cl,Cm,Bg,Ai (Ad _)];exact Es.sub t3 (.refl ⟨by rw[Ja,h1,h2,Ge,h3];simp [D],rfl⟩)
  ·by_cases E:p.mode=2
   ·simp(disch:=omega)only[go_sem,h,E,Ao,Ck,Cl,Cm,Bg,Ai (Ad _)];exact Es.sub y (.refl ⟨by rw[Ja,h1,h2,Ge,h3];simp [E],rfl⟩)
   ·by_cases I:p.mode=3
    ·simp(disch:=omega)only[go_sem,h,I,Ao,Ck,Cl,Cm,Bg,Ai (Ad _)];exact Es.sub y (.refl ⟨by rw[Ja,h1,h2,Ge,h3];simp [I],rfl⟩)
    ·simp(disch:=omega)only[go_sem,h,D,E,I,Ao,Ck,Cl,Cm,Bg,Ai (Ad _)];exact Es.sub y (.refl ⟨by rw[Ja,h1,h2,Ge,h3];simp [D],rfl⟩)
 ·by_cases D:p.mode=1
  ·simp(disch:=omega)only[go_sem,h,D,Ao,Ck,Cl,Cm,Bg,Ai (Ad _)];exact Es.sub y (.refl ⟨by rw[Ja,h1,h2,Ge,h3];simp [D],rfl⟩)
  ·by_cases E:p.mode=2
   ·simp(disch:=omega)only[go_sem,h,E,Ao,Ck,Cl,Cm,Bg,Ai (Ad _)];exact Es.sub y (.refl ⟨by rw[Ja,h1,h2,Ge,h3];simp [E],rfl⟩)
   ·by_cases I:p.mode=3
    ·simp(disch:=omega)only[go_sem,h,I,Ao,Ck,Cl,Cm,Bg,Ai (Ad _)];exact Es.sub y (.refl ⟨by rw[Ja,h1,h2,Ge,h3];simp [I],rfl⟩)
    ·simp(disch:=omega)only[go_sem,h,D,E,I,Ao,Ck,Cl,Cm,Bg,Ai (Ad _)];exact Es.sub y (.refl ⟨by rw[Ja,h1,h2,Ge,h3];simp [D];omega,rfl⟩)
theorem Tn (H:Ac) (l:List Par) (hl:Mr Yi 1048576 l):Af Tryz.prog G 28 [Hr l] H (Au (.bool (Ii l)) H):=by
 refine Ab Tryz.func28 Tryz.call28 rfl (by kernel_rfl) ?_;simp(disch:=omega)only[go_sem,Hr];refine Af.monoR (Gg9 G H l Ja (fun p=>p.names) 125 126 hl.1 (fun x hx=>(hl.2 x hx).1.1) (fun x hx K=>Fb4 G K x) (fun x hx K=>Dj0 hG K x (hl.2 x hx))) ?_;cases h:l.all Ja
 ·simp(disch:=omega)only[go_sem];exact Es.refl ⟨by rw[Ii,h];rfl,rfl⟩
 ·simp(disch:=omega)only[go_sem];exact Es.refl ⟨by rw[Ii,h,Ap1];simp;omega,rfl⟩
end
theorem Fb5 (G:Nat->DVal) (H:Ac) (p:Asp->Bool) (l:List Asp) (g:FuncId) (xs y:List DVal) (hl:l.length<=1099511627776)
  (hp: ∀x∈l,Af Tryz.prog G g (xs++ [.agg (Qw x)]++y) H (Au (.bool (p x)) H)):
  Af Tryz.prog G 287 [.vslice (l.flatMap Qw) l.length, .func (.func g) xs y] H (Au (dI (Bc3 p l)) H):=by
 refine Ab Tryz.func287 Tryz.call287 rfl (by kernel_rfl) ?_;simp(disch:=omega)only[go_sem];refine Dn5.run (fun(i:Nat) env heap=>heap=H/\env 0= .vslice (l.flatMap Qw) l.length/\env 1= .func (.func g) xs y/\env 7=dI l.length/\env 8=dI i/\i<=l.length/\ ∀x∈l.take i,p x=false) (fun i=>l.length-i) 0 ?_ ?_
 ·simp(disch:=omega)only[go_sem];simp
 ·rintro i env heap ⟨rfl,h0,h1,h7,h8,hi,hn⟩;by_cases h:i<l.length
  ·have C:=Cu Ni l i h;simp(disch:=omega)only[go_sem,h0,h1,h7,h8,C,Ax Ni];have hc:=hp l[i] (List.getElem_mem h)
   skip
   refine hc.mono ?_;rintro _ H ⟨rfl,rfl⟩;cases hx:p l[i] with
   | true=>
    simp(disch:=omega)only[go_sem,h0,h1,h7,h8];exact Es.refl ⟨by rw[Ac3 h hx hn],rfl⟩
   | false=>
    simp(disch:=omega)only[go_sem,h0,h1,h7,h8];refine⟨i+1,_,Ri.refl _, ?_,by omega⟩;simp(disch:=omega)only[go_sem,h0,h1,h7,h8];(repeat' apply And.intro)<;>(try first | rfl | assumption | omega);exact Mh h hn hx
  ·simp(disch:=omega)only[go_sem,h0,h1,h7,h8];have:i=l.length:=by omega
   subst this;rw[List.take_length] at hn;exact Es.refl ⟨by rw[Ac4 hn],rfl⟩
theorem Cu8 (G:Nat->DVal) (H:Ac) (p:Asp->Bool) (l:List Asp) (g:FuncId) (xs h:List DVal) (hl:l.length<=1099511627776)
  (hp: ∀x∈l,Af Tryz.prog G g (xs++ [.agg (Qw x)]++h) H (Au (.bool (p x)) H)):
  Af Tryz.prog G 227 [.vslice (l.flatMap Qw) l.length, .func (.func g) xs h] H (Au (.bool (l.any p)) H):=by
 refine Ab Tryz.func227 Tryz.call227 rfl (by kernel_rfl) ?_;simp(disch:=omega)only[go_sem];refine(Fb5 G H p l g xs h hl hp).mono ?_;rintro _ H ⟨rfl,rfl⟩;simp(disch:=omega)only[go_sem];exact Es.refl ⟨by rw[Vs],rfl⟩
theorem Gh0 (G:Nat->DVal) (H:Ac) (l:List Cmp) (p:Cmp->Bool) (y:Cmp->List (List UInt8)) (O S:FuncId) (hl:l.length<=1048576) (Y: ∀x∈l,(y x).length<=1048576)
  (h1: ∀x∈l,∀K,Af Tryz.prog G O ([]++ [.agg (Lk x)]++ []) K (Au (dW (y x)) K)) (h2: ∀x∈l,∀K,Af Tryz.prog G S ([]++ [.agg (Lk x)]++ []) K (Au (.bool (p x)) K)):
  Af Tryz.prog G 277 [.vslice (l.flatMap Lk) l.length, .func (.func O) [] [], .func (.func S) [] []] H (Au (.tuple [dI (if l.all p then((l.map fun x=>(y x).length).sum:Nat) else 0), .bool (l.all p)]) H):=by
 refine Ab Tryz.func277 Tryz.call277 rfl (by kernel_rfl) ?_;simp(disch:=omega)only[go_sem];obtain⟨I,U⟩: ∃I:Nat->(Nat->DVal)->Ac->Prop,∀i env heap,I i env heap↔(heap=H/\env 1= .func (.func O) [] []/\env 2= .func (.func S) [] []/\env 10= .vslice (l.flatMap Lk) l.length/\env 11=dI l.length/\env 12=dI i/\env 6=dI (((l.take i).map fun x=>(y x).length).sum:Nat)/\i<=l.length/\((l.take i).map fun x=>(y x).length).sum<=i*1048576/\ ∀x∈l.take i,p x=true):=⟨_,fun _ _ _=>Iff.rfl⟩;refine Dn5.run I (fun i=>l.length-i) 0 ((U _ _ _).2 ?_) ?_
 ·simp(disch:=omega)only[go_sem];simp
 ·intro i env heap hi;obtain⟨rfl,e1,D,E,J,L,C,hi,hs,hp⟩:=(U _ _ _).1 hi;by_cases M:i<l.length
  ·have V:(i:Int)<(l.length:Int):=by omega
   have Z:=Cu Bp l i M;have aa:IntKind.i64.wrap ((i:Int)+1)=((i+1:Nat):Int):=by rw[IntKind.wrap_i64];omega
   simp(disch:=omega)only[go_sem,e1,D,E,J,L,C,V,Z,Ax Bp];intro r hr;dsimp only at hr;simp(disch:=omega)only[go_sem,e1,D,E,J,L,C];have mx:=List.getElem_mem M;have hst:((l.take (i+1)).map fun x=>(y x).length).sum=((l.take i).map fun x=>(y x).length).sum+(y l[i]).length:=by
    rw[List.take_add_one,List.getElem?_eq_getElem M,List.map_append,List.sum_append];congr 1
   have ac:=Y l[i] mx;refine Af.monoR (by simpa using h2 l[i] mx _) ?_;cases hx:p l[i]
   ·simp(disch:=omega)only[go_sem,e1,D,E,J,L,C];have W:l.all p=false:=by
     rw[List.all_eq_false];exact⟨l[i],mx,by simp [hx]⟩
    exact Es.dropA r hr (Es.refl ⟨by rw[W];rfl,rfl⟩)
   ·simp(disch:=omega)only[go_sem,e1,D,E,J,L,C];refine Af.monoR (by simpa using h1 l[i] mx _) ?_;have ab:IntKind.i64.wrap ((((l.take i).map fun x=>(y x).length).sum:Nat)+((y l[i]).length:Int))=((((l.take (i+1)).map fun x=>(y x).length).sum:Nat):Int):=by
     rw[hst,IntKind.wrap_i64];omega
    simp(disch:=omega)only[go_sem,e1,D,E,J,L,C,dW];refine⟨i+1,_,Ri.drop _ r,(U _ _ _).2 ?_,by omega⟩;simp(disch:=omega)only[go_sem,e1,D,E,J,L,C,ab,aa];(repeat' apply And.intro)<;>(try first | rfl | assumption | omega)
    ·exact Zj hr
    ·rw[hst];rfl
    ·intro x X;rw[List.take_add_one,List.getElem?_eq_getElem M] at X;rcases List.mem_append.1 X with h | h
     ·exact hp x h
     ·simp at h;subst h;exact hx
  ·have:i=l.length:=by omega
   subst this;rw[List.take_length] at hp C;have W:l.all p=true:=by rw[List.all_eq_true];exact hp
   have V: ¬(l.length:Int)<(l.length:Int):=by omega
   simp(disch:=omega)only[go_sem,e1,D,E,J,L,C,V];exact Es.refl ⟨by rw[W];rfl,rfl⟩
theorem Fb6 (G:Nat->DVal) (H:Ac) (p:Cmp):Af Tryz.prog G 278 ([]++ [.agg (Lk p)]++ []) H (Au (dW p.names) H):=by
 refine Ab Tryz.func278 Tryz.call278 rfl (by kernel_rfl) ?_;simp(disch:=omega)only[go_sem,DVal.cells,jG,jH];intro y C;dsimp only at C;obtain⟨K,h⟩: ∃K',K'=upd H y (some (.cells (Lk p) 202)):=⟨_,rfl⟩;rw[<-h];have D:K y=some (.cells (Lk p) 202):=by rw[h];exact Aa _ _ _
 have E:Sub H K:=by rw[h];exact(Sub.refl _).new C _
 simp(disch:=omega)only[go_sem,D,Bp,Gn,Gp,Ee,Ai (Ad _)];exact Es.sub E (.refl ⟨rfl,rfl⟩)
section
variable {G:Nat->DVal} (hG:GX G)
include hG
theorem Gh1 (H:Ac) (a:Asp) (ha:Dr3 1048576 a):Af Tryz.prog G 228 ([]++ [.agg (Qw a)]++ []) H (Au (.bool (!Yf a)) H):=by
 obtain⟨U,Z⟩:=ha;have V: ∀x∈ [a.e],Dn 1048576 x:=by intro x hx;simp at hx;subst hx;assumption
 have W: [a.e].all Cg=Cg a.e:=by simp
 have X: [a.e].flatMap dEx=dEx a.e:=by simp
 refine Ab Tryz.func228 Tryz.call228 rfl (by kernel_rfl) ?_;simp(disch:=omega)only[go_sem,DVal.cells,jG,jH];intro C J;dsimp only at J;obtain⟨K,D⟩: ∃K',K'=upd H C (some (.cells (Qw a) 187)):=⟨_,rfl⟩;rw[<-D];have h:K C=some (.cells (Qw a) 187):=by rw[D];exact Aa _ _ _
 have L:Sub H K:=by rw[D];exact(Sub.refl _).new J _
 simp(disch:=omega)only[go_sem,h,Ni,Cu4,Cu5,Ai (Ad _)];refine Af.monoR (Xb hG K a.name U) ?_;cases h1:Lo a.name
 ·simp(disch:=omega)only[go_sem,h,Ni,Cu4,Cu5,Ai (Ad _)];exact Es.sub L (.refl ⟨by rw[Yf,h1];simp,rfl⟩)
 ·simp(disch:=omega)only[go_sem,h,Ni,Cu4,Cu5,Ai (Ad _)];intro E M;dsimp only at M;obtain⟨y,I⟩: ∃K',K'=upd K E (some (.cells (dEx a.e) 27)):=⟨_,rfl⟩;rw[<-I];have Y:y E=some (.cells (dEx a.e) 27):=by rw[I];exact Aa _ _ _
  have O:Sub K y:=by rw[I];exact(Sub.refl _).new M _
  have S:y C=some (.cells (Qw a) 187):=O _ _ h;simp(disch:=omega)only[go_sem,S,Ni,Cu4,Cu5,Ai (Ad _)];refine Af.monoR (Gq hG y [a.e] E (by rw[X];exact Y) (by simp) V) ?_;rw[W];simp(disch:=omega)only[go_sem,S,Ni,Cu4,Cu5,Ai (Ad _)];exact Es.sub (L.trans O) (.refl ⟨by rw[Yf,h1];simp,rfl⟩)
theorem Bc7 (H:Ac) (l:List Asp) (hl:Mr Dr3 1048576 l):Af Tryz.prog G 139 [Lz l] H (Au (.bool (Pc l)) H):=by
 refine Ab Tryz.func139 Tryz.call139 rfl (by kernel_rfl) ?_;by_cases h8:l.length<=8
 ·have h:(l.length:Int)<=8:=by omega
  simp(disch:=omega)only[go_sem,Lz,h];refine Af.monoR (Cu8 G H (fun e=>!Yf e) l 228 [] [] (by have:=hl.1;omega) fun x hx=>Gh1 hG H x (hl.2 x hx)) ?_;rw[Ut];simp(disch:=omega)only[go_sem];exact Es.refl ⟨by rw[Pc];simp [h8],rfl⟩
 ·have h: ¬(l.length:Int)<=8:=by omega
  simp(disch:=omega)only[go_sem,Lz,h];exact Es.refl ⟨by rw[Pc];simp [h8],rfl⟩
set_option maxHeartbeats 40000000 in
theorem Dj1 (H:Ac) (c:Cmp) (hc:Aa4 1048576 c):Af Tryz.prog G 279 ([]++ [.agg (Lk c)]++ []) H (Au (.bool (Hd c)) H):=by
 obtain⟨f0,f1,f2⟩:=hc;have U: ∀x∈ [c.e],Dn 1048576 x:=by intro x hx;simp at hx;subst hx;assumption
 have e1: [c.e].all noE=noE c.e:=by simp
 have d1: [c.e].all Cg=Cg c.e:=by simp
 have V: [c.e].flatMap dEx=dEx c.e:=by simp
 refine Ab Tryz.func279 Tryz.call279 rfl (by kernel_rfl) ?_;simp(disch:=omega)only[go_sem,DVal.cells,jG,jH];intro C W;dsimp only at W;obtain⟨K,I⟩: ∃K',K'=upd H C (some (.cells (Lk c) 202)):=⟨_,rfl⟩;rw[<-I];have y:K C=some (.cells (Lk c) 202):=by rw[I];exact Aa _ _ _
 have J:Sub H K:=by rw[I];exact(Sub.refl _).new W _
 simp(disch:=omega)only[go_sem,y,Bp,Gn,Gp,Ee,Ai (Ad _)];refine Af.monoR (Ai3 hG K c.names 8 f0) ?_;cases h1:Ih c.names 8
 ·simp(disch:=omega)only[go_sem,y,Bp,Gn,Gp,Ee,Ai (Ad _)];exact Es.sub J (.refl ⟨by rw[Hd,h1];simp,rfl⟩)
 simp(disch:=omega)only[go_sem,y,Bp,Gn,Gp,Ee,Ai (Ad _)];refine Af.monoR (Qy hG K c.sub f1) ?_;cases h2:Cr c.sub
 ·simp(disch:=omega)only[go_sem,y,Bp,Gn,Gp,Ee,Ai (Ad _)];exact Es.sub J (.refl ⟨by rw[Hd,h1,h2];simp,rfl⟩)
 simp(disch:=omega)only[go_sem,y,Bp,Gn,Gp,Ee,Ai (Ad _)];intro L X;dsimp only at X;obtain⟨h,M⟩: ∃K',K'=upd K L (some (.cells (dEx c.e) 27)):=⟨_,rfl⟩;rw[<-M];have ac:h L=some (.cells (dEx c.e) 27):=by rw[M];exact Aa _ _ _
 have Y:Sub K h:=by rw[M];exact(Sub.refl _).new X _
 have D:h C=some (.cells (Lk c) 202):=Y _ _ y;have Z:Sub H h:=J.trans Y;simp(disch:=omega)only[go_sem,D,Bp,Gn,Gp,Ee,Ai (Ad _)];refine Af.monoR (Iy G h [c.e] L (by rw[V];exact ac) (by simp) U) ?_;rw[e1];cases h3:noE c.e
 ·simp(disch:=omega)only[go_sem,D,Bp,Gn,Gp,Ee,Ai (Ad _)];intro O aa;dsimp only at aa;obtain⟨E,S⟩: ∃K',K'=upd h O (some (.cells (dEx c.e) 27)):=⟨_,rfl⟩;rw[<-S];have ad:E O=some (.cells (dEx c.e) 27):=by rw[S];exact Aa _ _ _
  have ab:Sub h E:=by rw[S];exact(Sub.refl _).new aa _
  have g3:E C=some (.cells (Lk c) 202):=ab _ _ D;simp(disch:=omega)only[go_sem,g3,Bp,Gn,Gp,Ee,Ai (Ad _)];refine Af.monoR (Gq hG E [c.e] O (by rw[V];exact ad) (by simp) U) ?_;rw[d1];simp(disch:=omega)only[go_sem,g3,Bp,Gn,Gp,Ee,Ai (Ad _)];exact Es.sub (Z.trans ab) (.refl ⟨by rw[Hd,h1,h2,Ge,h3];simp,rfl⟩)
 ·simp(disch:=omega)only[go_sem,D,Bp,Gn,Gp,Ee,Ai (Ad _)];exact Es.sub Z (.refl ⟨by rw[Hd,h1,h2,Ge,h3];simp,rfl⟩)
theorem Xp (H:Ac) (l:List Cmp) (hl:Mr Aa4 1048576 l):Af Tryz.prog G 210 [Ct l] H (Au (.tuple [dI (if l.all Hd then(He l:Nat) else 0), .bool (l.all Hd)]) H):=by
 refine Ab Tryz.func210 Tryz.call210 rfl (by kernel_rfl) ?_;simp(disch:=omega)only[go_sem,Ct];refine Af.monoR (Gh0 G H l Hd (fun p=>p.names) 278 279 hl.1 (fun x hx=>(hl.2 x hx).1.1) (fun x hx K=>Fb6 G K x) (fun x hx K=>Dj1 hG K x (hl.2 x hx))) ?_;simp(disch:=omega)only[go_sem];exact Es.refl ⟨by rw[He],rfl⟩
theorem Bu2 (H:Ac) (l:List Cmp) (hl:Mr Aa4 1048576 l):Af Tryz.prog G 147 [Ct l] H (Au (.bool (Mk l)) H):=by
 refine Ab Tryz.func147 Tryz.call147 rfl (by kernel_rfl) ?_;simp(disch:=omega)only[go_sem];refine Af.monoR (Xp hG H l hl) ?_;cases h:l.all Hd
 ·simp(disch:=omega)only[go_sem];exact Es.refl ⟨by rw[Mk,h];rfl,rfl⟩
 ·simp(disch:=omega)only[go_sem];exact Es.refl ⟨by rw[Mk,h];simp;omega,rfl⟩
end
theorem Be6 {α:Type} {p:α->Bool} {l:List α} {x:α} (h:x∈l) (hx:p x=false):l.all p=false:=by
 rw[List.all_eq_false];exact⟨x,h,by simp [hx]⟩
theorem Bz2 {α:Type} {p:α->Bool} {l:List α} {k:Nat} (C:k<l.length) (h: ∀x∈l.take k,p x=true) (hx:p l[k]=true): ∀x∈l.take (k+1),p x=true:=by
 intro x y;rw[List.take_add_one,List.getElem?_eq_getElem C] at y;rcases List.mem_append.1 y with a | a
 ·exact h x a
 ·simp at a;subst a;exact hx
theorem Cu9 {α:Type} {p:α->Bool} {l:List α} (h: ∀x∈l.take l.length,p x=true):l.all p=true:=by
 rw[List.take_length] at h;rw[List.all_eq_true];exact h
section
end
end Go.Dl
