/- The data level and the contracts of the functions that are reached (part 9). -/
import Derived.ChangeSame
import Derived.Deep.Slices
import Derived.RowKit3
import Derived.Test.YtkieniphnglaaaaGreatDoorRows
import Derived.DeepKeys4
import Derived.LaidLaws
import Derived.Stop.LaidErr
import Derived.Shelf.Vars
import Derived.Test.YtkieniphnglaaaaGreatDoorPch
set_option linter.unusedSimpArgs false
set_option linter.unusedVariables false
set_option linter.unusedSectionVars false
-- The reference of chapter 2: tokens of a text.
namespace Go.Dl
open Go Go.Proofs Go.RowKit
set_option maxRecDepth 100000
def Xl (w:List UInt8):Int:=match Ak5 w with | some v=>(v:Int) | none=> -1
theorem Ch9 {w:List UInt8} (h: ¬w.length<=10):Xl w= -1:=by rw[Xl,Ak5,if_neg (fun x=>h x.1)]
theorem Cw7 {w:List UInt8} (h:w.all Ff=false):Xl w= -1:=by rw[Xl,Ak5,if_neg (fun x=>by rw[h] at x;cases x.2.1)]
theorem Cw8 {w:List UInt8} (h: ¬Nd w<=2147483647):Xl w= -1:=by rw[Xl,Ak5,if_neg (fun x=>h x.2.2)]
theorem Dh2 {w:List UInt8} (h1:w.length<=10) (h2:w.all Ff=true) (h3:Nd w<=2147483647):Xl w=(Nd w:Int):=by rw[Xl,Ak5,if_pos ⟨h1,h2,h3⟩]
theorem Ci0 (s:List UInt8):s.take (Cz s).length=Cz s:=(List.prefix_iff_eq_take.1 (List.takeWhile_prefix _)).symm
def Vj (s w:List UInt8):Bool:=decide (w.length<=s.length)&&decide (s.take w.length=w)
theorem Cw9 {k:Nat} {w:List UInt8} (h:Ye[k]? =some w):(k<7/\ ∃p∈Un,w= [p.1,p.2])\/(7<=k/\ ∃a∈Ba1,w= [a]):=by
 have e:Ye=Un.map (fun p=> [p.1,p.2])++Ba1.map (fun a=> [a]):=by decide
 rw[e,List.getElem?_append] at h;split at h
 ·rename_i hk
  rw[List.getElem?_map,Option.map_eq_some_iff] at h;obtain⟨p,hp,rfl⟩:=h;exact .inl ⟨hk,p,List.mem_of_getElem? hp,rfl⟩
 ·rename_i hk
  rw[List.getElem?_map,Option.map_eq_some_iff] at h;obtain⟨a,ha,rfl⟩:=h;exact .inr ⟨by simpa [Un] using hk,a,List.mem_of_getElem? ha,rfl⟩
theorem Be9 {k:Nat} (hk:7<=k): ∀p∈Un,[p.1,p.2]∈Ye.take k:=fun p hp=>by
 have h7: ∀p∈Un,[p.1,p.2]∈Ye.take 7:=by decide+kernel
 exact(List.take_sublist_take_left (l:=Ye) hk).subset (h7 p hp)
theorem Dv3 {a b:UInt8} {r:List UInt8}:Vj (a::b::r) [a,b]=true:=by
 rw[Vj,Bool.and_eq_true,decide_eq_true_eq,decide_eq_true_eq];exact⟨by simp,rfl⟩
theorem Dh3 {s w:List UInt8} {k:Nat} (hk:Ye[k]? =some w) (hp:Vj s w=true) (hno: ∀u∈Ye.take k,Vj s u=false):Pn s=w.length:=by
 rw[Vj,Bool.and_eq_true,decide_eq_true_eq,decide_eq_true_eq] at hp
 obtain⟨h1,h2⟩:=hp
 rcases Cw9 hk with⟨_,p,hp,rfl⟩ | ⟨h7,a,ha,rfl⟩
 ·match s,h1,h2 with
  | a::b::r,_,h2=>
   have e: [a,b]= [p.1,p.2]:=h2
   cases e
   show(if(p.1,p.2)∈Un then 2 else _)=2
   rw[if_pos hp]
 ·match s,h1,h2 with
  | x::r,_,h2=>
   have e: [x]= [a]:=h2
   cases e
   rw[Am9 a r (fun b r' e hm=>by
    subst e
    have:=hno _ (Be9 h7 _ hm)
    rw[Dv3] at this;cases this),if_pos ha];rfl
theorem Cx0 {s:List UInt8} (hno: ∀u∈Ye,Vj s u=false):Pn s=0:=by
 match s with
 | []=>rfl
 | x::r=>
  rw[Am9 x r (fun b r' e hm=>by
   subst e
   have:=hno _ (List.mem_of_mem_take (Be9 (Nat.le_refl 7) _ hm))
   rw[Dv3] at this;cases this),if_neg]
  intro hx
  have h1: ∀a∈Ba1,[a]∈Ye:=by decide+kernel
  have:=hno _ (h1 x hx)
  simp [Vj] at this
section
variable {G:Nat->DVal} {H:Ab}
theorem Bf0 (G:Nat->DVal) (H:Ab) (s:List UInt8) (hs:s.length<=1000000000):Ah Tryz.prog G 365 [.str s] H (Bp (dI (Cz s).length) H):=by
 refine Ac Tryz.func365 Tryz.call365 rfl (by kernel_rfl) ?_;simp(disch:=omega) only[go_sem,↓reduceIte];obtain⟨I,hI⟩: ∃I:Nat->(Nat->DVal)->Ab->Prop,∀k env heap,I k env heap↔(env 0= .str s/\env 3=dI k/\k<=s.length/\(s.take k).all Dm=true/\heap=H):=⟨_,fun _ _ _=>Iff.rfl⟩;refine Bs7.run I (fun k=>s.length-k) 0 ((hI _ _ _).2 ?_) ?_
 ·simp(disch:=omega) only[go_sem,↓reduceIte];(repeat' apply And.intro)<;>(try first | rfl | assumption | omega)
 ·intro k env heap hi;obtain⟨e0,e3,hk,hw,rfl⟩:=(hI _ _ _).1 hi;by_cases hlt:k<s.length
  ·have hlt':(k:Int)<(s.length:Int):=by omega
   have hg:s[k]? =some s[k]:=List.getElem?_eq_getElem hlt;have hwd:IntKind.i64.wrap ((k:Int)+1)=((k+1:Nat):Int):=by rw[IntKind.wrap_i64];omega
   simp(disch:=omega) only[go_sem,↓reduceIte,e0,e3,hlt',hg,Int.toNat_natCast];refine(Ad0 G _ s[k]).mono ?_;rintro _ H1 ⟨rfl,rfl⟩;cases hb:Dm s[k] with
   | true=>
    simp(disch:=omega) only[go_sem,↓reduceIte,e0,e3];refine⟨k+1,_,Ik.refl _,(hI _ _ _).2 ?_,by omega⟩;simp(disch:=omega) only[go_sem,↓reduceIte,e0,e3,hwd];(repeat' apply And.intro)<;>(try first | rfl | assumption | omega);rw[List.take_add_one,hg,List.all_append,hw];simpa using hb
   | false=>
    simp(disch:=omega) only[go_sem,↓reduceIte,e0,e3];exact Pm.refl ⟨by rw[Bu1 hw hg hb,List.length_take,Nat.min_eq_left (by omega)],rfl⟩
  ·have:k=s.length:=by omega
   subst this;simp(disch:=omega) only[go_sem,↓reduceIte,e0,e3];rw[List.take_length] at hw;exact Pm.refl ⟨by rw[Up s hw],rfl⟩
theorem Ci1 (G:Nat->DVal) (H:Ab) (w:List UInt8):Ah Tryz.prog G 367 [.str w] H (Bp (dI (Xl w)) H):=by
 refine Ac Tryz.func367 Tryz.call367 rfl (by kernel_rfl) ?_;by_cases hl:w.length<=10
 ·have hl': ¬(10:Int)<(w.length:Int):=by omega
  simp(disch:=omega) only[go_sem,↓reduceIte,hl'];obtain⟨I,hI⟩: ∃I:Nat->(Nat->DVal)->Ab->Prop,∀k env heap,I k env heap↔(env 0= .str w/\env 3=dI (Nd (w.take k))/\env 4=dI k/\k<=w.length/\(w.take k).all Ff=true/\Nd (w.take k)<10^k/\heap=H):=⟨_,fun _ _ _=>Iff.rfl⟩;refine Bs7.run I (fun k=>w.length-k) 0 ((hI _ _ _).2 ?_) ?_
  ·simp(disch:=omega) only[go_sem,↓reduceIte];(repeat' apply And.intro)<;>(try first | rfl | assumption | omega);decide
  ·intro k env heap hi;obtain⟨e0,e3,e4,hk,hw,hv,rfl⟩:=(hI _ _ _).1 hi;have hp10:10^k<=10^10:=Nat.pow_le_pow_right (by omega) (by omega);have hv10:Nd (w.take k)<10000000000:=Nat.lt_of_lt_of_le hv hp10;by_cases hlt:k<w.length
   ·have hlt':(k:Int)<(w.length:Int):=by omega
    have hg:w[k]? =some w[k]:=List.getElem?_eq_getElem hlt;have hwd:IntKind.i64.wrap ((k:Int)+1)=((k+1:Nat):Int):=by rw[IntKind.wrap_i64];omega
    simp(disch:=omega) only[go_sem,↓reduceIte,e0,e3,e4,hlt',hg,Int.toNat_natCast];refine(Qh G _ w[k]).mono ?_;rintro _ H1 ⟨rfl,rfl⟩;cases hb:Ff w[k] with
    | true=>
     have hd:=(Cd3 w[k]).1 hb;have htk:w.take (k+1)=w.take k++ [w[k]]:=by rw[List.take_add_one,hg];rfl
     have hds:Nd (w.take (k+1))=10*Nd (w.take k)+(w[k].toNat-48):=by rw[htk,Cd0]
     have hall:(w.take (k+1)).all Ff=true:=by rw[htk,List.all_append,hw];simpa using hb
     have hlt10:Nd (w.take (k+1))<10^(k+1):=by rw[hds,Nat.pow_succ];omega
     have w1:IntKind.i64.wrap (10*(Nd (w.take k):Int))=10*(Nd (w.take k):Int):=by rw[IntKind.wrap_i64];omega
     have w2:IntKind.u8.wrap ((w[k].toNat:Int)-48)=(w[k].toNat:Int)-48:=by rw[IntKind.wrap_u8];omega
     have w3:IntKind.i64.wrap ((w[k].toNat:Int)-48)=(w[k].toNat:Int)-48:=by rw[IntKind.wrap_i64];omega
     have w4:IntKind.i64.wrap (10*(Nd (w.take k):Int)+((w[k].toNat:Int)-48))=(Nd (w.take (k+1)):Int):=by rw[IntKind.wrap_i64,hds];omega
     simp(disch:=omega) only[go_sem,↓reduceIte,e0,e3,e4,hlt',hg,Int.toNat_natCast,w1,w2,w3,w4];refine⟨k+1,_,Ik.refl _,(hI _ _ _).2 ?_,by omega⟩;simp(disch:=omega) only[go_sem,↓reduceIte,e0,e3,e4,hwd];(repeat' apply And.intro)<;>(try first | rfl | assumption | omega)
    | false=>
     simp(disch:=omega) only[go_sem,↓reduceIte,e0,e3];refine Pm.refl ⟨?_,rfl⟩;rw[Cw7 (List.all_eq_false.2 ⟨w[k],List.getElem_mem hlt,by rw[hb];simp⟩)]
   ·have:k=w.length:=by omega
    subst this;rw[List.take_length] at hw hv e3;by_cases hb:2147483647<Nd w
    ·have hb':(2147483647:Int)<(Nd w:Int):=by omega
     simp(disch:=omega) only[go_sem,↓reduceIte,e0,e3,e4,hb'];exact Pm.refl ⟨by rw[Cw8 (by omega)],rfl⟩
    ·have hb': ¬(2147483647:Int)<(Nd w:Int):=by omega
     simp(disch:=omega) only[go_sem,↓reduceIte,e0,e3,e4,hb'];exact Pm.refl ⟨by rw[Dh2 hl hw (by omega)],rfl⟩
 ·have hl':(10:Int)<(w.length:Int):=by omega
  simp(disch:=omega) only[go_sem,↓reduceIte,hl'];exact Pm.refl ⟨by rw[Ch9 hl],rfl⟩
theorem Ci2 (G:Nat->DVal) (H:Ab) (s:List UInt8) (hs:s.length<=1000000000):Ah Tryz.prog G 368 [.str s] H (Bp (dI (Pn s)) H):=by
 refine Ac Tryz.func368 Tryz.call368 rfl (by kernel_rfl) ?_;simp(disch:=omega) only[go_sem,↓reduceIte];refine(Bm9 G _).mono ?_;rintro _ H1 ⟨rfl,rfl⟩;simp(disch:=omega) only[go_sem,↓reduceIte,Rv];obtain⟨l,hl⟩: ∃l,l=Ye:=⟨_,rfl⟩;rw[<-hl];have hlen:l.length=22:=by rw[hl];rfl
 obtain⟨I,hI⟩: ∃I:Nat->(Nat->DVal)->Ab->Prop,∀k env heap,I k env heap↔(env 0= .str s/\env 3= .vslice (l.map .str) l.length/\env 4=dI k/\k<=l.length/\(∀u∈l.take k,Vj s u=false)/\heap=H1):=⟨_,fun _ _ _=>Iff.rfl⟩;refine Bs7.run I (fun k=>l.length-k) 0 ((hI _ _ _).2 ?_) ?_
 ·simp(disch:=omega) only[go_sem,↓reduceIte];(repeat' apply And.intro)<;>(try first | rfl | assumption | omega);intro u hu;simp at hu
 ·intro k env heap hi;obtain⟨e0,e3,e4,hk,hno,rfl⟩:=(hI _ _ _).1 hi;by_cases hlt:k<l.length
  ·have hlt':(k:Int)<(l.length:Int):=by omega
   have hg:(l.map DVal.str)[k]? =some (.str l[k]):=by rw[List.getElem?_map,List.getElem?_eq_getElem hlt];rfl
   have hwd:IntKind.i64.wrap ((k:Int)+1)=((k+1:Nat):Int):=by rw[IntKind.wrap_i64];omega
   have hbd:Vj s l[k]=(decide (l[k].length<=s.length)&&decide (s.take l[k].length=l[k])):=rfl;simp(disch:=omega) only[go_sem,↓reduceIte,e0,e3,e4,hlt',hlt,hg,Int.toNat_natCast];refine An (by kernel_rfl) (.take 0 (.take 1 (.take 2 (.take 3 (.take 4 (.take 5 (.take 6 (.take 7 (.take 8 (.take 9 (.take 10 (.take 11 (.take 12 (.take 13 .done)))))))))))))) (by kernel_rfl) ?_;by_cases h1:l[k].length<=s.length
   ·have h1':(l[k].length:Int)<=(s.length:Int):=by omega
    by_cases h2:s.take l[k].length=l[k]
    ·have hh:Vj s l[k]=true:=by rw[hbd,decide_eq_true h1,decide_eq_true h2];rfl
     simp(disch:=omega) only[go_sem,↓reduceIte,e0,e3,e4,hlt',hlt,hg,h1',h2,Int.toNat_natCast];refine Pm.refl ⟨?_,rfl⟩;rw[Dh3 (k:=k) (w:=l[k]) (by rw[<-hl];exact List.getElem?_eq_getElem hlt) hh (by rw[<-hl];exact hno)]
    ·have hh:Vj s l[k]=false:=by rw[hbd,decide_eq_false h2,Bool.and_false]
     simp(disch:=omega) only[go_sem,↓reduceIte,e0,e3,e4,hlt',hlt,hg,h1',h2,Int.toNat_natCast];refine⟨k+1,_,Ik.refl _,(hI _ _ _).2 ?_,by omega⟩;simp(disch:=omega) only[go_sem,↓reduceIte,e0,e3,e4,hwd];(repeat' apply And.intro)<;>(try first | rfl | assumption | omega);exact Np (p:=fun x=>Vj s x=false) hlt hno hh
   ·have h1': ¬(l[k].length:Int)<=(s.length:Int):=by omega
    have hh:Vj s l[k]=false:=by rw[hbd,decide_eq_false h1,Bool.false_and]
    simp(disch:=omega) only[go_sem,↓reduceIte,e0,e3,e4,hlt',hlt,hg,h1',Int.toNat_natCast];refine⟨k+1,_,Ik.refl _,(hI _ _ _).2 ?_,by omega⟩;simp(disch:=omega) only[go_sem,↓reduceIte,e0,e3,e4,hwd];(repeat' apply And.intro)<;>(try first | rfl | assumption | omega);exact Np (p:=fun x=>Vj s x=false) hlt hno hh
  ·have:k=l.length:=by omega
   subst this;simp(disch:=omega) only[go_sem,↓reduceIte,e0,e3,e4];rw[List.take_length] at hno;refine Pm.refl ⟨?_,rfl⟩;rw[Cx0 (by rw[<-hl];exact hno)];rfl
theorem Ai0 (G:Nat->DVal) (H:Ab) (c:UInt8) (r:List UInt8) (hs:(c::r).length<=1000000000):Ah Tryz.prog G 239 [.str (c::r)] H (Bp (Ac9 (Ct (c::r))) H):=by
 have h0:(c::r)[0]? =some c:=rfl
 have hwl:=Bt9 (c::r)
 have hwt:(c::r).take ((Cz (c::r)).length-0)=Cz (c::r):=Ci0 (c::r)
 have hwl':((Cz (c::r)).length:Int)<=((c::r).length:Int):=by omega
 refine Ac Tryz.func239 Tryz.call239 rfl (by kernel_rfl) ?_
 simp(disch:=omega) only[go_sem,↓reduceIte]
 intro r2 hr2;dsimp only at hr2
 simp(disch:=omega) only[go_sem,↓reduceIte]
 refine(Bf0 G _ (c::r) hs).mono ?_
 rintro _ H1 ⟨rfl,rfl⟩
 simp(disch:=omega) only[go_sem,↓reduceIte,h0]
 refine(Oo G _ c).mono ?_
 rintro _ H1 ⟨rfl,rfl⟩
 generalize hw:Cz (c::r)=w at hwl hwt hwl'
 cases hle:Eu c with
 | true=>
  simp(disch:=omega) only[go_sem,↓reduceIte,h0,hwl',hwt]
  refine(An1 G _ w).mono ?_
  rintro _ H1 ⟨rfl,rfl⟩
  cases hk:Sq w with
  | true=>
   simp(disch:=omega) only[go_sem,↓reduceIte,h0,DVal.cells]
   exact Pm.dropA r2 hr2 (Pm.refl ⟨by rw[Ly,hw,hle,if_pos rfl,hk,if_pos rfl];rfl,rfl⟩)
  | false=>
   simp(disch:=omega) only[go_sem,↓reduceIte,h0]
   refine(Bn0 G _ w).mono ?_
   rintro _ H1 ⟨rfl,rfl⟩
   cases hn:Lx w with
   | true=>
    simp(disch:=omega) only[go_sem,↓reduceIte,h0,DVal.cells]
    exact Pm.dropA r2 hr2 (Pm.refl ⟨by rw[Ly,hw,hle,if_pos rfl,hk,if_neg (by simp),hn,if_pos rfl];rfl,rfl⟩)
   | false=>
    simp(disch:=omega) only[go_sem,↓reduceIte,h0,DVal.cells]
    exact Pm.dropA r2 hr2 (Pm.refl ⟨by rw[Ly,hw,hle,if_pos rfl,hk,if_neg (by simp),hn,if_neg (by simp)];rfl,rfl⟩)
 | false=>
  simp(disch:=omega) only[go_sem,↓reduceIte,h0]
  refine(Qh G _ c).mono ?_
  rintro _ H1 ⟨rfl,rfl⟩
  cases hd:Ff c with
  | true=>
   have hfc:Ct (c::r)=match Ak5 w with | some v=>(⟨3,0,[],v⟩,w.length) | none=>(Wg,0):=by
    rw[Ly,hw,hle,if_neg (by simp),hd,if_pos rfl];cases Ak5 w<;>rfl
   simp(disch:=omega) only[go_sem,↓reduceIte,h0,hwl',hwt]
   refine(Ci1 G _ w).mono ?_
   rintro _ H1 ⟨rfl,rfl⟩
   cases hv:Ak5 w with
   | some v=>
    have hiv:Xl w=(v:Int):=by rw[Xl,hv]
    have hneg: ¬(v:Int)<0:=by omega
    simp(disch:=omega) only[go_sem,↓reduceIte,hiv,hneg,DVal.cells]
    exact Pm.dropA r2 hr2 (Pm.refl ⟨by rw[hfc,hv];rfl,rfl⟩)
   | none=>
    have hiv:Xl w= -1:=by rw[Xl,hv]
    simp(disch:=omega) only[go_sem,↓reduceIte,hiv,DVal.cells]
    exact Pm.dropA r2 hr2 (Pm.refl ⟨by rw[hfc,hv];rfl,rfl⟩)
  | false=>
   have hsl:=Bl8 (c::r)
   have hsl':(Pn (c::r):Int)<=((c::r).length:Int):=by omega
   simp(disch:=omega) only[go_sem,↓reduceIte]
   refine(Ci2 G _ (c::r) hs).mono ?_
   rintro _ H1 ⟨rfl,rfl⟩
   simp(disch:=omega) only[go_sem,↓reduceIte,h0,DVal.cells,hsl']
   exact Pm.dropA r2 hr2 (Pm.refl ⟨by rw[Ly,hle,if_neg (by simp),hd,if_neg (by simp)];simp [Ac9,Dd],rfl⟩)
end
theorem Dh4 {c d:UInt8} {r r':List UInt8} (hd:d≠45) (h:r=d::r'):Jk (c::r)=false:=by
 subst h;unfold Jk;split
 ·rename_i e;simp at e;exact absurd e.2.1 hd
 ·rfl
theorem Dh5 {c:UInt8} {r:List UInt8} (h:r= []):Jk (c::r)=false:=by
 subst h;unfold Jk;split
 ·rename_i e;simp at e
 ·rfl
set_option maxHeartbeats 4000000 in
theorem Au9 (G:Nat->DVal) (H:Ab) (src:List UInt8) (hs:src.length<=1000000000):Ah Tryz.prog G 103 [.str src] H (Bp (.tuple [Bv (Bg src).1,dI (Bg src).2.1,dI (Bg src).2.2]) H):=by
 refine Ac Tryz.func103 Tryz.call103 rfl (by kernel_rfl) ?_
 by_cases hl:65536<src.length
 ·have hl':(65536:Int)<(src.length:Int):=by omega
  simp(disch:=omega) only[go_sem,↓reduceIte,hl',List.append_nil]
  refine Pm.ghost (Hl (H:=H) (Sub.refl H) [dI 0,dI 3] rfl) (Pm.refl ⟨?_,rfl⟩)
  rw[Bg,if_pos hl]
 have hl': ¬(65536:Int)<(src.length:Int):=by omega
 simp(disch:=omega) only[go_sem,↓reduceIte,hl']
 obtain⟨I,hI⟩: ∃I:Nat×Nat×List Tok->(Nat->DVal)->Ab->Prop,∀ix env heap,I ix env heap↔(env 0= .str src/\env 6=dI ix.2.1/\env 7=dI ix.1/\ix.1<=src.length/\ix.2.1<=ix.1+1/\ix.2.2.length<=8192/\Gu (src.drop ix.1) ix.2.1 ix.2.2=Bg src/\Ea H 31 4 ix.2.2.length (ix.2.2.flatMap Dd) (env 5) heap):=⟨_,fun _ _ _=>Iff.rfl⟩
 refine Bs7.run I (fun ix=>src.length-ix.1) (0,1,[]) ((hI _ _ _).2 ?_) ?_
 ·simp(disch:=omega) only[go_sem,↓reduceIte]
  (repeat' apply And.intro)<;>(try first | rfl | assumption | omega)
  ·exact(Ba7 (by omega)).symm
  ·exact Ea.nil _ _ (Sub.refl _)
 ·rintro⟨k,ln,ts⟩ env hp hi
  obtain⟨e0,e6,e7,hk,hln,hts,hr,hv⟩:=(hI _ _ _).1 hi
  dsimp only at e6 e7 hk hln hts hr hv
  obtain⟨v,e5⟩: ∃v,env 5=v:=⟨_,rfl⟩
  rw[e5] at hv
  by_cases hlt:k<src.length
  ·have hlt':(k:Int)<(src.length:Int):=by omega
   have hkl:(k:Int)<=(src.length:Int):=by omega
   obtain⟨c,hc⟩: ∃c,c=src[k]:=⟨_,rfl⟩
   have hg:src[k]? =some c:=by rw[hc];exact List.getElem?_eq_getElem hlt
   have hd:src.drop k=c::src.drop (k+1):=by rw[hc];exact List.drop_eq_getElem_cons hlt
   have hdr:(src.drop k).take (src.length-k)=c::src.drop (k+1):=by rw[<-hd];exact List.take_of_length_le (by rw[List.length_drop];exact Nat.le_refl _)
   have hw1:IntKind.i64.wrap ((k:Int)+1)=((k+1:Nat):Int):=by rw[IntKind.wrap_i64];omega
   have hwl:IntKind.i64.wrap ((ln:Int)+1)=((ln+1:Nat):Int):=by rw[IntKind.wrap_i64];omega
   by_cases c10:c=10
   ·have c10':(c.toNat:Int)=10:=by rw[c10];rfl
    simp(disch:=omega) only[go_sem,↓reduceIte,e0,e5,e6,e7,hlt',hg,c10',Int.toNat_natCast]
    refine⟨(k+1,ln+1,ts),_,Ik.refl _,(hI _ _ _).2 ?_,by dsimp only;omega⟩
    simp(disch:=omega) only[go_sem,↓reduceIte,e0,e5,e6,e7,hw1,hwl]
    (repeat' apply And.intro)<;>(try first | rfl | assumption | omega)
    rw[<-hr,hd,c10,De6]
   have c10': ¬(c.toNat:Int)=10:=Lw (d:=10) c10
   by_cases c32:c=32
   ·have c32':(c.toNat:Int)=32:=by rw[c32];rfl
    simp(disch:=omega) only[go_sem,↓reduceIte,e0,e5,e6,e7,hlt',hg,c10',c32',Int.toNat_natCast]
    refine⟨(k+1,ln,ts),_,Ik.refl _,(hI _ _ _).2 ?_,by dsimp only;omega⟩
    simp(disch:=omega) only[go_sem,↓reduceIte,e0,e5,e6,e7,hw1,hwl]
    (repeat' apply And.intro)<;>(try first | rfl | assumption | omega)
    rw[<-hr,hd,c32,De7]
   have c32': ¬(c.toNat:Int)=32:=Lw (d:=32) c32
   by_cases hlt1:k+1<src.length
   ·have hlt1':((k+1:Nat):Int)<(src.length:Int):=by omega
    have hd1:src.drop (k+1)=src[k+1]::src.drop (k+2):=List.drop_eq_getElem_cons hlt1
    have hg1:src[k+1]? =some src[k+1]:=List.getElem?_eq_getElem hlt1
    by_cases c45:c=45
    ·have c45':(c.toNat:Int)=45:=by rw[c45];rfl
     by_cases d45:src[k+1]=45
     ·have d45':(src[k+1].toNat:Int)=45:=by rw[d45];rfl
      have hd2:src.drop k=45::45::src.drop (k+2):=by rw[hd,hd1,c45,d45]
      obtain⟨h,t,hls,hbad,hok⟩:=Cq9 (src.drop (k+2)) ln ts
      rw[<-hd2] at hls hbad hok
      rw[hr] at hbad hok
      obtain⟨p1,p2,_⟩:=Qg hls
      have hsh: ∃q,src.drop k=h++q/\(q= []\/ ∃q',q=10::q'):=by
       rcases p2 with⟨_,e⟩ | ⟨_,e⟩
       ·exact⟨[],by rw[e,List.append_nil], .inl rfl⟩
       ·exact⟨_,e, .inr ⟨_,rfl⟩⟩
      obtain⟨q,hq,hq2⟩:=hsh
      have hpos:0<h.length:=by
       match h,hq with
       | [],hq=>
        rw[hd2] at hq
        rcases hq2 with rfl | ⟨q',rfl⟩
        ·cases hq
        ·have:=(List.cons.inj hq).1;exact absurd this (by decide)
       | x::h,_=>simp
      have hhl:k+h.length+q.length=src.length:=by
       have:=congrArg List.length hq
       rw[List.length_drop,List.length_append] at this;omega
      have hat: ∀j (hj:j<h.length),src[k+j]? =some h[j]:=fun j hj=>by
       rw[<-List.getElem?_drop,hq,List.getElem?_append_left hj,List.getElem?_eq_getElem hj]
      have hend:src[k+h.length]? =q[0]? :=by
       rw[<-List.getElem?_drop,hq,List.getElem?_append_right (Nat.le_refl _),Nat.sub_self]
      simp(disch:=omega) only[go_sem,↓reduceIte,e0,e5,e6,e7,hlt',hg,c10',c32',hw1,hlt1',hg1,c45',d45',Int.toNat_natCast]
      obtain⟨J,hJ⟩: ∃J:Nat->(Nat->DVal)->Ab->Prop,∀j env heap,J j env heap↔(env 0= .str src/\env 5=v/\env 6=dI ln/\env 7=dI ((k+j:Nat):Int)/\j<=h.length/\Jt (h.take j)=true/\heap=hp):=⟨_,fun _ _ _=>Iff.rfl⟩
      refine Bs7.run J (fun j=>h.length-j) 0 ((hJ _ _ _).2 ?_) ?_
      ·simp(disch:=omega) only[go_sem,↓reduceIte,e0,e5,e6,e7,Nat.add_zero]
       (repeat' apply And.intro)<;>(try first | rfl | assumption | omega)
      ·intro j env' hp' hi'
       obtain⟨f0,f5,f6,f7,hj,hpl,rfl⟩:=(hJ _ _ _).1 hi'
       by_cases hjl:j<h.length
       ·have hjl':((k+j:Nat):Int)<(src.length:Int):=by omega
        have hgj:=hat j hjl
        have hn10: ¬(h[j].toNat:Int)=10:=Lw (d:=10) fun e=>p1 (by rw[<-e];exact List.getElem_mem hjl)
        have hwj:IntKind.i64.wrap (((k+j:Nat):Int)+1)=((k+(j+1):Nat):Int):=by rw[IntKind.wrap_i64];omega
        have hb: ¬(32<=h[j].toNat/\h[j].toNat<=126)->Jt h=false:=fun x=>by
         rw[Jt,List.all_eq_false]
         refine⟨h[j],List.getElem_mem hjl,?_⟩
         simp only[Bool.and_eq_true,decide_eq_true_eq];exact x
        by_cases h1:h[j].toNat<32
        ·have h1':(h[j].toNat:Int)<32:=by omega
         simp(disch:=omega) only[go_sem,↓reduceIte,f0,f5,f6,f7,hjl',hgj,hn10,h1',Int.toNat_natCast]
         refine Pm.ghost (Hl (H:=H) hv.sub [dI ln,dI 20] rfl) (Pm.refl ⟨?_,rfl⟩)
         rw[hbad (hb (by omega))]
        ·have h1': ¬(h[j].toNat:Int)<32:=by omega
         by_cases h2:126<h[j].toNat
         ·have h2':(126:Int)<(h[j].toNat:Int):=by omega
          simp(disch:=omega) only[go_sem,↓reduceIte,f0,f5,f6,f7,hjl',hgj,hn10,h1',h2',Int.toNat_natCast]
          refine Pm.ghost (Hl (H:=H) hv.sub [dI ln,dI 20] rfl) (Pm.refl ⟨?_,rfl⟩)
          rw[hbad (hb (by omega))]
         ·have h2': ¬(126:Int)<(h[j].toNat:Int):=by omega
          simp(disch:=omega) only[go_sem,↓reduceIte,f0,f5,f6,f7,hjl',hgj,hn10,h1',h2',Int.toNat_natCast]
          refine⟨j+1,_,Ik.refl _,(hJ _ _ _).2 ?_,by omega⟩
          simp(disch:=omega) only[go_sem,↓reduceIte,f0,f5,f6,f7,hwj]
          (repeat' apply And.intro)<;>(try first | rfl | assumption | omega)
          rw[List.take_add_one,List.getElem?_eq_getElem hjl,Cc9,hpl]
          simp [Jt];omega
       ·have:j=h.length:=by omega
        subst this
        rw[List.take_length] at hpl
        have hgo:=hok hpl
        rw[List.drop_drop] at hgo
        rcases hq2 with rfl | ⟨q',rfl⟩
        ·have hjl': ¬((k+h.length:Nat):Int)<(src.length:Int):=by simp at hhl;omega
         simp(disch:=omega) only[go_sem,↓reduceIte,f0,f5,f6,f7,hjl']
         refine⟨(k+h.length,ln,ts),_,Ik.refl _,(hI _ _ _).2 ?_,by dsimp only;omega⟩
         simp(disch:=omega) only[go_sem,↓reduceIte,f0,f5,f6,f7]
         (repeat' apply And.intro)<;>(try first | rfl | assumption | omega)
         exact hgo.symm
        ·have hjl':((k+h.length:Nat):Int)<(src.length:Int):=by simp at hhl;omega
         simp(disch:=omega) only[go_sem,↓reduceIte,f0,f5,f6,f7,hjl',hend,List.getElem?_cons_zero,Int.toNat_natCast]
         refine⟨(k+h.length,ln,ts),_,Ik.refl _,(hI _ _ _).2 ?_,by dsimp only;omega⟩
         simp(disch:=omega) only[go_sem,↓reduceIte,f0,f5,f6,f7]
         (repeat' apply And.intro)<;>(try first | rfl | assumption | omega)
         exact hgo.symm
     ·have d45': ¬(src[k+1].toNat:Int)=45:=Lw (d:=45) d45
      ·have hcom:Jk (c::src.drop (k+1))=false:=Dh4 d45 hd1
       simp(disch:=omega) only[go_sem,↓reduceIte,e0,e5,e6,e7,hlt',hg,c10',c32',hlt1',hg1,c45',d45',Int.toNat_natCast,hdr,hkl,hw1]
       refine(Ai0 G _ c (src.drop (k+1)) (by rw[<-hd,List.length_drop];omega)).mono ?_
       rintro _ H1 ⟨rfl,rfl⟩
       have htk:=Ac7 ln ts c10 c32 hcom
       have hfl:=Uo (c::src.drop (k+1))
       rw[<-hd,List.length_drop] at hfl
       rw[<-hd,hr] at htk
       rw[<-hd]
       generalize hf:Ct (src.drop k)=tn at htk hfl
       obtain⟨T,n⟩:=tn
       dsimp only at htk hfl
       simp(disch:=omega) only[go_sem,↓reduceIte,Ac9,DVal.cells,e0,e5,e6,e7]
       intro r8 hr8;dsimp only at hr8
       have hvf:=hv.frame hr8 (.cells (Dd { T with line:=(ln:Int) }) 31)
       by_cases hn:n=0
       ·have hn':(n:Int)=0:=by omega
        rw[if_pos hn] at htk
        simp(disch:=omega) only[go_sem,↓reduceIte,e0,e5,e6,e7,hn',Bu,Ih,Ii,Ft,List.append_nil]
        refine Pm.ghost (Hl (H:=H) (hv.new hr8 _).sub [dI ln,dI 20] rfl) (Pm.refl ⟨?_,rfl⟩)
        rw[htk]
       ·have hn': ¬(n:Int)=0:=by omega
        rw[if_neg hn] at htk
        by_cases h8:ts.length=8192
        ·have h8':(ts.length:Int)=8192:=by omega
         rw[if_pos h8] at htk
         simp(disch:=omega) only[go_sem,↓reduceIte,e0,e5,e6,e7,hn',hv.dLen,h8',Bu,Ih,Ii,Ft,List.append_nil]
         refine Pm.ghost (Hl (H:=H) (hv.new hr8 _).sub [dI ln,dI 3] rfl) (Pm.refl ⟨?_,rfl⟩)
         rw[htk]
        ·have h8': ¬(ts.length:Int)=8192:=by omega
         rw[if_neg h8] at htk
         have hsp:Ck (Dd T) 1 [dI (ln:Int)]=Dd { T with line:=(ln:Int) }:=rfl
         have hrep:Cm 1 [DVal.int IntKind.u8 0,DVal.int IntKind.i64 0,DVal.str [],DVal.int IntKind.i64 0]= [DVal.int IntKind.u8 0,DVal.int IntKind.i64 0,DVal.str [],DVal.int IntKind.i64 0]:=rfl
         have hwn:IntKind.i64.wrap ((k:Int)+(n:Int))=((k+n:Nat):Int):=by rw[IntKind.wrap_i64];omega
         simp(disch:=omega) only[go_sem,↓reduceIte,e0,e5,e6,e7,hn',hv.dLen,h8',Bu,Ih,Ii,Ft,List.append_nil,hsp]
         rw[hrep]
         simp(disch:=omega) only[go_sem,↓reduceIte,List.length_cons,List.length_nil,List.drop_succ_cons,List.drop_zero,List.append_nil,e5]
         intro ns hns;dsimp only at hns
         simp(disch:=omega) only[go_sem,↓reduceIte,e0,e5,e6,e7,Bu,Ih,Ii,Ft,List.append_nil]
         refine Ea.append (m:=1) (hvf.new hns _) rfl (by omega) fun v2 H3 hv3=> ?_
         simp(disch:=omega) only[go_sem,↓reduceIte,e0,e5,e6,e7]
         refine⟨(k+n,ln,ts++ [{ T with line:=(ln:Int) }]),_,Ik.refl _,(hI _ _ _).2 ?_,by dsimp only;omega⟩
         simp(disch:=omega) only[go_sem,↓reduceIte,e0,e5,e6,e7,hwn]
         (repeat' apply And.intro)<;>(try first | rfl | assumption | omega)
         ·rw[List.length_append];simp;omega
         ·rw[<-List.drop_drop,<-htk]
         ·have:=hv3.less ((Sub.refl H).up (hv.sub.lo hr8) _)
          rw[List.length_append,List.flatMap_append]
          simpa using this
    ·have c45': ¬(c.toNat:Int)=45:=Lw (d:=45) c45
     ·have hcom:Jk (c::src.drop (k+1))=false:=Dp4 _ c45
      simp(disch:=omega) only[go_sem,↓reduceIte,e0,e5,e6,e7,hlt',hg,c10',c32',hlt1',hg1,c45',Int.toNat_natCast,hdr,hkl,hw1]
      refine(Ai0 G _ c (src.drop (k+1)) (by rw[<-hd,List.length_drop];omega)).mono ?_
      rintro _ H1 ⟨rfl,rfl⟩
      have htk:=Ac7 ln ts c10 c32 hcom
      have hfl:=Uo (c::src.drop (k+1))
      rw[<-hd,List.length_drop] at hfl
      rw[<-hd,hr] at htk
      rw[<-hd]
      generalize hf:Ct (src.drop k)=tn at htk hfl
      obtain⟨T,n⟩:=tn
      dsimp only at htk hfl
      simp(disch:=omega) only[go_sem,↓reduceIte,Ac9,DVal.cells,e0,e5,e6,e7]
      intro r8 hr8;dsimp only at hr8
      have hvf:=hv.frame hr8 (.cells (Dd { T with line:=(ln:Int) }) 31)
      by_cases hn:n=0
      ·have hn':(n:Int)=0:=by omega
       rw[if_pos hn] at htk
       simp(disch:=omega) only[go_sem,↓reduceIte,e0,e5,e6,e7,hn',Bu,Ih,Ii,Ft,List.append_nil]
       refine Pm.ghost (Hl (H:=H) (hv.new hr8 _).sub [dI ln,dI 20] rfl) (Pm.refl ⟨?_,rfl⟩)
       rw[htk]
      ·have hn': ¬(n:Int)=0:=by omega
       rw[if_neg hn] at htk
       by_cases h8:ts.length=8192
       ·have h8':(ts.length:Int)=8192:=by omega
        rw[if_pos h8] at htk
        simp(disch:=omega) only[go_sem,↓reduceIte,e0,e5,e6,e7,hn',hv.dLen,h8',Bu,Ih,Ii,Ft,List.append_nil]
        refine Pm.ghost (Hl (H:=H) (hv.new hr8 _).sub [dI ln,dI 3] rfl) (Pm.refl ⟨?_,rfl⟩)
        rw[htk]
       ·have h8': ¬(ts.length:Int)=8192:=by omega
        rw[if_neg h8] at htk
        have hsp:Ck (Dd T) 1 [dI (ln:Int)]=Dd { T with line:=(ln:Int) }:=rfl
        have hrep:Cm 1 [DVal.int IntKind.u8 0,DVal.int IntKind.i64 0,DVal.str [],DVal.int IntKind.i64 0]= [DVal.int IntKind.u8 0,DVal.int IntKind.i64 0,DVal.str [],DVal.int IntKind.i64 0]:=rfl
        have hwn:IntKind.i64.wrap ((k:Int)+(n:Int))=((k+n:Nat):Int):=by rw[IntKind.wrap_i64];omega
        simp(disch:=omega) only[go_sem,↓reduceIte,e0,e5,e6,e7,hn',hv.dLen,h8',Bu,Ih,Ii,Ft,List.append_nil,hsp]
        rw[hrep]
        simp(disch:=omega) only[go_sem,↓reduceIte,List.length_cons,List.length_nil,List.drop_succ_cons,List.drop_zero,List.append_nil,e5]
        intro ns hns;dsimp only at hns
        simp(disch:=omega) only[go_sem,↓reduceIte,e0,e5,e6,e7,Bu,Ih,Ii,Ft,List.append_nil]
        refine Ea.append (m:=1) (hvf.new hns _) rfl (by omega) fun v2 H3 hv3=> ?_
        simp(disch:=omega) only[go_sem,↓reduceIte,e0,e5,e6,e7]
        refine⟨(k+n,ln,ts++ [{ T with line:=(ln:Int) }]),_,Ik.refl _,(hI _ _ _).2 ?_,by dsimp only;omega⟩
        simp(disch:=omega) only[go_sem,↓reduceIte,e0,e5,e6,e7,hwn]
        (repeat' apply And.intro)<;>(try first | rfl | assumption | omega)
        ·rw[List.length_append];simp;omega
        ·rw[<-List.drop_drop,<-htk]
        ·have:=hv3.less ((Sub.refl H).up (hv.sub.lo hr8) _)
         rw[List.length_append,List.flatMap_append]
         simpa using this
   ·have hlt1': ¬((k+1:Nat):Int)<(src.length:Int):=by omega
    have hd1:src.drop (k+1)= []:=List.drop_eq_nil_of_le (by omega)
    ·have hcom:Jk (c::src.drop (k+1))=false:=Dh5 hd1
     simp(disch:=omega) only[go_sem,↓reduceIte,e0,e5,e6,e7,hlt',hg,c10',c32',hlt1',Int.toNat_natCast,hdr,hkl,hw1]
     refine(Ai0 G _ c (src.drop (k+1)) (by rw[<-hd,List.length_drop];omega)).mono ?_
     rintro _ H1 ⟨rfl,rfl⟩
     have htk:=Ac7 ln ts c10 c32 hcom
     have hfl:=Uo (c::src.drop (k+1))
     rw[<-hd,List.length_drop] at hfl
     rw[<-hd,hr] at htk
     rw[<-hd]
     generalize hf:Ct (src.drop k)=tn at htk hfl
     obtain⟨T,n⟩:=tn
     dsimp only at htk hfl
     simp(disch:=omega) only[go_sem,↓reduceIte,Ac9,DVal.cells,e0,e5,e6,e7]
     intro r8 hr8;dsimp only at hr8
     have hvf:=hv.frame hr8 (.cells (Dd { T with line:=(ln:Int) }) 31)
     by_cases hn:n=0
     ·have hn':(n:Int)=0:=by omega
      rw[if_pos hn] at htk
      simp(disch:=omega) only[go_sem,↓reduceIte,e0,e5,e6,e7,hn',Bu,Ih,Ii,Ft,List.append_nil]
      refine Pm.ghost (Hl (H:=H) (hv.new hr8 _).sub [dI ln,dI 20] rfl) (Pm.refl ⟨?_,rfl⟩)
      rw[htk]
     ·have hn': ¬(n:Int)=0:=by omega
      rw[if_neg hn] at htk
      by_cases h8:ts.length=8192
      ·have h8':(ts.length:Int)=8192:=by omega
       rw[if_pos h8] at htk
       simp(disch:=omega) only[go_sem,↓reduceIte,e0,e5,e6,e7,hn',hv.dLen,h8',Bu,Ih,Ii,Ft,List.append_nil]
       refine Pm.ghost (Hl (H:=H) (hv.new hr8 _).sub [dI ln,dI 3] rfl) (Pm.refl ⟨?_,rfl⟩)
       rw[htk]
      ·have h8': ¬(ts.length:Int)=8192:=by omega
       rw[if_neg h8] at htk
       have hsp:Ck (Dd T) 1 [dI (ln:Int)]=Dd { T with line:=(ln:Int) }:=rfl
       have hrep:Cm 1 [DVal.int IntKind.u8 0,DVal.int IntKind.i64 0,DVal.str [],DVal.int IntKind.i64 0]= [DVal.int IntKind.u8 0,DVal.int IntKind.i64 0,DVal.str [],DVal.int IntKind.i64 0]:=rfl
       have hwn:IntKind.i64.wrap ((k:Int)+(n:Int))=((k+n:Nat):Int):=by rw[IntKind.wrap_i64];omega
       simp(disch:=omega) only[go_sem,↓reduceIte,e0,e5,e6,e7,hn',hv.dLen,h8',Bu,Ih,Ii,Ft,List.append_nil,hsp]
       rw[hrep]
       simp(disch:=omega) only[go_sem,↓reduceIte,List.length_cons,List.length_nil,List.drop_succ_cons,List.drop_zero,List.append_nil,e5]
       intro ns hns;dsimp only at hns
       simp(disch:=omega) only[go_sem,↓reduceIte,e0,e5,e6,e7,Bu,Ih,Ii,Ft,List.append_nil]
       refine Ea.append (m:=1) (hvf.new hns _) rfl (by omega) fun v2 H3 hv3=> ?_
       simp(disch:=omega) only[go_sem,↓reduceIte,e0,e5,e6,e7]
       refine⟨(k+n,ln,ts++ [{ T with line:=(ln:Int) }]),_,Ik.refl _,(hI _ _ _).2 ?_,by dsimp only;omega⟩
       simp(disch:=omega) only[go_sem,↓reduceIte,e0,e5,e6,e7,hwn]
       (repeat' apply And.intro)<;>(try first | rfl | assumption | omega)
       ·rw[List.length_append];simp;omega
       ·rw[<-List.drop_drop,<-htk]
       ·have:=hv3.less ((Sub.refl H).up (hv.sub.lo hr8) _)
        rw[List.length_append,List.flatMap_append]
        simpa using this
  ·have:k=src.length:=by omega
   subst this
   simp(disch:=omega) only[go_sem,↓reduceIte,e0,e5,e6,e7]
   refine Pm.ghost (Hw.tuple1' (pre:= []) hv.ghost rfl rfl) (Pm.refl ⟨?_,rfl⟩)
   rw[List.drop_length,Cq7] at hr
   rw[<-hr];rfl
end Go.Dl

-- Chapter 3: the law's helpers.
namespace Go.Dl
open Go Go.Proofs
set_option maxRecDepth 100000
theorem Ah.monoR {P:Program} {G:Nat->DVal} {f:FuncId} {args:List DVal} {H H2:Ab} {v:DVal} {R:DEnd->Ab->Prop} (h:Ah P G f args H (Bp v H2)) (k:R (.ret v) H2):Ah P G f args H R:=h.mono (by rintro _ _ ⟨rfl,rfl⟩;exact k)
def nmE (s:List UInt8):Ex:= .mk 3 0 0 s [] [] 0 0 0
def Bt (n:Int):Ex:= .mk 1 0 n [] [] [] 0 0 0
def Nv (o:Int) (a b:Ex):Ex:= .mk 12 o 0 [] [a,b] [] 0 0 0
def Tj (o:Int) (a:Ex):Ex:= .mk 11 o 0 [] [a] [] 0 0 0
def Cx1 (n:Nat):Int:=if n=0 then 3 else n
def Mg (s:List UInt8) (lv n:Int) (want:Ex):Bool:=decide ((Du (Bg s).1 lv).2.2=0)&&decide ((Du (Bg s).1 lv).2.1=n)&&Jl (Du (Bg s).1 lv).1 want
def Xm (s:List UInt8) (lv at':Int):Bool:=Jl (Du (Bg s).1 lv).1 ex0&&decide ((Du (Bg s).1 lv).2.1=at')&&decide ((Du (Bg s).1 lv).2.2=30)
section
variable {G:Nat->DVal} {H:Ab}
theorem Ep (G:Nat->DVal) (H:Ab) (s:List UInt8):Ah Tryz.prog G 16 [.str s] H (Bp (dE (nmE s)) H):=by
 refine Ac Tryz.func16 Tryz.call16 rfl (by kernel_rfl) ?_;simp(disch:=omega) only[go_sem,↓reduceIte];intro r hr;dsimp only at hr;simp(disch:=omega) only[go_sem,↓reduceIte];have hs:=fun z=>(Sub.refl H).new hr z;exact Fv.fin (hs _) (Fv.agg (Fv.ex (hs _) (.exs0 (hs _)) (.as0 (hs _)))) ⟨rfl,rfl⟩
theorem Gc (G:Nat->DVal) (H:Ab) (n:Int):Ah Tryz.prog G 24 [.int .i64 n] H (Bp (dE (Bt n)) H):=by
 refine Ac Tryz.func24 Tryz.call24 rfl (by kernel_rfl) ?_;simp(disch:=omega) only[go_sem,↓reduceIte];intro r hr;dsimp only at hr;simp(disch:=omega) only[go_sem,↓reduceIte];have hs:=fun z=>(Sub.refl H).new hr z;exact Fv.fin (hs _) (Fv.agg (Fv.ex (hs _) (.exs0 (hs _)) (.as0 (hs _)))) ⟨rfl,rfl⟩
theorem Gn (G:Nat->DVal) (H:Ab) (o:Int) (a b:Ex):Ah Tryz.prog G 18 [.int .u8 o, .agg (dEx a), .agg (dEx b)] H (Bp (dE (Nv o a b)) H):=by
 have hlx:(dEx a).length=9:=Aj a;have hly:(dEx b).length=9:=Aj b;have hab: [a,b].flatMap dEx=dEx a++dEx b:=by simp
 refine Ac Tryz.func18 Tryz.call18 rfl (by kernel_rfl) ?_;simp(disch:=omega) only[go_sem,↓reduceIte,DVal.cells];intro r4 hr4;dsimp only at hr4;simp(disch:=omega) only[go_sem,↓reduceIte,DVal.cells];intro r5 hr5;dsimp only at hr5;obtain⟨m1,m2,hr5'⟩:=Dj1.1 hr5;simp(disch:=omega) only[go_sem,↓reduceIte];intro r6 hr6;dsimp only at hr6;obtain⟨m3,m4,hr6a⟩:=Dj1.1 hr6;obtain⟨m5,m6,hr6'⟩:=Dj1.1 hr6a;simp(disch:=omega) only[go_sem,↓reduceIte,m1,m2,m3,m4,m5,m6];rw[Nq hlx hly];simp(disch:=omega) only[go_sem,↓reduceIte,m1,m2,m3,m4,m5,m6];intro r7 hr7;dsimp only at hr7;obtain⟨p1,p2,hr7a⟩:=Dj1.1 hr7;obtain⟨p3,p4,hr7b⟩:=Dj1.1 hr7a;obtain⟨p5,p6,hr7'⟩:=Dj1.1 hr7b;simp(disch:=omega) only[go_sem,↓reduceIte,m1,m2,m3,m4,m5,m6,p1,p2,p3,p4,p5,p6];have hs:=(((((Sub.refl H).new hr4 (some (.cells (dEx a) 36))).new hr5 (some (.cells (dEx b) 36))).new hr6 (some (.cells [.int .u8 0, .int .u8 0, .int .i64 0, .str [], .nilSlice, .nilSlice, .int .i64 0, .int .i64 0, .int .i64 0] 36))).new hr7 (some (.cells (dEx a++dEx b) 36))).up hr6' (some (.cells [.int .u8 12, .int .u8 o, .int .i64 0, .str [], .oslice 9 r7 0 2 2, .nilSlice, .int .i64 0, .int .i64 0, .int .i64 0] 36));refine Fv.fin hs (Fv.agg (Fv.ex (l:= [a,b]) hs (Fv.block (e:=36) hs hr7' ?_ ?_) (.as0 hs))) ⟨rfl,rfl⟩
 ·rw[hab];simp [upd,p1,p2]
 ·rw[hab,List.length_append,hlx,hly]
theorem Ll (G:Nat->DVal) (H:Ab) (o:Int) (a:Ex):Ah Tryz.prog G 22 [.int .u8 o, .agg (dEx a)] H (Bp (dE (Tj o a)) H):=by
 have hlx:(dEx a).length=9:=Aj a;refine Ac Tryz.func22 Tryz.call22 rfl (by kernel_rfl) ?_;simp(disch:=omega) only[go_sem,↓reduceIte,DVal.cells];intro r4 hr4;dsimp only at hr4;simp(disch:=omega) only[go_sem,↓reduceIte,DVal.cells];intro r6 hr6;dsimp only at hr6;obtain⟨m3,m4,hr6'⟩:=Dj1.1 hr6;simp(disch:=omega) only[go_sem,↓reduceIte,m3,m4];rw[Lk hlx];simp(disch:=omega) only[go_sem,↓reduceIte,m3,m4];intro r7 hr7;dsimp only at hr7;obtain⟨p1,p2,hr7a⟩:=Dj1.1 hr7;obtain⟨p3,p4,hr7'⟩:=Dj1.1 hr7a;simp(disch:=omega) only[go_sem,↓reduceIte,m3,m4,p1,p2,p3,p4];have hs:=((((Sub.refl H).new hr4 (some (.cells (dEx a) 36))).new hr6 (some (.cells [.int .u8 0, .int .u8 0, .int .i64 0, .str [], .nilSlice, .nilSlice, .int .i64 0, .int .i64 0, .int .i64 0] 36))).new hr7 (some (.cells (dEx a) 36))).up hr6' (some (.cells [.int .u8 11, .int .u8 o, .int .i64 0, .str [], .oslice 9 r7 0 1 1, .nilSlice, .int .i64 0, .int .i64 0, .int .i64 0] 36));refine Fv.fin hs (Fv.agg (Fv.ex (l:= [a]) hs (Fv.block (e:=36) hs hr7' ?_ ?_) (.as0 hs))) ⟨rfl,rfl⟩
 ·rw[List.flatMap_singleton];simp [upd,p1,p2]
 ·rw[List.flatMap_singleton,hlx]
theorem Ld (G:Nat->DVal) (H:Ab) (l:List Ex) (hl:l.length<=2):Ah Tryz.prog G 25 [dXs l] H (Bp (dC (.mk (Cx1 l.length) l)) H):=by
 have hk:([DVal.int .u8 3, .int .u8 1, .int .u8 2]:List DVal)[l.length]? =some (.int .u8 (Cx1 l.length)):=by
  have:l.length=0\/l.length=1\/l.length=2:=by omega
  rcases this with h | h | h<;>(rw[h];rfl)
 have hl3:(l.length:Int)<3:=by omega
 refine Ac Tryz.func25 Tryz.call25 rfl (by kernel_rfl) ?_;simp(disch:=omega) only[go_sem,↓reduceIte];intro r2 hr2;dsimp only at hr2;simp(disch:=omega) only[go_sem,↓reduceIte];intro r3 hr3;dsimp only at hr3;obtain⟨m1,m2,hr3'⟩:=Dj1.1 hr3;simp(disch:=omega) only[go_sem,↓reduceIte,m1,m2,dXs,hl3,hk,Int.toNat_natCast];have hs:=fun y z=>((Sub.refl H).new hr2 (some (.cells [.int .u8 0, .nilSlice] 54))).new hr3 y |>.up hr2 z;rw[dC,Qj];exact Pm.sub (hs _ _) (.refl ⟨rfl,rfl⟩)
theorem Jz (G:Nat->DVal) (H:Ab) (s:List UInt8) (hs:s.length<=1000000000):Ah Tryz.prog G 15 [.str s] H (Bp (Bv (Bg s).1) H):=by
 refine Ac Tryz.func15 Tryz.call15 rfl (by kernel_rfl) ?_;simp(disch:=omega) only[go_sem,↓reduceIte];refine(Au9 G H s hs).mono ?_;rintro _ K1 ⟨rfl,rfl⟩;simp(disch:=omega) only[go_sem,↓reduceIte];exact Pm.refl ⟨rfl,rfl⟩
theorem Bf1 (hG:GX G) (H:Ab) (s:List UInt8) (lv n:Int) (want:Ex) (hs:s.length<=800000) (hT:Tc (Bg s).1) (hl:(Bg s).1.length<=800000) (hF: ∀y,(Du (Bg s).1 lv).1=y->Cp y<=1099511627776):
  Ah Tryz.prog G 116 [.str s,dI lv,dI n, .agg (dEx want)] H (Bp (.bool (Mg s lv n want)) H):=by
 unfold Mg;refine Ac Tryz.func116 Tryz.call116 rfl (by kernel_rfl) ?_;simp(disch:=omega) only[go_sem,↓reduceIte,DVal.cells];intro r7 hr7;dsimp only at hr7;have hs7:=(Sub.refl H).new hr7 (some (.cells (dEx want) 36));simp(disch:=omega) only[go_sem,↓reduceIte];refine(Jz G _ s (by omega)).mono ?_;rintro _ K1 ⟨rfl,rfl⟩;simp(disch:=omega) only[go_sem,↓reduceIte];refine(Jx hG _ lv hl hT).mono ?_;rintro _ K2 ⟨rfl,rfl⟩;obtain⟨p,hp⟩: ∃p,p=Du (Bg s).1 lv:=⟨_,rfl⟩;have hFp:=hF p.1 (by rw[hp]);rw[<-hp];simp(disch:=omega) only[go_sem,↓reduceIte,Td,dE];intro r9 hr9;dsimp only at hr9;have n79:r7≠r9:=Af hr9 (Aa _ _ _);have m79:=n79.symm;have hlx:=Aj p.1;have hox:=Ba p.1;have hs9:=hs7.new hr9 (some (.cells (dEx p.1) 36));have h0:(dI p.2.2)= .int .i64 p.2.2:=rfl;simp(disch:=omega) only[go_sem,↓reduceIte,hlx,hox];by_cases c1:p.2.2=0
 ·by_cases c2:p.2.1=n
  ·simp(disch:=omega) only[go_sem,↓reduceIte,c1,c2,n79,m79];refine(Li G _ p.1 want hFp).mono ?_;rintro _ K3 ⟨rfl,rfl⟩;simp(disch:=omega) only[go_sem,↓reduceIte];exact Pm.sub hs9 (.refl ⟨by simp,rfl⟩)
  ·simp(disch:=omega) only[go_sem,↓reduceIte,c1,c2,n79,m79];exact Pm.sub hs9 (.refl ⟨by simp,rfl⟩)
 ·simp(disch:=omega) only[go_sem,↓reduceIte,c1,n79,m79];exact Pm.sub hs9 (.refl ⟨by simp,rfl⟩)
theorem Bf2 (hG:GX G) (H:Ab) (s:List UInt8) (lv n:Int) (hs:s.length<=800000) (hT:Tc (Bg s).1) (hl:(Bg s).1.length<=800000) (hF: ∀y,(Du (Bg s).1 lv).1=y->Cp y<=1099511627776):
  Ah Tryz.prog G 117 [.str s,dI lv,dI n] H (Bp (.bool (Xm s lv n)) H):=by
 unfold Xm;refine Ac Tryz.func117 Tryz.call117 rfl (by kernel_rfl) ?_;simp(disch:=omega) only[go_sem,↓reduceIte];refine(Jz G _ s (by omega)).mono ?_;rintro _ K1 ⟨rfl,rfl⟩;simp(disch:=omega) only[go_sem,↓reduceIte];refine(Jx hG _ lv hl hT).mono ?_;rintro _ K2 ⟨rfl,rfl⟩;obtain⟨p,hp⟩: ∃p,p=Du (Bg s).1 lv:=⟨_,rfl⟩;have hFp:=hF p.1 (by rw[hp]);rw[<-hp];simp(disch:=omega) only[go_sem,↓reduceIte,Td,dE];intro r9 hr9;dsimp only at hr9;have hlx:=Aj p.1;have hox:=Ba p.1;have hs9:=(Sub.refl K2).new hr9 (some (.cells (dEx p.1) 36));simp(disch:=omega) only[go_sem,↓reduceIte,hlx,hox];refine(Dp.lent (args':= [.agg (dEx p.1), .agg (dEx ex0)]) (H:=K2) (.cons (Fv.keep hs9 _) (.cons (Fv.ex0 hs9) .nil)) (Li G h0 p.1 ex0 hFp) rfl).mono ?_;rintro _ K3 ⟨rfl,rfl⟩;by_cases c0:Jl p.1 ex0=true
 ·by_cases c1:p.2.1=n
  ·simp(disch:=omega) only[go_sem,↓reduceIte,c0,c1];exact Pm.sub hs9 (.refl ⟨by simp,rfl⟩)
  ·simp(disch:=omega) only[go_sem,↓reduceIte,c0,c1];exact Pm.sub hs9 (.refl ⟨by simp,rfl⟩)
 ·rw[Bool.not_eq_true] at c0;simp(disch:=omega) only[go_sem,↓reduceIte,c0];exact Pm.sub hs9 (.refl ⟨by simp,rfl⟩)
end
end Go.Dl

-- Chapter 3: awake: the examples.
namespace Go.Dl
open Go Go.Proofs
set_option maxRecDepth 100000
theorem Ci3 {l:List Tok} (h:(l.all fun t=>decide (t.text.length<=9223372036854775807))=true):Tc l:=fun k=>by
 rw[tk,List.getD];cases hk:l[k]? with
 | none=>decide
 | some t=>simpa using List.all_eq_true.1 h t (List.mem_of_getElem? hk)
def okB (s:List UInt8) (lv:Int):Bool:=decide (s.length<=800000)&&((Bg s).1.all fun t=>decide (t.text.length<=9223372036854775807))&&decide ((Bg s).1.length<=800000)&&decide (Cp (Du (Bg s).1 lv).1<=1099511627776)
theorem Cx2 {s:List UInt8} {lv:Int} (h:okB s lv=true):s.length<=800000/\Tc (Bg s).1/\(Bg s).1.length<=800000/\ ∀y,(Du (Bg s).1 lv).1=y->Cp y<=1099511627776:=by
 simp only[okB,Bool.and_eq_true,decide_eq_true_eq] at h;exact⟨h.1.1.1,Ci3 h.1.1.2,h.1.2,fun y e=>by rw[<-e];exact h.2⟩
section
variable {G:Nat->DVal}
theorem He (hG:GX G) (H:Ab) (s:List UInt8) (lv n:Int) (want:Ex) (h:(okB s lv&&Mg s lv n want)=true):Ah Tryz.prog G 116 [.str s,dI lv,dI n, .agg (dEx want)] H (Bp (.bool true) H):=by
 rw[Bool.and_eq_true] at h;obtain⟨h1,h2,h3,h4⟩:=Cx2 h.1;have:=Bf1 hG H s lv n want h1 h2 h3 h4;rw[h.2] at this;exact this
theorem Tk (hG:GX G) (H:Ab) (s:List UInt8) (lv n:Int) (h:(okB s lv&&Xm s lv n)=true):Ah Tryz.prog G 117 [.str s,dI lv,dI n] H (Bp (.bool true) H):=by
 rw[Bool.and_eq_true] at h;obtain⟨h1,h2,h3,h4⟩:=Cx2 h.1;have:=Bf2 hG H s lv n h1 h2 h3 h4;rw[h.2] at this;exact this
def eA:Ex:=nmE [65]
def eB:Ex:=nmE [66]
def eC:Ex:=nmE [67]
def Ry:List As:= [.mk [] (nmE [88]), .mk [.mk 1 [nmE [78]]] (Bt 1)]
def Yr:Ex:= .mk 7 0 0 [] [nmE [70]] Ry 0 0 0
def Bq3:Ex:= .mk 6 0 0 [70,105,114,115,116] [.mk 5 0 0 [] [Yr] [] 0 0 0] [] 0 0 0
def Qu:Ex:= .mk 9 0 0 [] [] [.mk [.mk 2 [Bt 1,Bt 2], .mk 1 [Bt 4]] (Bt 0), .mk [.mk 3 []] (Bt 1)] 0 0 0
def Bq4:Ex:= .mk 14 0 0 [] [nmE [88],Bt 1,Bt 3] [] 0 0 0
def Cx3:Ex:= .mk 8 0 0 [] [nmE [84],eA] [] 0 0 0
def Gs:Ex:=Nv 1 eA (Tj 19 eB)
theorem ex1:(okB [65,32,43,32,66,32,42,32,67] 0&&Mg [65,32,43,32,66,32,42,32,67] 0 5 (Nv 1 eA (Nv 3 eB eC)))=true:=by decide+kernel
theorem ex2:(okB [45,32,65,32,43,32,66] 2&&Mg [45,32,65,32,43,32,66] 2 4 (Nv 1 (Tj 19 eA) eB))=true:=by decide+kernel
theorem ex3:(okB [70,32,40,88,44,32,78,32,61,62,32,49,41,46,97,108,108,39,70,105,114,115,116] 6&&Mg [70,32,40,88,44,32,78,32,61,62,32,49,41,46,97,108,108,39,70,105,114,115,116] 6 12 Bq3)=true:=by decide+kernel
theorem ex4:(okB [88,32,110,111,116,32,105,110,32,49,32,46,46,32,51] 0&&Mg [88,32,110,111,116,32,105,110,32,49,32,46,46,32,51] 0 6 Bq4)=true:=by decide+kernel
theorem ex5:(okB [40,49,32,46,46,32,50,32,124,32,52,32,61,62,32,48,44,32,111,116,104,101,114,115,32,61,62,32,49,41] 5&&Mg [40,49,32,46,46,32,50,32,124,32,52,32,61,62,32,48,44,32,111,116,104,101,114,115,32,61,62,32,49,41] 5 13 Qu)=true:=by decide+kernel
theorem ex6:(okB [40,65,41,59] 5&&Mg [40,65,41,59] 5 3 eA)=true:=by decide+kernel
theorem ex7:(okB [84,39,40,65,41] 6&&Mg [84,39,40,65,41] 6 5 Cx3)=true:=by decide+kernel
theorem ex8:(okB [65,32,97,110,100,32,66,32,111,114,32,67] 0&&Mg [65,32,97,110,100,32,66,32,111,114,32,67] 0 3 (Nv 13 eA eB))=true:=by decide+kernel
theorem ex9:(okB [65,32,43] 0&&Xm [65,32,43] 0 2)=true:=by decide+kernel
theorem Dw6:(okB [40,65,59] 0&&Xm [40,65,59] 0 2)=true:=by decide+kernel
theorem Dw7:(okB [41] 0&&Xm [41] 0 0)=true:=by decide+kernel
end
end Go.Dl

-- Chapter 3: awake (printed by gen_v8.py).
namespace Go.Dl
open Go Go.Proofs
set_option maxRecDepth 100000
theorem Cj (u:List DVal):Cm 1 u=u:=by simp [Cm]
theorem Dq (u:List DVal):Cm 2 u=u++u:=by simp [Cm]
theorem Dr (u:List DVal):Cm 3 u=u++(u++u):=by simp [Cm]
theorem Nb (c:List Ch) (e:Ex):dAs (.mk c e)= .vslice (c.flatMap dCh) c.length::dEx e:=Su _
theorem Bf (k:Int) (l:List Ex):dCh (.mk k l)= [.int .u8 k, .vslice (l.flatMap dEx) l.length]:=Qj _
section
variable {G:Nat->DVal}
set_option maxHeartbeats 16000000 in
theorem Mh (hG:GX G) (H:Ab):Ah Tryz.prog G 21 [] H (Bp (.bool true) H):=by
 have hdA:dE (nmE [65])= .agg (dEx eA):=rfl;have hdB:dE (nmE [66])= .agg (dEx eB):=rfl;have hdC:dE (nmE [67])= .agg (dEx eC):=rfl;have lA:=Aj eA;have oA:=Ba eA;have lB:=Aj eB;have oB:=Ba eB;have lC:=Aj eC;have oC:=Ba eC;refine Ac Tryz.func21 Tryz.call21 rfl (by kernel_rfl) ?_;simp(disch:=omega) only[go_sem,↓reduceIte];refine(Ep G H [65]).mono ?_;rintro _ K1 ⟨rfl,rfl⟩;simp(disch:=omega) only[go_sem,↓reduceIte];refine(Ep G K1 [66]).mono ?_;rintro _ K2 ⟨rfl,rfl⟩;simp(disch:=omega) only[go_sem,↓reduceIte];refine(Ep G K2 [67]).mono ?_;rintro _ K3 ⟨rfl,rfl⟩;simp(disch:=omega) only[go_sem,↓reduceIte,hdA,hdB,hdC];intro b1 hb1;dsimp only at hb1;obtain⟨K4,hK4⟩: ∃K',K'=upd K3 b1 (some (.cells [.int .u8 0, .int .u8 0, .int .i64 0, .str [], .nilSlice, .nilSlice, .int .i64 0, .int .i64 0, .int .i64 0] 36)):=⟨_,rfl⟩;rw[<-hK4];have gb1:K4 b1=some (.cells [.int .u8 0, .int .u8 0, .int .i64 0, .str [], .nilSlice, .nilSlice, .int .i64 0, .int .i64 0, .int .i64 0] 36):=by rw[hK4];exact Aa _ _ _
 have sK4:Sub K3 K4:=by rw[hK4];exact(Sub.refl _).new hb1 _
 simp(disch:=omega) only[go_sem,↓reduceIte,hdA,hdB,hdC];intro b2 hb2;dsimp only at hb2;obtain⟨K5,hK5⟩: ∃K',K'=upd K4 b2 (some (.cells [.int .u8 0, .int .u8 0, .int .i64 0, .str [], .nilSlice, .nilSlice, .int .i64 0, .int .i64 0, .int .i64 0] 36)):=⟨_,rfl⟩;rw[<-hK5];have gb2:K5 b2=some (.cells [.int .u8 0, .int .u8 0, .int .i64 0, .str [], .nilSlice, .nilSlice, .int .i64 0, .int .i64 0, .int .i64 0] 36):=by rw[hK5];exact Aa _ _ _
 have sK5:Sub K4 K5:=by rw[hK5];exact(Sub.refl _).new hb2 _
 simp(disch:=omega) only[go_sem,↓reduceIte,hdA,hdB,hdC];intro b3 hb3;dsimp only at hb3;obtain⟨K6,hK6⟩: ∃K',K'=upd K5 b3 (some (.cells [.int .u8 0, .int .u8 0, .int .i64 0, .str [], .nilSlice, .nilSlice, .int .i64 0, .int .i64 0, .int .i64 0] 36)):=⟨_,rfl⟩;rw[<-hK6];have gb3:K6 b3=some (.cells [.int .u8 0, .int .u8 0, .int .i64 0, .str [], .nilSlice, .nilSlice, .int .i64 0, .int .i64 0, .int .i64 0] 36):=by rw[hK6];exact Aa _ _ _
 have sK6:Sub K5 K6:=by rw[hK6];exact(Sub.refl _).new hb3 _
 have n12:b1≠b2:=Af hb2 gb1;have n13:b1≠b3:=Af hb3 (sK5 _ _ gb1);have n23:b2≠b3:=Af hb3 gb2;have a61:K6 b1=some (.cells [.int .u8 0, .int .u8 0, .int .i64 0, .str [], .nilSlice, .nilSlice, .int .i64 0, .int .i64 0, .int .i64 0] 36):=sK6 _ _ (sK5 _ _ gb1);have a62:K6 b2=some (.cells [.int .u8 0, .int .u8 0, .int .i64 0, .str [], .nilSlice, .nilSlice, .int .i64 0, .int .i64 0, .int .i64 0] 36):=sK6 _ _ gb2;have z2:K3 b2=none:=sK4.lo hb2;have z3:K3 b3=none:=(sK4.trans sK5).lo hb3;simp(disch:=omega) only[go_sem,↓reduceIte,hdA,hdB,hdC,lA,oA,lB,oB,lC,oC,a61,a62,gb3,n12,n13,n23,n12.symm,n13.symm,n23.symm];obtain⟨K7,hK7⟩: ∃K',K'=upd (upd (upd K6 b1 (some (.cells (dEx eA) 36))) b2 (some (.cells (dEx eB) 36))) b3 (some (.cells (dEx eC) 36)):=⟨_,rfl⟩;rw[<-hK7];have g1:K7 b1=some (.cells (dEx eA) 36):=by rw[hK7];exact Ai (Ai (Aa _ _ _) n12) n13
 have g2:K7 b2=some (.cells (dEx eB) 36):=by rw[hK7];exact Ai (Aa _ _ _) n23
 have g3:K7 b3=some (.cells (dEx eC) 36):=by rw[hK7];exact Aa _ _ _
 have t7:Sub K3 K7:=by rw[hK7];exact(((((sK4.trans sK5).trans sK6).up hb1 _).up z2 _).up z3 _)
 clear hK7 a61 a62 sK6 sK5 sK4 gb1 gb2 gb3;refine Ah.monoR (Ep G _ [70]) ?_;try simp(disch:=omega) only[go_sem,↓reduceIte,dE,nmE,Bt,Bl,List.flatMap_nil,List.length_nil,Cj,Dq,Dr,List.length_cons,List.length_append,List.drop_succ_cons,List.drop_zero,List.drop_nil,List.take_succ_cons,List.take_zero,List.cons_append,List.nil_append,List.append_nil,dC,Bf]
 intro r16 hr16;dsimp only at hr16;try simp(disch:=omega) only[go_sem,↓reduceIte,dE,nmE,Bt,Bl,List.flatMap_nil,List.length_nil,Cj,Dq,Dr,List.length_cons,List.length_append,List.drop_succ_cons,List.drop_zero,List.drop_nil,List.take_succ_cons,List.take_zero,List.cons_append,List.nil_append,List.append_nil,dC,Bf]
 obtain⟨K8,hK8⟩: ∃K',K'=upd K7 r16 (some (.cells [.int .u8 3, .int .u8 0, .int .i64 0, .str [70], .vslice [] 0, .vslice [] 0, .int .i64 0, .int .i64 0, .int .i64 0] 36)):=⟨_,rfl⟩;rw[<-hK8];have y_r16:K8 r16=some (.cells [.int .u8 3, .int .u8 0, .int .i64 0, .str [70], .vslice [] 0, .vslice [] 0, .int .i64 0, .int .i64 0, .int .i64 0] 36):=by rw[hK8];exact Aa _ _ _
 have sK8:Sub K7 K8:=by rw[hK8];exact(Sub.refl _).new hr16 _
 have z_r16:K3 r16=none:=t7.lo hr16;clear hK8;have g1:=sK8 _ _ g1;have g2:=sK8 _ _ g2;have g3:=sK8 _ _ g3;have t7:=t7.trans sK8;refine Ah.monoR (Ep G _ [88]) ?_;try simp(disch:=omega) only[go_sem,↓reduceIte,dE,nmE,Bt,Bl,List.flatMap_nil,List.length_nil,Cj,Dq,Dr,List.length_cons,List.length_append,List.drop_succ_cons,List.drop_zero,List.drop_nil,List.take_succ_cons,List.take_zero,List.cons_append,List.nil_append,List.append_nil,dC,Bf]
 refine Ah.monoR (Ep G _ [78]) ?_;try simp(disch:=omega) only[go_sem,↓reduceIte,dE,nmE,Bt,Bl,List.flatMap_nil,List.length_nil,Cj,Dq,Dr,List.length_cons,List.length_append,List.drop_succ_cons,List.drop_zero,List.drop_nil,List.take_succ_cons,List.take_zero,List.cons_append,List.nil_append,List.append_nil,dC,Bf]
 intro r20 hr20;dsimp only at hr20;try simp(disch:=omega) only[go_sem,↓reduceIte,dE,nmE,Bt,Bl,List.flatMap_nil,List.length_nil,Cj,Dq,Dr,List.length_cons,List.length_append,List.drop_succ_cons,List.drop_zero,List.drop_nil,List.take_succ_cons,List.take_zero,List.cons_append,List.nil_append,List.append_nil,dC,Bf]
 refine Ah.fzA r20 hr20 ?_;have hq:fzs r20 [.int .u8 3, .int .u8 0, .int .i64 0, .str [78], .vslice [] 0, .vslice [] 0, .int .i64 0, .int .i64 0, .int .i64 0] [.oslice 9 r20 0 1 1]= [dXs [nmE [78]]]:=by simp [fzs,fz,dXs,nmE,Bt,Bl]
 rw[hq];refine Ah.mono (R:=Bp (dC (.mk 1 [nmE [78]])) K8) (Ld G K8 [nmE [78]] (by decide)) ?_;rintro _ H' ⟨rfl,hH'⟩;have hH2:=hH'.symm;clear hH';subst hH2;clear hq;try simp(disch:=omega) only[go_sem,↓reduceIte,dE,nmE,Bt,Bl,List.flatMap_nil,List.length_nil,Cj,Dq,Dr,List.length_cons,List.length_append,List.drop_succ_cons,List.drop_zero,List.drop_nil,List.take_succ_cons,List.take_zero,List.cons_append,List.nil_append,List.append_nil,dC,Bf,List.flatMap_singleton]
 intro r22 hr22;dsimp only at hr22;try simp(disch:=omega) only[go_sem,↓reduceIte,dE,nmE,Bt,Bl,List.flatMap_nil,List.length_nil,Cj,Dq,Dr,List.length_cons,List.length_append,List.drop_succ_cons,List.drop_zero,List.drop_nil,List.take_succ_cons,List.take_zero,List.cons_append,List.nil_append,List.append_nil,dC,Bf,List.flatMap_singleton]
 obtain⟨K9,hK9⟩: ∃K',K'=upd K8 r22 (some (.cells [.int .u8 1, .vslice [.int .u8 3, .int .u8 0, .int .i64 0, .str [78], .vslice [] 0, .vslice [] 0, .int .i64 0, .int .i64 0, .int .i64 0] 1] 54)):=⟨_,rfl⟩;rw[<-hK9];have y_r22:K9 r22=some (.cells [.int .u8 1, .vslice [.int .u8 3, .int .u8 0, .int .i64 0, .str [78], .vslice [] 0, .vslice [] 0, .int .i64 0, .int .i64 0, .int .i64 0] 1] 54):=by rw[hK9];exact Aa _ _ _
 have sK9:Sub K8 K9:=by rw[hK9];exact(Sub.refl _).new hr22 _
 have z_r22:K3 r22=none:=t7.lo hr22;clear hK9;have y_r16:=sK9 _ _ y_r16;have g1:=sK9 _ _ g1;have g2:=sK9 _ _ g2;have g3:=sK9 _ _ g3;have t7:=t7.trans sK9;refine Ah.monoR (Gc G _ 1) ?_;try simp(disch:=omega) only[go_sem,↓reduceIte,dE,nmE,Bt,Bl,List.flatMap_nil,List.length_nil,Cj,Dq,Dr,List.length_cons,List.length_append,List.drop_succ_cons,List.drop_zero,List.drop_nil,List.take_succ_cons,List.take_zero,List.cons_append,List.nil_append,List.append_nil,dC,Bf]
 intro r25 hr25;dsimp only at hr25;try simp(disch:=omega) only[go_sem,↓reduceIte,dE,nmE,Bt,Bl,List.flatMap_nil,List.length_nil,Cj,Dq,Dr,List.length_cons,List.length_append,List.drop_succ_cons,List.drop_zero,List.drop_nil,List.take_succ_cons,List.take_zero,List.cons_append,List.nil_append,List.append_nil,dC,Bf]
 obtain⟨K10,hK10⟩: ∃K',K'=upd K9 r25 (some (.cells [.nilSlice, .int .u8 3, .int .u8 0, .int .i64 0, .str [88], .vslice [] 0, .vslice [] 0, .int .i64 0, .int .i64 0, .int .i64 0, .oslice 2 r22 0 1 1, .int .u8 1, .int .u8 0, .int .i64 1, .str [], .vslice [] 0, .vslice [] 0, .int .i64 0, .int .i64 0, .int .i64 0] 51)):=⟨_,rfl⟩;rw[<-hK10];have y_r25:K10 r25=some (.cells [.nilSlice, .int .u8 3, .int .u8 0, .int .i64 0, .str [88], .vslice [] 0, .vslice [] 0, .int .i64 0, .int .i64 0, .int .i64 0, .oslice 2 r22 0 1 1, .int .u8 1, .int .u8 0, .int .i64 1, .str [], .vslice [] 0, .vslice [] 0, .int .i64 0, .int .i64 0, .int .i64 0] 51):=by rw[hK10];exact Aa _ _ _
 have sK10:Sub K9 K10:=by rw[hK10];exact(Sub.refl _).new hr25 _
 have z_r25:K3 r25=none:=t7.lo hr25;clear hK10;have y_r16:=sK10 _ _ y_r16;have y_r22:=sK10 _ _ y_r22;have g1:=sK10 _ _ g1;have g2:=sK10 _ _ g2;have g3:=sK10 _ _ g3;have t7:=t7.trans sK10;intro b4 hb4;dsimp only at hb4;try simp(disch:=omega) only[go_sem,↓reduceIte,dE,nmE,Bt,Bl,List.flatMap_nil,List.length_nil,Cj,Dq,Dr,List.length_cons,List.length_append,List.drop_succ_cons,List.drop_zero,List.drop_nil,List.take_succ_cons,List.take_zero,List.cons_append,List.nil_append,List.append_nil,dC,Bf]
 obtain⟨K11,hK11⟩: ∃K',K'=upd K10 b4 (some (.cells [.int .u8 7, .int .u8 0, .int .i64 0, .str [], .oslice 9 r16 0 1 1, .oslice 10 r25 0 2 2, .int .i64 0, .int .i64 0, .int .i64 0] 36)):=⟨_,rfl⟩;rw[<-hK11];have y_b4:K11 b4=some (.cells [.int .u8 7, .int .u8 0, .int .i64 0, .str [], .oslice 9 r16 0 1 1, .oslice 10 r25 0 2 2, .int .i64 0, .int .i64 0, .int .i64 0] 36):=by rw[hK11];exact Aa _ _ _
 have sK11:Sub K10 K11:=by rw[hK11];exact(Sub.refl _).new hb4 _
 have z_b4:K3 b4=none:=t7.lo hb4;clear hK11;have y_r16:=sK11 _ _ y_r16;have y_r22:=sK11 _ _ y_r22;have y_r25:=sK11 _ _ y_r25;have g1:=sK11 _ _ g1;have g2:=sK11 _ _ g2;have g3:=sK11 _ _ g3;have t7:=t7.trans sK11;try simp(disch:=omega) only[go_sem,↓reduceIte,dE,nmE,Bt,Bl,List.flatMap_nil,List.length_nil,Cj,Dq,Dr,List.length_cons,List.length_append,List.drop_succ_cons,List.drop_zero,List.drop_nil,List.take_succ_cons,List.take_zero,List.cons_append,List.nil_append,List.append_nil,dC,Bf,y_b4]
 intro r28 hr28;dsimp only at hr28;try simp(disch:=omega) only[go_sem,↓reduceIte,dE,nmE,Bt,Bl,List.flatMap_nil,List.length_nil,Cj,Dq,Dr,List.length_cons,List.length_append,List.drop_succ_cons,List.drop_zero,List.drop_nil,List.take_succ_cons,List.take_zero,List.cons_append,List.nil_append,List.append_nil,dC,Bf,y_b4]
 obtain⟨K12,hK12⟩: ∃K',K'=upd K11 r28 (some (.cells [.int .u8 7, .int .u8 0, .int .i64 0, .str [], .oslice 9 r16 0 1 1, .oslice 10 r25 0 2 2, .int .i64 0, .int .i64 0, .int .i64 0] 36)):=⟨_,rfl⟩;rw[<-hK12];have y_r28:K12 r28=some (.cells [.int .u8 7, .int .u8 0, .int .i64 0, .str [], .oslice 9 r16 0 1 1, .oslice 10 r25 0 2 2, .int .i64 0, .int .i64 0, .int .i64 0] 36):=by rw[hK12];exact Aa _ _ _
 have sK12:Sub K11 K12:=by rw[hK12];exact(Sub.refl _).new hr28 _
 have z_r28:K3 r28=none:=t7.lo hr28;clear hK12;have y_r16:=sK12 _ _ y_r16;have y_r22:=sK12 _ _ y_r22;have y_r25:=sK12 _ _ y_r25;have y_b4:=sK12 _ _ y_b4;have g1:=sK12 _ _ g1;have g2:=sK12 _ _ g2;have g3:=sK12 _ _ g3;have t7:=t7.trans sK12;intro r30 hr30;dsimp only at hr30;try simp(disch:=omega) only[go_sem,↓reduceIte,dE,nmE,Bt,Bl,List.flatMap_nil,List.length_nil,Cj,Dq,Dr,List.length_cons,List.length_append,List.drop_succ_cons,List.drop_zero,List.drop_nil,List.take_succ_cons,List.take_zero,List.cons_append,List.nil_append,List.append_nil,dC,Bf]
 obtain⟨K13,hK13⟩: ∃K',K'=upd K12 r30 (some (.cells [.int .u8 5, .int .u8 0, .int .i64 0, .str [], .oslice 9 r28 0 1 1, .nilSlice, .int .i64 0, .int .i64 0, .int .i64 0] 36)):=⟨_,rfl⟩;rw[<-hK13];have y_r30:K13 r30=some (.cells [.int .u8 5, .int .u8 0, .int .i64 0, .str [], .oslice 9 r28 0 1 1, .nilSlice, .int .i64 0, .int .i64 0, .int .i64 0] 36):=by rw[hK13];exact Aa _ _ _
 have sK13:Sub K12 K13:=by rw[hK13];exact(Sub.refl _).new hr30 _
 have z_r30:K3 r30=none:=t7.lo hr30;clear hK13;have y_r16:=sK13 _ _ y_r16;have y_r22:=sK13 _ _ y_r22;have y_r25:=sK13 _ _ y_r25;have y_b4:=sK13 _ _ y_b4;have y_r28:=sK13 _ _ y_r28;have g1:=sK13 _ _ g1;have g2:=sK13 _ _ g2;have g3:=sK13 _ _ g3;have t7:=t7.trans sK13;intro b5 hb5;dsimp only at hb5;try simp(disch:=omega) only[go_sem,↓reduceIte,dE,nmE,Bt,Bl,List.flatMap_nil,List.length_nil,Cj,Dq,Dr,List.length_cons,List.length_append,List.drop_succ_cons,List.drop_zero,List.drop_nil,List.take_succ_cons,List.take_zero,List.cons_append,List.nil_append,List.append_nil,dC,Bf]
 obtain⟨K14,hK14⟩: ∃K',K'=upd K13 b5 (some (.cells [.int .u8 6, .int .u8 0, .int .i64 0, .str [70,105,114,115,116], .oslice 9 r30 0 1 1, .nilSlice, .int .i64 0, .int .i64 0, .int .i64 0] 36)):=⟨_,rfl⟩;rw[<-hK14];have y_b5:K14 b5=some (.cells [.int .u8 6, .int .u8 0, .int .i64 0, .str [70,105,114,115,116], .oslice 9 r30 0 1 1, .nilSlice, .int .i64 0, .int .i64 0, .int .i64 0] 36):=by rw[hK14];exact Aa _ _ _
 have sK14:Sub K13 K14:=by rw[hK14];exact(Sub.refl _).new hb5 _
 have z_b5:K3 b5=none:=t7.lo hb5;clear hK14;have y_r16:=sK14 _ _ y_r16;have y_r22:=sK14 _ _ y_r22;have y_r25:=sK14 _ _ y_r25;have y_b4:=sK14 _ _ y_b4;have y_r28:=sK14 _ _ y_r28;have y_r30:=sK14 _ _ y_r30;have g1:=sK14 _ _ g1;have g2:=sK14 _ _ g2;have g3:=sK14 _ _ g3;have t7:=t7.trans sK14;refine Ah.monoR (Gc G _ 1) ?_;try simp(disch:=omega) only[go_sem,↓reduceIte,dE,nmE,Bt,Bl,List.flatMap_nil,List.length_nil,Cj,Dq,Dr,List.length_cons,List.length_append,List.drop_succ_cons,List.drop_zero,List.drop_nil,List.take_succ_cons,List.take_zero,List.cons_append,List.nil_append,List.append_nil,dC,Bf]
 refine Ah.monoR (Gc G _ 2) ?_;try simp(disch:=omega) only[go_sem,↓reduceIte,dE,nmE,Bt,Bl,List.flatMap_nil,List.length_nil,Cj,Dq,Dr,List.length_cons,List.length_append,List.drop_succ_cons,List.drop_zero,List.drop_nil,List.take_succ_cons,List.take_zero,List.cons_append,List.nil_append,List.append_nil,dC,Bf]
 intro r34 hr34;dsimp only at hr34;try simp(disch:=omega) only[go_sem,↓reduceIte,dE,nmE,Bt,Bl,List.flatMap_nil,List.length_nil,Cj,Dq,Dr,List.length_cons,List.length_append,List.drop_succ_cons,List.drop_zero,List.drop_nil,List.take_succ_cons,List.take_zero,List.cons_append,List.nil_append,List.append_nil,dC,Bf]
 refine Ah.fzA r34 hr34 ?_;have hq:fzs r34 [.int .u8 1, .int .u8 0, .int .i64 1, .str [], .vslice [] 0, .vslice [] 0, .int .i64 0, .int .i64 0, .int .i64 0, .int .u8 1, .int .u8 0, .int .i64 2, .str [], .vslice [] 0, .vslice [] 0, .int .i64 0, .int .i64 0, .int .i64 0] [.oslice 9 r34 0 2 2]= [dXs [Bt 1,Bt 2]]:=by simp [fzs,fz,dXs,nmE,Bt,Bl]
 rw[hq];refine Ah.mono (R:=Bp (dC (.mk 2 [Bt 1,Bt 2])) K14) (Ld G K14 [Bt 1,Bt 2] (by decide)) ?_;rintro _ H' ⟨rfl,hH'⟩;have hH2:=hH'.symm;clear hH';subst hH2;clear hq;try simp(disch:=omega) only[go_sem,↓reduceIte,dE,nmE,Bt,Bl,List.flatMap_nil,List.length_nil,Cj,Dq,Dr,List.length_cons,List.length_append,List.drop_succ_cons,List.drop_zero,List.drop_nil,List.take_succ_cons,List.take_zero,List.cons_append,List.nil_append,List.append_nil,dC,Bf,List.flatMap_cons]
 refine Ah.monoR (Gc G _ 4) ?_;try simp(disch:=omega) only[go_sem,↓reduceIte,dE,nmE,Bt,Bl,List.flatMap_nil,List.length_nil,Cj,Dq,Dr,List.length_cons,List.length_append,List.drop_succ_cons,List.drop_zero,List.drop_nil,List.take_succ_cons,List.take_zero,List.cons_append,List.nil_append,List.append_nil,dC,Bf]
 intro r37 hr37;dsimp only at hr37;try simp(disch:=omega) only[go_sem,↓reduceIte,dE,nmE,Bt,Bl,List.flatMap_nil,List.length_nil,Cj,Dq,Dr,List.length_cons,List.length_append,List.drop_succ_cons,List.drop_zero,List.drop_nil,List.take_succ_cons,List.take_zero,List.cons_append,List.nil_append,List.append_nil,dC,Bf]
 refine Ah.fzA r37 hr37 ?_;have hq:fzs r37 [.int .u8 1, .int .u8 0, .int .i64 4, .str [], .vslice [] 0, .vslice [] 0, .int .i64 0, .int .i64 0, .int .i64 0] [.oslice 9 r37 0 1 1]= [dXs [Bt 4]]:=by simp [fzs,fz,dXs,nmE,Bt,Bl]
 rw[hq];refine Ah.mono (R:=Bp (dC (.mk 1 [Bt 4])) K14) (Ld G K14 [Bt 4] (by decide)) ?_;rintro _ H' ⟨rfl,hH'⟩;have hH2:=hH'.symm;clear hH';subst hH2;clear hq;try simp(disch:=omega) only[go_sem,↓reduceIte,dE,nmE,Bt,Bl,List.flatMap_nil,List.length_nil,Cj,Dq,Dr,List.length_cons,List.length_append,List.drop_succ_cons,List.drop_zero,List.drop_nil,List.take_succ_cons,List.take_zero,List.cons_append,List.nil_append,List.append_nil,dC,Bf,List.flatMap_cons]
 intro r39 hr39;dsimp only at hr39;try simp(disch:=omega) only[go_sem,↓reduceIte,dE,nmE,Bt,Bl,List.flatMap_nil,List.length_nil,Cj,Dq,Dr,List.length_cons,List.length_append,List.drop_succ_cons,List.drop_zero,List.drop_nil,List.take_succ_cons,List.take_zero,List.cons_append,List.nil_append,List.append_nil,dC,Bf,List.flatMap_cons]
 obtain⟨K15,hK15⟩: ∃K',K'=upd K14 r39 (some (.cells [.int .u8 2, .vslice [.int .u8 1, .int .u8 0, .int .i64 1, .str [], .vslice [] 0, .vslice [] 0, .int .i64 0, .int .i64 0, .int .i64 0, .int .u8 1, .int .u8 0, .int .i64 2, .str [], .vslice [] 0, .vslice [] 0, .int .i64 0, .int .i64 0, .int .i64 0] 2, .int .u8 1, .vslice [.int .u8 1, .int .u8 0, .int .i64 4, .str [], .vslice [] 0, .vslice [] 0, .int .i64 0, .int .i64 0, .int .i64 0] 1] 54)):=⟨_,rfl⟩;rw[<-hK15];have y_r39:K15 r39=some (.cells [.int .u8 2, .vslice [.int .u8 1, .int .u8 0, .int .i64 1, .str [], .vslice [] 0, .vslice [] 0, .int .i64 0, .int .i64 0, .int .i64 0, .int .u8 1, .int .u8 0, .int .i64 2, .str [], .vslice [] 0, .vslice [] 0, .int .i64 0, .int .i64 0, .int .i64 0] 2, .int .u8 1, .vslice [.int .u8 1, .int .u8 0, .int .i64 4, .str [], .vslice [] 0, .vslice [] 0, .int .i64 0, .int .i64 0, .int .i64 0] 1] 54):=by rw[hK15];exact Aa _ _ _
 have sK15:Sub K14 K15:=by rw[hK15];exact(Sub.refl _).new hr39 _
 have z_r39:K3 r39=none:=t7.lo hr39;clear hK15;have y_r16:=sK15 _ _ y_r16;have y_r22:=sK15 _ _ y_r22;have y_r25:=sK15 _ _ y_r25;have y_b4:=sK15 _ _ y_b4;have y_r28:=sK15 _ _ y_r28;have y_r30:=sK15 _ _ y_r30;have y_b5:=sK15 _ _ y_b5;have g1:=sK15 _ _ g1;have g2:=sK15 _ _ g2;have g3:=sK15 _ _ g3;have t7:=t7.trans sK15;refine Ah.monoR (Gc G _ 0) ?_;try simp(disch:=omega) only[go_sem,↓reduceIte,dE,nmE,Bt,Bl,List.flatMap_nil,List.length_nil,Cj,Dq,Dr,List.length_cons,List.length_append,List.drop_succ_cons,List.drop_zero,List.drop_nil,List.take_succ_cons,List.take_zero,List.cons_append,List.nil_append,List.append_nil,dC,Bf]
 refine Ah.leArgs (args':= [dXs []]) (Bl6.cons .nil .nil) ?_;refine Ah.mono (R:=Bp (dC (.mk 3 [])) K15) (Ld G K15 [] (by decide)) ?_;rintro _ H' ⟨rfl,hH'⟩;have hH2:=hH'.symm;clear hH';subst hH2;try simp(disch:=omega) only[go_sem,↓reduceIte,dE,nmE,Bt,Bl,List.flatMap_nil,List.length_nil,Cj,Dq,Dr,List.length_cons,List.length_append,List.drop_succ_cons,List.drop_zero,List.drop_nil,List.take_succ_cons,List.take_zero,List.cons_append,List.nil_append,List.append_nil,dC,Bf]
 intro r43 hr43;dsimp only at hr43;try simp(disch:=omega) only[go_sem,↓reduceIte,dE,nmE,Bt,Bl,List.flatMap_nil,List.length_nil,Cj,Dq,Dr,List.length_cons,List.length_append,List.drop_succ_cons,List.drop_zero,List.drop_nil,List.take_succ_cons,List.take_zero,List.cons_append,List.nil_append,List.append_nil,dC,Bf]
 obtain⟨K16,hK16⟩: ∃K',K'=upd K15 r43 (some (.cells [.int .u8 3, .vslice [] 0] 54)):=⟨_,rfl⟩;rw[<-hK16];have y_r43:K16 r43=some (.cells [.int .u8 3, .vslice [] 0] 54):=by rw[hK16];exact Aa _ _ _
 have sK16:Sub K15 K16:=by rw[hK16];exact(Sub.refl _).new hr43 _
 have z_r43:K3 r43=none:=t7.lo hr43;clear hK16;have y_r16:=sK16 _ _ y_r16;have y_r22:=sK16 _ _ y_r22;have y_r25:=sK16 _ _ y_r25;have y_b4:=sK16 _ _ y_b4;have y_r28:=sK16 _ _ y_r28;have y_r30:=sK16 _ _ y_r30;have y_b5:=sK16 _ _ y_b5;have y_r39:=sK16 _ _ y_r39;have g1:=sK16 _ _ g1;have g2:=sK16 _ _ g2;have g3:=sK16 _ _ g3;have t7:=t7.trans sK16;refine Ah.monoR (Gc G _ 1) ?_;try simp(disch:=omega) only[go_sem,↓reduceIte,dE,nmE,Bt,Bl,List.flatMap_nil,List.length_nil,Cj,Dq,Dr,List.length_cons,List.length_append,List.drop_succ_cons,List.drop_zero,List.drop_nil,List.take_succ_cons,List.take_zero,List.cons_append,List.nil_append,List.append_nil,dC,Bf]
 intro r46 hr46;dsimp only at hr46;try simp(disch:=omega) only[go_sem,↓reduceIte,dE,nmE,Bt,Bl,List.flatMap_nil,List.length_nil,Cj,Dq,Dr,List.length_cons,List.length_append,List.drop_succ_cons,List.drop_zero,List.drop_nil,List.take_succ_cons,List.take_zero,List.cons_append,List.nil_append,List.append_nil,dC,Bf]
 obtain⟨K17,hK17⟩: ∃K',K'=upd K16 r46 (some (.cells [.oslice 2 r39 0 2 2, .int .u8 1, .int .u8 0, .int .i64 0, .str [], .vslice [] 0, .vslice [] 0, .int .i64 0, .int .i64 0, .int .i64 0, .oslice 2 r43 0 1 1, .int .u8 1, .int .u8 0, .int .i64 1, .str [], .vslice [] 0, .vslice [] 0, .int .i64 0, .int .i64 0, .int .i64 0] 51)):=⟨_,rfl⟩;rw[<-hK17];have y_r46:K17 r46=some (.cells [.oslice 2 r39 0 2 2, .int .u8 1, .int .u8 0, .int .i64 0, .str [], .vslice [] 0, .vslice [] 0, .int .i64 0, .int .i64 0, .int .i64 0, .oslice 2 r43 0 1 1, .int .u8 1, .int .u8 0, .int .i64 1, .str [], .vslice [] 0, .vslice [] 0, .int .i64 0, .int .i64 0, .int .i64 0] 51):=by rw[hK17];exact Aa _ _ _
 have sK17:Sub K16 K17:=by rw[hK17];exact(Sub.refl _).new hr46 _
 have z_r46:K3 r46=none:=t7.lo hr46;clear hK17;have y_r16:=sK17 _ _ y_r16;have y_r22:=sK17 _ _ y_r22;have y_r25:=sK17 _ _ y_r25;have y_b4:=sK17 _ _ y_b4;have y_r28:=sK17 _ _ y_r28;have y_r30:=sK17 _ _ y_r30;have y_b5:=sK17 _ _ y_b5;have y_r39:=sK17 _ _ y_r39;have y_r43:=sK17 _ _ y_r43;have g1:=sK17 _ _ g1;have g2:=sK17 _ _ g2;have g3:=sK17 _ _ g3;have t7:=t7.trans sK17;intro b6 hb6;dsimp only at hb6;try simp(disch:=omega) only[go_sem,↓reduceIte,dE,nmE,Bt,Bl,List.flatMap_nil,List.length_nil,Cj,Dq,Dr,List.length_cons,List.length_append,List.drop_succ_cons,List.drop_zero,List.drop_nil,List.take_succ_cons,List.take_zero,List.cons_append,List.nil_append,List.append_nil,dC,Bf]
 obtain⟨K18,hK18⟩: ∃K',K'=upd K17 b6 (some (.cells [.int .u8 9, .int .u8 0, .int .i64 0, .str [], .nilSlice, .oslice 10 r46 0 2 2, .int .i64 0, .int .i64 0, .int .i64 0] 36)):=⟨_,rfl⟩;rw[<-hK18];have y_b6:K18 b6=some (.cells [.int .u8 9, .int .u8 0, .int .i64 0, .str [], .nilSlice, .oslice 10 r46 0 2 2, .int .i64 0, .int .i64 0, .int .i64 0] 36):=by rw[hK18];exact Aa _ _ _
 have sK18:Sub K17 K18:=by rw[hK18];exact(Sub.refl _).new hb6 _
 have z_b6:K3 b6=none:=t7.lo hb6;clear hK18;have y_r16:=sK18 _ _ y_r16;have y_r22:=sK18 _ _ y_r22;have y_r25:=sK18 _ _ y_r25;have y_b4:=sK18 _ _ y_b4;have y_r28:=sK18 _ _ y_r28;have y_r30:=sK18 _ _ y_r30;have y_b5:=sK18 _ _ y_b5;have y_r39:=sK18 _ _ y_r39;have y_r43:=sK18 _ _ y_r43;have y_r46:=sK18 _ _ y_r46;have g1:=sK18 _ _ g1;have g2:=sK18 _ _ g2;have g3:=sK18 _ _ g3;have t7:=t7.trans sK18;clear sK8 sK9 sK10 sK11 sK12 sK13 sK14 sK15 sK16 sK17 sK18;have q_r16:Dp K18 [.int .u8 3, .int .u8 0, .int .i64 0, .str [70], .vslice [] 0, .vslice [] 0, .int .i64 0, .int .i64 0, .int .i64 0] K3 ([nmE [70]].flatMap dEx):=by
  rw[show [nmE [70]].flatMap dEx=([.int .u8 3, .int .u8 0, .int .i64 0, .str [70], .vslice [] 0, .vslice [] 0, .int .i64 0, .int .i64 0, .int .i64 0]:List DVal) from by simp [nmE,Bt,Bl,Bf,Nb,Ry,Qu,Ex.a]];exact Dp.keep t7 _
 have p_r16:Fv K18 (.oslice 9 r16 0 1 1) K3 (.vslice ([nmE [70]].flatMap dEx) 1):=Fv.cells t7 z_r16 y_r16 rfl q_r16;have q_r22:Dp K18 [.int .u8 1, .vslice [.int .u8 3, .int .u8 0, .int .i64 0, .str [78], .vslice [] 0, .vslice [] 0, .int .i64 0, .int .i64 0, .int .i64 0] 1] K3 ([Ch.mk 1 [nmE [78]]].flatMap dCh):=by
  rw[show [Ch.mk 1 [nmE [78]]].flatMap dCh=([.int .u8 1, .vslice [.int .u8 3, .int .u8 0, .int .i64 0, .str [78], .vslice [] 0, .vslice [] 0, .int .i64 0, .int .i64 0, .int .i64 0] 1]:List DVal) from by simp [nmE,Bt,Bl,Bf,Nb,Ry,Qu,Ex.a]];exact Dp.keep t7 _
 have p_r22:Fv K18 (.oslice 2 r22 0 1 1) K3 (.vslice ([Ch.mk 1 [nmE [78]]].flatMap dCh) 1):=Fv.cells t7 z_r22 y_r22 rfl q_r22;have q_r25:Dp K18 [.nilSlice, .int .u8 3, .int .u8 0, .int .i64 0, .str [88], .vslice [] 0, .vslice [] 0, .int .i64 0, .int .i64 0, .int .i64 0, .oslice 2 r22 0 1 1, .int .u8 1, .int .u8 0, .int .i64 1, .str [], .vslice [] 0, .vslice [] 0, .int .i64 0, .int .i64 0, .int .i64 0] K3 (Ry.flatMap dAs):=by
  rw[show Ry.flatMap dAs=([.vslice [] 0, .int .u8 3, .int .u8 0, .int .i64 0, .str [88], .vslice [] 0, .vslice [] 0, .int .i64 0, .int .i64 0, .int .i64 0, .vslice ([Ch.mk 1 [nmE [78]]].flatMap dCh) 1, .int .u8 1, .int .u8 0, .int .i64 1, .str [], .vslice [] 0, .vslice [] 0, .int .i64 0, .int .i64 0, .int .i64 0]:List DVal) from by simp [nmE,Bt,Bl,Bf,Nb,Ry,Qu,Ex.a]];exact .cons (Fv.nil t7) (.cons (Fv.keep t7 _) (.cons (Fv.keep t7 _) (.cons (Fv.keep t7 _) (.cons (Fv.keep t7 _) (.cons (Fv.keep t7 _) (.cons (Fv.keep t7 _) (.cons (Fv.keep t7 _) (.cons (Fv.keep t7 _) (.cons (Fv.keep t7 _) (.cons p_r22 (.cons (Fv.keep t7 _) (.cons (Fv.keep t7 _) (.cons (Fv.keep t7 _) (.cons (Fv.keep t7 _) (.cons (Fv.keep t7 _) (.cons (Fv.keep t7 _) (.cons (Fv.keep t7 _) (.cons (Fv.keep t7 _) (.cons (Fv.keep t7 _) (.nil))))))))))))))))))))
 have p_r25:Fv K18 (.oslice 10 r25 0 2 2) K3 (.vslice (Ry.flatMap dAs) 2):=Fv.cells t7 z_r25 y_r25 rfl q_r25;have q_call:Dp K18 [.int .u8 7, .int .u8 0, .int .i64 0, .str [], .oslice 9 r16 0 1 1, .oslice 10 r25 0 2 2, .int .i64 0, .int .i64 0, .int .i64 0] K3 (dEx Yr):=Fv.ex (l:= [nmE [70]]) (a:=Ry) t7 p_r16 p_r25;have q_r28:Dp K18 [.int .u8 7, .int .u8 0, .int .i64 0, .str [], .oslice 9 r16 0 1 1, .oslice 10 r25 0 2 2, .int .i64 0, .int .i64 0, .int .i64 0] K3 ([Yr].flatMap dEx):=by rw[List.flatMap_singleton];exact q_call
 have p_r28:Fv K18 (.oslice 9 r28 0 1 1) K3 (.vslice ([Yr].flatMap dEx) 1):=Fv.cells t7 z_r28 y_r28 rfl q_r28;have q_r30:Dp K18 [.int .u8 5, .int .u8 0, .int .i64 0, .str [], .oslice 9 r28 0 1 1, .nilSlice, .int .i64 0, .int .i64 0, .int .i64 0] K3 ([Ex.mk 5 0 0 [] [Yr] [] 0 0 0].flatMap dEx):=by rw[List.flatMap_singleton];exact Fv.ex (l:= [Yr]) (a:= []) t7 p_r28 (.as0 t7)
 have p_r30:Fv K18 (.oslice 9 r30 0 1 1) K3 (.vslice ([Ex.mk 5 0 0 [] [Yr] [] 0 0 0].flatMap dEx) 1):=Fv.cells t7 z_r30 y_r30 rfl q_r30;have q_b5:Dp K18 [.int .u8 6, .int .u8 0, .int .i64 0, .str [70,105,114,115,116], .oslice 9 r30 0 1 1, .nilSlice, .int .i64 0, .int .i64 0, .int .i64 0] K3 (dEx Bq3):=Fv.ex (l:= [Ex.mk 5 0 0 [] [Yr] [] 0 0 0]) (a:= []) t7 p_r30 (.as0 t7);clear q_r16 q_r22 q_r25 q_r28 q_r30 p_r16 p_r22 p_r25 p_r28 p_r30 q_call;clear y_r16 z_r16;clear y_r22 z_r22;clear y_r25 z_r25;clear y_b4 z_b4;clear y_r28 z_r28;clear y_r30 z_r30;try simp(disch:=omega) only[go_sem,↓reduceIte,dE,nmE,Bt,Bl,List.flatMap_nil,List.length_nil,Cj,Dq,Dr,List.length_cons,List.length_append,List.drop_succ_cons,List.drop_zero,List.drop_nil,List.take_succ_cons,List.take_zero,List.cons_append,List.nil_append,List.append_nil,dC,Bf,g1,g2,g3]
 refine An (by kernel_rfl) (.take 0 (.take 1 (.take 2 (.go 3 [0] (.go 4 [] (.go 5 [] (.take 6 (.take 7 (.take 9 (.go 8 [9] (.go 10 [] (.go 11 [] (.take 12 (.take 13 (.take 14 (.go 15 [] (.take 16 (.take 17 (.go 18 [] (.go 19 [] (.go 20 [] (.go 21 [] (.take 22 (.go 23 [] (.take 24 (.take 25 .done)))))))))))))))))))))))))) (by kernel_rfl) ?_;try simp(disch:=omega) only[go_sem,↓reduceIte,dE,nmE,Bt,Bl,List.flatMap_nil,List.length_nil,Cj,Dq,Dr,List.length_cons,List.length_append,List.drop_succ_cons,List.drop_zero,List.drop_nil,List.take_succ_cons,List.take_zero,List.cons_append,List.nil_append,List.append_nil,dC,Bf,g1,g2,g3]
 refine Ah.monoR (Gn G K18 3 eB eC) ?_;simp(disch:=omega) only[go_sem,↓reduceIte,g1,g2,g3,dE];refine Ah.monoR (Gn G K18 1 eA (Nv 3 eB eC)) ?_;simp(disch:=omega) only[go_sem,↓reduceIte,g1,g2,g3,dE];refine Ah.monoR (He hG K18 _ 0 5 _ ex1) ?_;simp(disch:=omega) only[go_sem,↓reduceIte,g1,g2,g3,dE];refine Ah.monoR (Ll G K18 19 eA) ?_;simp(disch:=omega) only[go_sem,↓reduceIte,g1,g2,g3,dE];refine Ah.monoR (Gn G K18 1 (Tj 19 eA) eB) ?_;simp(disch:=omega) only[go_sem,↓reduceIte,g1,g2,g3,dE];refine Ah.monoR (He hG K18 _ 2 4 _ ex2) ?_;simp(disch:=omega) only[go_sem,↓reduceIte,g1,g2,g3,dE,y_b5];refine(Dp.lent (H:=K3) (args':= [.str _,dI 6,dI 12, .agg (dEx Bq3)]) (.cons (.keep t7 _) (.cons (.keep t7 _) (.cons (.keep t7 _) (.cons (Fv.agg q_b5) .nil)))) (He hG h0 _ 6 12 _ ex3) rfl).mono ?_;rintro _ H' ⟨rfl,hH'⟩;have hH2:=hH'.symm;clear hH';subst hH2;clear q_b5 y_b5;simp(disch:=omega) only[go_sem,↓reduceIte,g1,g2,g3,dE];refine Ah.monoR (Ep G _ [88]) ?_;try simp(disch:=omega) only[go_sem,↓reduceIte,dE,nmE,Bt,Bl,List.flatMap_nil,List.length_nil,Cj,Dq,Dr,List.length_cons,List.length_append,List.drop_succ_cons,List.drop_zero,List.drop_nil,List.take_succ_cons,List.take_zero,List.cons_append,List.nil_append,List.append_nil,dC,Bf]
 refine Ah.monoR (Gc G _ 1) ?_;try simp(disch:=omega) only[go_sem,↓reduceIte,dE,nmE,Bt,Bl,List.flatMap_nil,List.length_nil,Cj,Dq,Dr,List.length_cons,List.length_append,List.drop_succ_cons,List.drop_zero,List.drop_nil,List.take_succ_cons,List.take_zero,List.cons_append,List.nil_append,List.append_nil,dC,Bf]
 refine Ah.monoR (Gc G _ 3) ?_;try simp(disch:=omega) only[go_sem,↓reduceIte,dE,nmE,Bt,Bl,List.flatMap_nil,List.length_nil,Cj,Dq,Dr,List.length_cons,List.length_append,List.drop_succ_cons,List.drop_zero,List.drop_nil,List.take_succ_cons,List.take_zero,List.cons_append,List.nil_append,List.append_nil,dC,Bf]
 intro r69 hr69;dsimp only at hr69;try simp(disch:=omega) only[go_sem,↓reduceIte,dE,nmE,Bt,Bl,List.flatMap_nil,List.length_nil,Cj,Dq,Dr,List.length_cons,List.length_append,List.drop_succ_cons,List.drop_zero,List.drop_nil,List.take_succ_cons,List.take_zero,List.cons_append,List.nil_append,List.append_nil,dC,Bf]
 obtain⟨K19,hK19⟩: ∃K',K'=upd K18 r69 (some (.cells [.int .u8 3, .int .u8 0, .int .i64 0, .str [88], .vslice [] 0, .vslice [] 0, .int .i64 0, .int .i64 0, .int .i64 0, .int .u8 1, .int .u8 0, .int .i64 1, .str [], .vslice [] 0, .vslice [] 0, .int .i64 0, .int .i64 0, .int .i64 0, .int .u8 1, .int .u8 0, .int .i64 3, .str [], .vslice [] 0, .vslice [] 0, .int .i64 0, .int .i64 0, .int .i64 0] 36)):=⟨_,rfl⟩;rw[<-hK19];have y_r69:K19 r69=some (.cells [.int .u8 3, .int .u8 0, .int .i64 0, .str [88], .vslice [] 0, .vslice [] 0, .int .i64 0, .int .i64 0, .int .i64 0, .int .u8 1, .int .u8 0, .int .i64 1, .str [], .vslice [] 0, .vslice [] 0, .int .i64 0, .int .i64 0, .int .i64 0, .int .u8 1, .int .u8 0, .int .i64 3, .str [], .vslice [] 0, .vslice [] 0, .int .i64 0, .int .i64 0, .int .i64 0] 36):=by rw[hK19];exact Aa _ _ _
 have sK19:Sub K18 K19:=by rw[hK19];exact(Sub.refl _).new hr69 _
 have z_r69:K3 r69=none:=t7.lo hr69;clear hK19;have y_r39:=sK19 _ _ y_r39;have y_r43:=sK19 _ _ y_r43;have y_r46:=sK19 _ _ y_r46;have y_b6:=sK19 _ _ y_b6;have g1:=sK19 _ _ g1;have g2:=sK19 _ _ g2;have g3:=sK19 _ _ g3;have t7:=t7.trans sK19;have q_r69:Dp K19 [.int .u8 3, .int .u8 0, .int .i64 0, .str [88], .vslice [] 0, .vslice [] 0, .int .i64 0, .int .i64 0, .int .i64 0, .int .u8 1, .int .u8 0, .int .i64 1, .str [], .vslice [] 0, .vslice [] 0, .int .i64 0, .int .i64 0, .int .i64 0, .int .u8 1, .int .u8 0, .int .i64 3, .str [], .vslice [] 0, .vslice [] 0, .int .i64 0, .int .i64 0, .int .i64 0] K3 ([nmE [88],Bt 1,Bt 3].flatMap dEx):=by
  rw[show [nmE [88],Bt 1,Bt 3].flatMap dEx=([.int .u8 3, .int .u8 0, .int .i64 0, .str [88], .vslice [] 0, .vslice [] 0, .int .i64 0, .int .i64 0, .int .i64 0, .int .u8 1, .int .u8 0, .int .i64 1, .str [], .vslice [] 0, .vslice [] 0, .int .i64 0, .int .i64 0, .int .i64 0, .int .u8 1, .int .u8 0, .int .i64 3, .str [], .vslice [] 0, .vslice [] 0, .int .i64 0, .int .i64 0, .int .i64 0]:List DVal) from by simp [nmE,Bt,Bl,Bf,Nb,Ry,Qu,Ex.a]];exact Dp.keep t7 _
 have p_r69:Fv K19 (.oslice 9 r69 0 3 3) K3 (.vslice ([nmE [88],Bt 1,Bt 3].flatMap dEx) 3):=Fv.cells t7 z_r69 y_r69 rfl q_r69;have q_ni:Dp K19 [.int .u8 14, .int .u8 0, .int .i64 0, .str [], .oslice 9 r69 0 3 3, .nilSlice, .int .i64 0, .int .i64 0, .int .i64 0] K3 (dEx Bq4):=Fv.ex (l:= [nmE [88],Bt 1,Bt 3]) (a:= []) t7 p_r69 (.as0 t7);try simp(disch:=omega) only[go_sem,↓reduceIte,dE,nmE,Bt,Bl,List.flatMap_nil,List.length_nil,Cj,Dq,Dr,List.length_cons,List.length_append,List.drop_succ_cons,List.drop_zero,List.drop_nil,List.take_succ_cons,List.take_zero,List.cons_append,List.nil_append,List.append_nil,dC,Bf]
 refine(Dp.lent (H:=K3) (args':= [.str _,dI 0,dI 6, .agg (dEx Bq4)]) (.cons (.keep t7 _) (.cons (.keep t7 _) (.cons (.keep t7 _) (.cons (Fv.agg q_ni) .nil)))) (He hG h0 _ 0 6 _ ex4) rfl).mono ?_;rintro _ H' ⟨rfl,hH'⟩;have hH2:=hH'.symm;clear hH';subst hH2;have q_r39:Dp K19 [.int .u8 2, .vslice [.int .u8 1, .int .u8 0, .int .i64 1, .str [], .vslice [] 0, .vslice [] 0, .int .i64 0, .int .i64 0, .int .i64 0, .int .u8 1, .int .u8 0, .int .i64 2, .str [], .vslice [] 0, .vslice [] 0, .int .i64 0, .int .i64 0, .int .i64 0] 2, .int .u8 1, .vslice [.int .u8 1, .int .u8 0, .int .i64 4, .str [], .vslice [] 0, .vslice [] 0, .int .i64 0, .int .i64 0, .int .i64 0] 1] K3 ([Ch.mk 2 [Bt 1,Bt 2],Ch.mk 1 [Bt 4]].flatMap dCh):=by
  rw[show [Ch.mk 2 [Bt 1,Bt 2],Ch.mk 1 [Bt 4]].flatMap dCh=([.int .u8 2, .vslice [.int .u8 1, .int .u8 0, .int .i64 1, .str [], .vslice [] 0, .vslice [] 0, .int .i64 0, .int .i64 0, .int .i64 0, .int .u8 1, .int .u8 0, .int .i64 2, .str [], .vslice [] 0, .vslice [] 0, .int .i64 0, .int .i64 0, .int .i64 0] 2, .int .u8 1, .vslice [.int .u8 1, .int .u8 0, .int .i64 4, .str [], .vslice [] 0, .vslice [] 0, .int .i64 0, .int .i64 0, .int .i64 0] 1]:List DVal) from by simp [nmE,Bt,Bl,Bf,Nb,Ry,Qu,Ex.a]];exact Dp.keep t7 _
 have p_r39:Fv K19 (.oslice 2 r39 0 2 2) K3 (.vslice ([Ch.mk 2 [Bt 1,Bt 2],Ch.mk 1 [Bt 4]].flatMap dCh) 2):=Fv.cells t7 z_r39 y_r39 rfl q_r39;have q_r43:Dp K19 [.int .u8 3, .vslice [] 0] K3 ([Ch.mk 3 []].flatMap dCh):=by
  rw[show [Ch.mk 3 []].flatMap dCh=([.int .u8 3, .vslice [] 0]:List DVal) from by simp [nmE,Bt,Bl,Bf,Nb,Ry,Qu,Ex.a]];exact Dp.keep t7 _
 have p_r43:Fv K19 (.oslice 2 r43 0 1 1) K3 (.vslice ([Ch.mk 3 []].flatMap dCh) 1):=Fv.cells t7 z_r43 y_r43 rfl q_r43;have q_r46:Dp K19 [.oslice 2 r39 0 2 2, .int .u8 1, .int .u8 0, .int .i64 0, .str [], .vslice [] 0, .vslice [] 0, .int .i64 0, .int .i64 0, .int .i64 0, .oslice 2 r43 0 1 1, .int .u8 1, .int .u8 0, .int .i64 1, .str [], .vslice [] 0, .vslice [] 0, .int .i64 0, .int .i64 0, .int .i64 0] K3 (Qu.a.flatMap dAs):=by
  rw[show Qu.a.flatMap dAs=([.vslice ([Ch.mk 2 [Bt 1,Bt 2],Ch.mk 1 [Bt 4]].flatMap dCh) 2, .int .u8 1, .int .u8 0, .int .i64 0, .str [], .vslice [] 0, .vslice [] 0, .int .i64 0, .int .i64 0, .int .i64 0, .vslice ([Ch.mk 3 []].flatMap dCh) 1, .int .u8 1, .int .u8 0, .int .i64 1, .str [], .vslice [] 0, .vslice [] 0, .int .i64 0, .int .i64 0, .int .i64 0]:List DVal) from by simp [nmE,Bt,Bl,Bf,Nb,Ry,Qu,Ex.a]];exact .cons p_r39 (.cons (Fv.keep t7 _) (.cons (Fv.keep t7 _) (.cons (Fv.keep t7 _) (.cons (Fv.keep t7 _) (.cons (Fv.keep t7 _) (.cons (Fv.keep t7 _) (.cons (Fv.keep t7 _) (.cons (Fv.keep t7 _) (.cons (Fv.keep t7 _) (.cons p_r43 (.cons (Fv.keep t7 _) (.cons (Fv.keep t7 _) (.cons (Fv.keep t7 _) (.cons (Fv.keep t7 _) (.cons (Fv.keep t7 _) (.cons (Fv.keep t7 _) (.cons (Fv.keep t7 _) (.cons (Fv.keep t7 _) (.cons (Fv.keep t7 _) (.nil))))))))))))))))))))
 have p_r46:Fv K19 (.oslice 10 r46 0 2 2) K3 (.vslice (Qu.a.flatMap dAs) 2):=Fv.cells t7 z_r46 y_r46 rfl q_r46;have q_b6:Dp K19 [.int .u8 9, .int .u8 0, .int .i64 0, .str [], .nilSlice, .oslice 10 r46 0 2 2, .int .i64 0, .int .i64 0, .int .i64 0] K3 (dEx Qu):=Fv.ex (l:= []) (a:=Qu.a) t7 (.exs0 t7) p_r46;simp(disch:=omega) only[go_sem,↓reduceIte,g1,g2,g3,dE,y_b6];refine An (by kernel_rfl) (.take 0 (.go 1 [] (.take 2 (.take 3 (.go 4 [] (.take 5 (.take 6 (.take 8 (.go 7 [8] (.go 9 [] (.take 10 (.go 11 [] (.take 12 (.take 13 (.take 14 (.take 15 (.go 16 [] (.go 17 [] (.take 18 (.take 19 (.go 20 [] (.take 21 (.take 22 (.go 23 [] (.take 24 (.take 25 (.go 26 [] (.take 27 (.take 28 .done))))))))))))))))))))))))))))) (by kernel_rfl) ?_;simp(disch:=omega) only[go_sem,↓reduceIte,g1,g2,g3,dE,y_b6];refine(Dp.lent (H:=K3) (args':= [.str _,dI 5,dI 13, .agg (dEx Qu)]) (.cons (.keep t7 _) (.cons (.keep t7 _) (.cons (.keep t7 _) (.cons (Fv.agg q_b6) .nil)))) (He hG h0 _ 5 13 _ ex5) rfl).mono ?_;rintro _ H' ⟨rfl,hH'⟩;have hH2:=hH'.symm;clear hH';subst hH2;simp(disch:=omega) only[go_sem,↓reduceIte,g1,g2,g3,dE];refine Ah.monoR (He hG K19 _ 5 3 eA ex6) ?_;simp(disch:=omega) only[go_sem,↓reduceIte,g1,g2,g3,dE];refine Ah.monoR (Ep G _ [84]) ?_;try simp(disch:=omega) only[go_sem,↓reduceIte,dE,nmE,Bt,Bl,List.flatMap_nil,List.length_nil,Cj,Dq,Dr,List.length_cons,List.length_append,List.drop_succ_cons,List.drop_zero,List.drop_nil,List.take_succ_cons,List.take_zero,List.cons_append,List.nil_append,List.append_nil,dC,Bf,g1,eA]
 intro r82 hr82;dsimp only at hr82;try simp(disch:=omega) only[go_sem,↓reduceIte,dE,nmE,Bt,Bl,List.flatMap_nil,List.length_nil,Cj,Dq,Dr,List.length_cons,List.length_append,List.drop_succ_cons,List.drop_zero,List.drop_nil,List.take_succ_cons,List.take_zero,List.cons_append,List.nil_append,List.append_nil,dC,Bf,g1,eA]
 obtain⟨K20,hK20⟩: ∃K',K'=upd K19 r82 (some (.cells [.int .u8 3, .int .u8 0, .int .i64 0, .str [84], .vslice [] 0, .vslice [] 0, .int .i64 0, .int .i64 0, .int .i64 0, .int .u8 3, .int .u8 0, .int .i64 0, .str [65], .vslice [] 0, .vslice [] 0, .int .i64 0, .int .i64 0, .int .i64 0] 36)):=⟨_,rfl⟩;rw[<-hK20];have y_r82:K20 r82=some (.cells [.int .u8 3, .int .u8 0, .int .i64 0, .str [84], .vslice [] 0, .vslice [] 0, .int .i64 0, .int .i64 0, .int .i64 0, .int .u8 3, .int .u8 0, .int .i64 0, .str [65], .vslice [] 0, .vslice [] 0, .int .i64 0, .int .i64 0, .int .i64 0] 36):=by rw[hK20];exact Aa _ _ _
 have sK20:Sub K19 K20:=by rw[hK20];exact(Sub.refl _).new hr82 _
 have z_r82:K3 r82=none:=t7.lo hr82;clear hK20;have y_r39:=sK20 _ _ y_r39;have y_r43:=sK20 _ _ y_r43;have y_r46:=sK20 _ _ y_r46;have y_b6:=sK20 _ _ y_b6;have y_r69:=sK20 _ _ y_r69;have g1:=sK20 _ _ g1;have g2:=sK20 _ _ g2;have g3:=sK20 _ _ g3;have t7:=t7.trans sK20;have q_r82:Dp K20 [.int .u8 3, .int .u8 0, .int .i64 0, .str [84], .vslice [] 0, .vslice [] 0, .int .i64 0, .int .i64 0, .int .i64 0, .int .u8 3, .int .u8 0, .int .i64 0, .str [65], .vslice [] 0, .vslice [] 0, .int .i64 0, .int .i64 0, .int .i64 0] K3 ([nmE [84],eA].flatMap dEx):=by
  rw[show [nmE [84],eA].flatMap dEx=([.int .u8 3, .int .u8 0, .int .i64 0, .str [84], .vslice [] 0, .vslice [] 0, .int .i64 0, .int .i64 0, .int .i64 0, .int .u8 3, .int .u8 0, .int .i64 0, .str [65], .vslice [] 0, .vslice [] 0, .int .i64 0, .int .i64 0, .int .i64 0]:List DVal) from by simp [nmE,Bt,Bl,Bf,Nb,Ry,Qu,Ex.a,eA]];exact Dp.keep t7 _
 have p_r82:Fv K20 (.oslice 9 r82 0 2 2) K3 (.vslice ([nmE [84],eA].flatMap dEx) 2):=Fv.cells t7 z_r82 y_r82 rfl q_r82;have q_ql:Dp K20 [.int .u8 8, .int .u8 0, .int .i64 0, .str [], .oslice 9 r82 0 2 2, .nilSlice, .int .i64 0, .int .i64 0, .int .i64 0] K3 (dEx Cx3):=Fv.ex (l:= [nmE [84],eA]) (a:= []) t7 p_r82 (.as0 t7);try simp(disch:=omega) only[go_sem,↓reduceIte,dE,nmE,Bt,Bl,List.flatMap_nil,List.length_nil,Cj,Dq,Dr,List.length_cons,List.length_append,List.drop_succ_cons,List.drop_zero,List.drop_nil,List.take_succ_cons,List.take_zero,List.cons_append,List.nil_append,List.append_nil,dC,Bf]
 refine(Dp.lent (H:=K3) (args':= [.str _,dI 6,dI 5, .agg (dEx Cx3)]) (.cons (.keep t7 _) (.cons (.keep t7 _) (.cons (.keep t7 _) (.cons (Fv.agg q_ql) .nil)))) (He hG h0 _ 6 5 _ ex7) rfl).mono ?_;rintro _ H' ⟨rfl,hH'⟩;have hH2:=hH'.symm;clear hH';subst hH2;simp(disch:=omega) only[go_sem,↓reduceIte,g1,g2,g3,dE];refine Ah.monoR (Gn G K20 13 eA eB) ?_;simp(disch:=omega) only[go_sem,↓reduceIte,g1,g2,g3,dE];refine Ah.monoR (He hG K20 _ 0 3 _ ex8) ?_;simp(disch:=omega) only[go_sem,↓reduceIte,g1,g2,g3,dE];refine Ah.monoR (Tk hG K20 _ 0 2 ex9) ?_;simp(disch:=omega) only[go_sem,↓reduceIte,g1,g2,g3,dE];refine Ah.monoR (Tk hG K20 _ 0 2 Dw6) ?_;simp(disch:=omega) only[go_sem,↓reduceIte,g1,g2,g3,dE];refine Ah.monoR (Tk hG K20 _ 0 0 Dw7) ?_;simp(disch:=omega) only[go_sem,↓reduceIte,g1,g2,g3,dE];refine An (by kernel_rfl) (.take 0 (.take 1 (.alt (.go 4 [1,0] (.go 2 [0] (.go 3 [] (.go 5 [] .done)))) (.go 2 [0] (.alt (.go 4 [1,0] (.go 3 [] (.go 5 [] .done))) (.go 3 [] (.go 4 [1,0] (.go 5 [] .done)))))))) (by kernel_rfl) ?_;simp(disch:=omega) only[go_sem,↓reduceIte,g1,g2,g3,dE];have lS:=Aj Gs;have oS:=Ba Gs;have eS:Nv 1 eA (Tj 19 eB)=Gs:=rfl;have hts:Vi Gs=(Ag Gs,0):=by rw[Vi,if_pos (by decide+kernel)]
 have ht1:Pf (Ag Gs) (Bg [65,32,43,32,40,45,32,66,41]).1=true:=by decide+kernel
 have ht2:Ko Gs=true:=by decide+kernel
 have ht3:Ko (Tj 21 ex0)=false:=by decide+kernel
 have ht4:Ee Gs=4:=by decide+kernel
 have ht5:Ak Gs=2:=by decide+kernel
 have ht6:Az Gs=false:=by decide+kernel
 have ht7:Az eA=true:=by decide+kernel
 have hF0:Fit (Tj 21 ex0):=⟨by decide+kernel,by simp [Tj,ex0,okE,okL,Kz]⟩;have hz0:DLe (.agg [.int .u8 0, .int .u8 0, .int .i64 0, .str [], .nilSlice, .nilSlice, .int .i64 0, .int .i64 0, .int .i64 0]) (.agg (dEx ex0)):=DLe.agg (.cons (.refl _) (.cons (.refl _) (.cons (.refl _) (.cons (.refl _) (.cons .nil (.cons .nil (.refl _)))))));have hFS:Fit Gs:=⟨by decide+kernel,by simp [Gs,Nv,Tj,eA,eB,nmE,okE,okL,Kz]⟩;refine⟨?_,?_⟩
 ·intro b9 hb9;dsimp only at hb9;have m19:b1≠b9:=Af hb9 g1;have o1:=g1;have o2:=g2;obtain⟨K21,hK21⟩: ∃K',K'=upd K20 b9 (some (.cells [.int .u8 0, .int .u8 0, .int .i64 0, .str [], .nilSlice, .nilSlice, .int .i64 0, .int .i64 0, .int .i64 0] 36)):=⟨_,rfl⟩;rw[<-hK21];have y_b9:K21 b9=some (.cells [.int .u8 0, .int .u8 0, .int .i64 0, .str [], .nilSlice, .nilSlice, .int .i64 0, .int .i64 0, .int .i64 0] 36):=by rw[hK21];exact Aa _ _ _
  have sK21:Sub K20 K21:=by rw[hK21];exact(Sub.refl _).new hb9 _
  have z_b9:K3 b9=none:=t7.lo hb9;clear hK21;have y_r39:=sK21 _ _ y_r39;have y_r43:=sK21 _ _ y_r43;have y_r46:=sK21 _ _ y_r46;have y_b6:=sK21 _ _ y_b6;have y_r69:=sK21 _ _ y_r69;have y_r82:=sK21 _ _ y_r82;have g1:=sK21 _ _ g1;have g2:=sK21 _ _ g2;have g3:=sK21 _ _ g3;have t7:=t7.trans sK21;try simp(disch:=omega) only[go_sem,↓reduceIte,g1,g2,g3,dE,eS]
  refine⟨⟨o2.symm,o1.symm⟩,?_⟩;refine Ah.monoR (Ll G K21 19 eB) ?_;try simp(disch:=omega) only[go_sem,↓reduceIte,g1,g2,g3,dE,eS]
  refine Ah.monoR (Gn G K21 1 eA (Tj 19 eB)) ?_;rw[eS];try simp(disch:=omega) only[go_sem,↓reduceIte,g1,g2,g3,dE,y_b9,lS,oS]
  obtain⟨K30,hK30⟩: ∃K',K'=upd K21 b9 (some (.cells (dEx Gs) 36)):=⟨_,rfl⟩;rw[<-hK30];have g1:K30 b1=some (.cells (dEx eA) 36):=by rw[hK30];exact Ai g1 m19
  have g9:K30 b9=some (.cells (dEx Gs) 36):=by rw[hK30];exact Aa _ _ _
  have t7:Sub K3 K30:=by rw[hK30];exact t7.up z_b9 _
  clear hK30;try simp(disch:=omega) only[go_sem,↓reduceIte,g9]
  (try refine⟨⟨o2.symm,o1.symm⟩,?_⟩)
  refine Ah.monoR (Qt hG K30 Gs hFS) ?_;rw[hts];simp(disch:=omega) only[go_sem,↓reduceIte,g1,g9];refine Ah.monoR (Jz G K30 _ (by decide)) ?_;simp(disch:=omega) only[go_sem,↓reduceIte,g1,g9];refine Ah.monoR (Ss G K30 (Ag Gs) (Bg [65,32,43,32,40,45,32,66,41]).1 (by decide+kernel)) ?_;rw[ht1];simp(disch:=omega) only[go_sem,↓reduceIte,g1,g9];refine Ah.monoR (Kh hG K30 Gs hFS) ?_;rw[ht2];simp(disch:=omega) only[go_sem,↓reduceIte,g1,g9];refine Ah.leArgs (args':= [.int .u8 21, .agg (dEx ex0)]) (Bl6.cons (.refl _) (Bl6.cons hz0 .nil)) ?_;refine Ah.monoR (Ll G K30 21 ex0) ?_;simp(disch:=omega) only[go_sem,↓reduceIte,dE];refine Ah.monoR (Kh hG K30 (Tj 21 ex0) hF0) ?_;rw[ht3];simp(disch:=omega) only[go_sem,↓reduceIte,g1,g9];refine Ah.monoR (Ws G Gs K30 (by decide+kernel)) ?_;rw[ht4];simp(disch:=omega) only[go_sem,↓reduceIte,g1,g9];refine Ah.monoR (Jw G K30 Gs) ?_;rw[ht5];simp(disch:=omega) only[go_sem,↓reduceIte,g1,g9];refine Ah.monoR (Dn G K30 Gs) ?_;rw[ht6];simp(disch:=omega) only[go_sem,↓reduceIte,g1,g9];refine Ah.monoR (Dn G K30 eA) ?_;rw[ht7];simp(disch:=omega) only[go_sem,↓reduceIte,g1,g9];exact Pm.sub t7 (.refl ⟨rfl,rfl⟩)
 ·refine Ah.monoR (Ll G K20 19 eB) ?_;try simp(disch:=omega) only[go_sem,↓reduceIte,g1,g2,g3,dE,eS]
  refine⟨?_,?_⟩
  ·intro b9 hb9;dsimp only at hb9;have m19:b1≠b9:=Af hb9 g1;have o1:=g1;have o2:=g2;obtain⟨K21,hK21⟩: ∃K',K'=upd K20 b9 (some (.cells [.int .u8 0, .int .u8 0, .int .i64 0, .str [], .nilSlice, .nilSlice, .int .i64 0, .int .i64 0, .int .i64 0] 36)):=⟨_,rfl⟩;rw[<-hK21];have y_b9:K21 b9=some (.cells [.int .u8 0, .int .u8 0, .int .i64 0, .str [], .nilSlice, .nilSlice, .int .i64 0, .int .i64 0, .int .i64 0] 36):=by rw[hK21];exact Aa _ _ _
   have sK21:Sub K20 K21:=by rw[hK21];exact(Sub.refl _).new hb9 _
   have z_b9:K3 b9=none:=t7.lo hb9;clear hK21;have y_r39:=sK21 _ _ y_r39;have y_r43:=sK21 _ _ y_r43;have y_r46:=sK21 _ _ y_r46;have y_b6:=sK21 _ _ y_b6;have y_r69:=sK21 _ _ y_r69;have y_r82:=sK21 _ _ y_r82;have g1:=sK21 _ _ g1;have g2:=sK21 _ _ g2;have g3:=sK21 _ _ g3;have t7:=t7.trans sK21;try simp(disch:=omega) only[go_sem,↓reduceIte,g1,g2,g3,dE,eS]
   refine⟨⟨o2.symm,o1.symm⟩,?_⟩;refine Ah.monoR (Gn G K21 1 eA (Tj 19 eB)) ?_;rw[eS];try simp(disch:=omega) only[go_sem,↓reduceIte,g1,g2,g3,dE,y_b9,lS,oS]
   obtain⟨K30,hK30⟩: ∃K',K'=upd K21 b9 (some (.cells (dEx Gs) 36)):=⟨_,rfl⟩;rw[<-hK30];have g1:K30 b1=some (.cells (dEx eA) 36):=by rw[hK30];exact Ai g1 m19
   have g9:K30 b9=some (.cells (dEx Gs) 36):=by rw[hK30];exact Aa _ _ _
   have t7:Sub K3 K30:=by rw[hK30];exact t7.up z_b9 _
   clear hK30;try simp(disch:=omega) only[go_sem,↓reduceIte,g9]
   (try refine⟨⟨o2.symm,o1.symm⟩,?_⟩)
   refine Ah.monoR (Qt hG K30 Gs hFS) ?_;rw[hts];simp(disch:=omega) only[go_sem,↓reduceIte,g1,g9];refine Ah.monoR (Jz G K30 _ (by decide)) ?_;simp(disch:=omega) only[go_sem,↓reduceIte,g1,g9];refine Ah.monoR (Ss G K30 (Ag Gs) (Bg [65,32,43,32,40,45,32,66,41]).1 (by decide+kernel)) ?_;rw[ht1];simp(disch:=omega) only[go_sem,↓reduceIte,g1,g9];refine Ah.monoR (Kh hG K30 Gs hFS) ?_;rw[ht2];simp(disch:=omega) only[go_sem,↓reduceIte,g1,g9];refine Ah.leArgs (args':= [.int .u8 21, .agg (dEx ex0)]) (Bl6.cons (.refl _) (Bl6.cons hz0 .nil)) ?_;refine Ah.monoR (Ll G K30 21 ex0) ?_;simp(disch:=omega) only[go_sem,↓reduceIte,dE];refine Ah.monoR (Kh hG K30 (Tj 21 ex0) hF0) ?_;rw[ht3];simp(disch:=omega) only[go_sem,↓reduceIte,g1,g9];refine Ah.monoR (Ws G Gs K30 (by decide+kernel)) ?_;rw[ht4];simp(disch:=omega) only[go_sem,↓reduceIte,g1,g9];refine Ah.monoR (Jw G K30 Gs) ?_;rw[ht5];simp(disch:=omega) only[go_sem,↓reduceIte,g1,g9];refine Ah.monoR (Dn G K30 Gs) ?_;rw[ht6];simp(disch:=omega) only[go_sem,↓reduceIte,g1,g9];refine Ah.monoR (Dn G K30 eA) ?_;rw[ht7];simp(disch:=omega) only[go_sem,↓reduceIte,g1,g9];exact Pm.sub t7 (.refl ⟨rfl,rfl⟩)
  ·refine Ah.monoR (Gn G K20 1 eA (Tj 19 eB)) ?_;rw[eS];try simp(disch:=omega) only[go_sem,↓reduceIte,g1,g2,g3,dE,eS]
   intro b9 hb9;dsimp only at hb9;have m19:b1≠b9:=Af hb9 g1;have o1:=g1;have o2:=g2;obtain⟨K21,hK21⟩: ∃K',K'=upd K20 b9 (some (.cells [.int .u8 0, .int .u8 0, .int .i64 0, .str [], .nilSlice, .nilSlice, .int .i64 0, .int .i64 0, .int .i64 0] 36)):=⟨_,rfl⟩;rw[<-hK21];have y_b9:K21 b9=some (.cells [.int .u8 0, .int .u8 0, .int .i64 0, .str [], .nilSlice, .nilSlice, .int .i64 0, .int .i64 0, .int .i64 0] 36):=by rw[hK21];exact Aa _ _ _
   have sK21:Sub K20 K21:=by rw[hK21];exact(Sub.refl _).new hb9 _
   have z_b9:K3 b9=none:=t7.lo hb9;clear hK21;have y_r39:=sK21 _ _ y_r39;have y_r43:=sK21 _ _ y_r43;have y_r46:=sK21 _ _ y_r46;have y_b6:=sK21 _ _ y_b6;have y_r69:=sK21 _ _ y_r69;have y_r82:=sK21 _ _ y_r82;have g1:=sK21 _ _ g1;have g2:=sK21 _ _ g2;have g3:=sK21 _ _ g3;have t7:=t7.trans sK21;try simp(disch:=omega) only[go_sem,↓reduceIte,g1,g2,g3,dE,y_b9,lS,oS]
   obtain⟨K30,hK30⟩: ∃K',K'=upd K21 b9 (some (.cells (dEx Gs) 36)):=⟨_,rfl⟩;rw[<-hK30];have g1:K30 b1=some (.cells (dEx eA) 36):=by rw[hK30];exact Ai g1 m19
   have g9:K30 b9=some (.cells (dEx Gs) 36):=by rw[hK30];exact Aa _ _ _
   have t7:Sub K3 K30:=by rw[hK30];exact t7.up z_b9 _
   clear hK30;try simp(disch:=omega) only[go_sem,↓reduceIte,g9]
   (try refine⟨⟨o2.symm,o1.symm⟩,?_⟩)
   refine Ah.monoR (Qt hG K30 Gs hFS) ?_;rw[hts];simp(disch:=omega) only[go_sem,↓reduceIte,g1,g9];refine Ah.monoR (Jz G K30 _ (by decide)) ?_;simp(disch:=omega) only[go_sem,↓reduceIte,g1,g9];refine Ah.monoR (Ss G K30 (Ag Gs) (Bg [65,32,43,32,40,45,32,66,41]).1 (by decide+kernel)) ?_;rw[ht1];simp(disch:=omega) only[go_sem,↓reduceIte,g1,g9];refine Ah.monoR (Kh hG K30 Gs hFS) ?_;rw[ht2];simp(disch:=omega) only[go_sem,↓reduceIte,g1,g9];refine Ah.leArgs (args':= [.int .u8 21, .agg (dEx ex0)]) (Bl6.cons (.refl _) (Bl6.cons hz0 .nil)) ?_;refine Ah.monoR (Ll G K30 21 ex0) ?_;simp(disch:=omega) only[go_sem,↓reduceIte,dE];refine Ah.monoR (Kh hG K30 (Tj 21 ex0) hF0) ?_;rw[ht3];simp(disch:=omega) only[go_sem,↓reduceIte,g1,g9];refine Ah.monoR (Ws G Gs K30 (by decide+kernel)) ?_;rw[ht4];simp(disch:=omega) only[go_sem,↓reduceIte,g1,g9];refine Ah.monoR (Jw G K30 Gs) ?_;rw[ht5];simp(disch:=omega) only[go_sem,↓reduceIte,g1,g9];refine Ah.monoR (Dn G K30 Gs) ?_;rw[ht6];simp(disch:=omega) only[go_sem,↓reduceIte,g1,g9];refine Ah.monoR (Dn G K30 eA) ?_;rw[ht7];simp(disch:=omega) only[go_sem,↓reduceIte,g1,g9];exact Pm.sub t7 (.refl ⟨rfl,rfl⟩)
end
end Go.Dl

-- THE READING, PART 1: what was read of the input before a call is read the same behind it, if the call left all old memory as it was.
namespace Go.Dl
open Go
section
variable {H:Type} {enc:TypeId×Value->H} {P:Program} {w w':World}
def Tl (w w':World):Prop:= ∀b,b<w.heap.size->w'.heap[b]? =w.heap[b]?
theorem Tl.cell (h:Tl w w') {a:Addr} {x:Value} (hc:w.cell? a=some x):w'.cell? a=some x:=by
 have hlt:a.block<w.heap.size:=by
  unfold World.cell? at hc;rcases Nat.lt_or_ge a.block w.heap.size with hl | hl
  ·exact hl
  ·simp [Array.getElem?_eq_none hl] at hc
 unfold World.cell? at hc⊢
 rw[h _ hlt];exact hc
theorem Ka {α β:Type} {f g:α->Option β}: ∀ {l:List α} {r:List β},l.mapM f=some r->(∀x∈l,∀y,f x=some y->y∈r->g x=some y)->l.mapM g=some r
 | [],r,h,_=>by simpa using h
 | x::l,r,h,hg=>by
  rw[List.mapM_cons] at h⊢
  simp only[Option.bind_eq_bind,Option.bind_eq_some_iff,Option.pure_def,Option.some.injEq] at h⊢
  obtain⟨y,hy,ys,hys,rfl⟩:=h;exact⟨y,hg x (by simp) y hy (by simp),ys,Ka hys (fun z hz u hu hm=>hg z (by simp [hz]) u hu (by simp [hm])),rfl⟩
theorem Tl.cells (h:Tl w w') {base:Nat} {a:Addr} {n:Nat} {cs:List Value} (hc:w.cells? base a n=some cs):w'.cells? base a n=some cs:=by
 unfold World.cells? at hc⊢
 split at hc
 ·rename_i hb;rw[if_pos hb];exact Ka hc fun i _ y hy _=>h.cell hy
 ·cases hc
structure Closed (P:Program) (T:TypeId->Prop):Prop where
 ptr: ∀t e,T t->P.underlying t=some (.pointer e)->T e
 slice: ∀t e,T t->P.underlying t=some (.slice e)->0<P.cellsOf e/\T e
 struct: ∀t fs,T t->P.underlying t=some (.struct fs)-> ∀f∈fs.toList,T f.type
 array: ∀t n e,T t->P.underlying t=some (.array n e)->T e
 iface: ∀t m,T t->P.underlying t≠some (.interface m)
 map: ∀t k e,T t->P.underlying t=some (.map k e)->T e
def Bw3 (P:Program) (ts:List TypeId):Bool:=ts.all fun t=>match P.underlying t with
 | some (.pointer e)=>ts.contains e
 | some (.slice e)=>decide (0<P.cellsOf e)&&ts.contains e
 | some (.struct fs)=>fs.toList.all fun f=>ts.contains f.type
 | some (.array _ e)=>ts.contains e
 | some (.interface _)=>false
 | some (.map _ e)=>ts.contains e
 | _=>true
theorem Ci4 {P:Program} {ts:List TypeId} (h:Bw3 P ts=true):Closed P (· ∈ts):=by
 unfold Bw3 at h;rw[List.all_eq_true] at h;refine⟨fun t e ht hu=> ?_,fun t e ht hu=> ?_,fun t fs ht hu=> ?_,fun t n e ht hu=> ?_,fun t m ht hu=> ?_,fun t k e ht hu=> ?_⟩;all_goals have h1:=h t ht;rw[hu] at h1
 ·simpa using h1
 ·simpa using h1
 ·intro f hf;simpa using List.all_eq_true.1 h1 f hf
 ·simpa using h1
 ·cases h1
 ·simpa using h1
theorem Ap4 (h:Tl w w') {T:TypeId->Prop} (hT:Closed P T) {base:Nat} {sp:Nat->Bool} {held:Bool}:
  ∀(Dz:Nat) (t:TypeId) (cs:List Value) (d:DataW H) (ps:List MemPlace),T t->DataW.trod enc P w base (fun _=>true) held Dz t cs=some (d,ps)->(∀p∈ps,sp p.block=true)->
   DataW.trod enc P w' base sp held Dz t cs=some (d,ps)
 | 0,_,_,_,_,_,hh,_=>by simp [DataW.trod] at hh
 | Dz+1,t,cs,d,ps,ht,hh,hp=>by
  have ih:= @Ap4 h T hT base sp held Dz;unfold DataW.trod at hh⊢
  split at hh<;>(try (first | exact hh | (simp at hh;done)))
  ·-- pointer
   rename_i e a hu
   simp only[Option.map_eq_some_iff,Option.bind_eq_some_iff,Prod.mk.injEq] at hh⊢
   obtain⟨x,⟨c,hc,hx⟩,rfl,rfl⟩:=hh;exact⟨x,⟨c,h.cells hc,ih _ _ x.1 x.2 (hT.ptr _ _ ht hu) hx fun p hpm=>hp p (by simp [hpm])⟩,rfl,rfl⟩
  ·-- slice
   rename_i e a len cap hu
   dsimp only at hh⊢
   split at hh
   ·rename_i hc
    rw[if_pos hc];simp only[Option.bind_eq_some_iff,Option.map_eq_some_iff,if_true,Prod.mk.injEq] at hh⊢
    obtain⟨elems,he,rest,hr,rfl,rfl⟩:=hh;have hp1: ∀y∈elems,∀p∈y.2,sp p.block=true:=fun y hy p hpm=>hp p (by
     simp only[List.mem_append,List.mem_flatMap];exact .inr ⟨y, .inl hy,hpm⟩)
    have hp2: ∀y∈rest,∀p∈y.2,sp p.block=true:=fun y hy p hpm=>hp p (by
     simp only[List.mem_append,List.mem_flatMap];exact .inr ⟨y, .inr hy,hpm⟩)
    refine⟨elems,Ka he (fun i _ y hy hym=> ?_),rest,?_,rfl,rfl⟩
    ·simp only[Option.bind_eq_some_iff] at hy⊢
     obtain⟨c,hc1,hc2⟩:=hy;exact⟨c,h.cells hc1,ih _ _ y.1 y.2 (hT.slice _ _ ht hu).2 hc2 (hp1 y hym)⟩
    ·have hr':(List.range (cap-len)).mapM (fun j=>(w'.cells? base (a.add ((len+j)*P.cellsOf e)) (P.cellsOf e)).bind (DataW.trod enc P w' base sp held Dz e))=some rest:=by
      refine Ka hr (fun i _ y hy hym=> ?_);simp only[Option.bind_eq_some_iff] at hy⊢
      obtain⟨c,hc1,hc2⟩:=hy;exact⟨c,h.cells hc1,ih _ _ y.1 y.2 (hT.slice _ _ ht hu).2 hc2 (hp2 y hym)⟩
     by_cases hsp:sp a.block=true
     ·rw[if_pos hsp];exact hr'
     ·rw[if_neg hsp];have hpos:=(hT.slice t e ht hu).1;have hlen:rest.length=0:=by
       rcases Nat.eq_zero_or_pos rest.length with h0 | h0
       ·exact h0
       ·exfalso;refine hsp (hp (.cell a.block a.off) ?_);refine List.mem_append_left _ ?_;unfold MemPlace.row;refine List.mem_map.2 ⟨0,List.mem_range.2 (Nat.mul_pos (by omega) hpos),by simp⟩
      rw[List.eq_nil_of_length_eq_zero hlen]
   ·cases hh
  ·-- struct
   rename_i fs hu
   split at hh
   ·rename_i hl
    rw[if_pos hl];simp only[Option.map_eq_some_iff,Prod.mk.injEq] at hh⊢
    obtain⟨xs,hx,rfl,rfl⟩:=hh;exact⟨xs,Ka hx (fun f hf y hy hym=>ih _ _ y.1 y.2 (hT.struct _ _ ht hu f hf) hy fun p hpm=>hp p (List.mem_flatMap.2 ⟨y,hym,hpm⟩)),rfl,rfl⟩
   ·cases hh
  ·-- array
   rename_i hu
   split at hh
   ·rename_i hl
    rw[if_pos hl];simp only[Option.map_eq_some_iff,Prod.mk.injEq] at hh⊢
    obtain⟨xs,hx,rfl,rfl⟩:=hh;exact⟨xs,Ka hx (fun f hf y hy hym=>ih _ _ y.1 y.2 (hT.array _ _ _ ht hu) hy fun p hpm=>hp p (List.mem_flatMap.2 ⟨y,hym,hpm⟩)),rfl,rfl⟩
   ·cases hh
  ·-- interface
   rename_i hu
   exact(hT.iface _ _ ht hu).elim
  ·-- map
   rename_i k e b hu
   split at hh
   ·rename_i es clock hb
    have hlt:b<w.heap.size:=(Array.getElem?_eq_some_iff.1 hb).1;rw[h b hlt,hb];dsimp only at hh⊢
    split at hh
    ·rename_i hc
     rw[if_pos hc];simp only[Option.bind_eq_some_iff] at hh⊢
     obtain⟨entries,he,hr⟩:=hh;split at hr
     ·rename_i hri
      simp only[Option.some.injEq,Prod.mk.injEq] at hr;obtain⟨rfl,rfl⟩:=hr;refine⟨entries,Ka he (fun x _ y hy hym=> ?_),by rw[if_pos hri]⟩;simp only[Option.bind_eq_some_iff] at hy⊢
      obtain⟨key,hk,hy⟩:=hy;refine⟨key,hk,?_⟩;split at hy
      ·rename_i hf
       rw[if_pos hf];simp only[Option.map_eq_some_iff] at hy⊢
       obtain⟨z,hz1,rfl⟩:=hy;exact⟨z,ih _ _ z.1 z.2 (hT.map _ _ _ ht hu) hz1 fun p hpm=>hp p (by
        simp only[List.mem_cons,List.mem_flatMap];exact .inr ⟨_,hym,hpm⟩),rfl⟩
      ·cases hy
     ·cases hr
    ·cases hh
   ·cases hh
theorem Trod.keep (h:Tl w w') {T:TypeId->Prop} (hT:Closed P T) {base:Nat} {sp:Nat->Bool} {held:Bool} {t:TypeId} {v:Value} {d:DataW H} {ps:List MemPlace}
  (ht:T t) (hh:DataW.Trod enc P w base (fun _=>true) held t v d ps) (hp: ∀p∈ps,sp p.block=true):DataW.Trod enc P w' base sp held t v d ps:=by
 obtain⟨Dz,hh⟩:=hh;exact⟨Dz,Ap4 h hT Dz _ _ _ _ ht hh hp⟩
theorem TrodAll.keep (h:Tl w w') {T:TypeId->Prop} (hT:Closed P T) {base:Nat} {sp:Nat->Bool} {held:Bool}:
  ∀ {ts:List TypeId} {vs:List Value} {ds:List (DataW H)} {ps:List MemPlace},(∀t∈ts,T t)->DataW.TrodAll enc P w base (fun _=>true) held ts vs ds ps->(∀p∈ps,sp p.block=true)->DataW.TrodAll enc P w' base sp held ts vs ds ps
 | [],[],[],_,_,hh,_=>hh
 | [],[],_::_,_,_,hh,_=>hh.elim
 | [],_::_,_,_,_,hh,_=>hh.elim
 | _::_,[],_,_,_,hh,_=>hh.elim
 | _::_,_::_,[],_,_,hh,_=>hh.elim
 | t::ts,v::vs,d::ds,_,ht,⟨p,q,h1,h2,rfl⟩,hp=>
  ⟨p,q,Trod.keep h hT (ht t (by simp)) h1 (fun x hx=>hp x (by simp [hx])),TrodAll.keep h hT (fun u hu=>ht u (by simp [hu])) h2 (fun x hx=>hp x (by simp [hx])),rfl⟩
end
end Go.Dl

-- THE READING, PART 2: what was read of the input is plain data, seen at the data level.
namespace Go.Dl
open Go Go.RowKit Go.Deep
def Dl3 (P:Program) (H:Type) (w:World) (t:TypeId) (α:Type) (f:α->List DVal) (g:α->DataW H->Prop):Prop:=
 ∀(enc:TypeId×Value->H) base sp held Dz cs d ps,DataW.trod enc P w base sp held Dz t cs=some (d,ps)-> ∃x,g x d/\Ap w (fun _=>none) (f x) cs
section
variable {P:Program} {H:Type} {w:World}
theorem Ai1 {α β:Type} {f:α->Option β}: ∀ {l:List α} {r:List β},l.mapM f=some r->r.length=l.length/\ ∀(i:Nat) (x:α),l[i]? =some x-> ∃y,r[i]? =some y/\f x=some y
 | [],r,h=>by simp at h;subst h;simp
 | x::l,r,h=>by
  rw[List.mapM_cons] at h;simp only[Option.bind_eq_bind,Option.bind_eq_some_iff,Option.pure_def,Option.some.injEq] at h;obtain⟨y,hy,ys,hys,rfl⟩:=h;obtain⟨h1,h2⟩:=Ai1 hys;refine⟨by simp [h1],fun i z hz=> ?_⟩;cases i with
  | zero=>simp at hz;subst hz;exact⟨y,rfl,hy⟩
  | succ i=>simp at hz;obtain⟨u,hu,hf⟩:=h2 i z hz;exact⟨u,by simpa using hu,hf⟩
theorem Xn {t:TypeId} {k:IntKind} (ht:P.underlying t=some (.int k)):Dl3 P H w t Int (fun n=> [.int k n]) (fun n d=>(Lit.int k n).wf=true/\d= .lit (.int k n)):=by
 intro enc base sp held Dz cs d ps h;cases Dz with
 | zero=>simp [DataW.trod] at h
 | succ Dz=>
  unfold DataW.trod at h;rw[ht] at h;split at h<;>simp_all;obtain⟨⟨rfl,hw⟩,rfl,rfl⟩:=h;exact⟨_,⟨hw,rfl⟩,by simp [Ap,Rel]⟩
end
end Go.Dl

-- THE READING, PART 3: a law's call at the data level, as the row wants it.
namespace Go.Dl
open Go Go.RowKit
section
variable {P:Program} {w:World}
theorem Ext.stands {w':World} {H':Ab} (h:Ext (fun _=>none) w H' w'):Tl w w':=fun b hb=>h.block b hb rfl
def Cx4 (W w':World):Prop:=W.keptBut w' (fun _=>False)/\(∀a,a.block<W.heap.size->w'.frozen? a=W.frozen? a)/\W.heap.size<=w'.heap.size
theorem Cx4.frame {W w':World} (h:Cx4 W w') (may:MemPlace->Prop):W.keptBut w' may:=World.keptBut_mono (fun _ f=>f.elim) h.1
theorem Ext.grown {w':World} {H':Ab} (h:Ext (fun _=>none) w H' w'):Cx4 w w':=by
 refine⟨⟨h.os,h.output,fun i hi=> ?_⟩,fun a ha=>h.fz a ha rfl,h.size⟩;rw[h.block i hi rfl];cases ho:w.heap[i]? with
 | none=>simp
 | some o=>cases o<;>simp
theorem Av0 (w:World):Au w (fun _=>none):=fun r o h=>by cases h
theorem Ah.row {G:Nat->DVal} {f:FuncId} {args:List DVal} {vs:Array Value} (h:Ah P G f args (fun _=>none) (fun e _=>e= .ret (.bool true))) (hv:Ap w (fun _=>none) args vs.toList) (hG:GOk G w (fun _=>none)):
  Calls P f vs w fun e W'=>e= .returned (.bool true)/\Cx4 w W'/\Tl w W':=by
 have:=h.2 vs.toList w hv (Av0 w) hG;simp only[Array.toArray_toList] at this;refine this.mono fun e w' ⟨e',H',he,hr,_,hE⟩=> ?_;subst he;cases hr with
 | ret d v hv=>simp only[Rel] at hv;subst hv;exact⟨rfl,hE.grown,hE.stands⟩
theorem Ap.cons {Hp:Ab} {d:DVal} {v:Value} {ds:List DVal} {vs:List Value} (h:Rel w Hp d v) (k:Ap w Hp ds vs):Ap w Hp (d::ds) (v::vs):=by
 simp only[Ap];exact⟨v,vs,rfl,h,k⟩
theorem Ap.one {Hp:Ab} {d:DVal} {v:Value} (h:Ap w Hp [d] [v]):Rel w Hp d v:=by
 simp only[Ap] at h;obtain⟨y,ys,h1,h2,_⟩:=h;cases h1;exact h2
end
end Go.Dl
namespace Go.ChangeShapes
open Go.WideShapes
section
variable {H:Type} {enc:TypeId×Value->H} {P:Program}
theorem Bf3 {f:Func} {s:ChangeSpec} {apart fresh handsOn Di8:Bool} {W W':World} {args:Array Value} {v:Value} {ds gs:List (DataW H)} {before pa pv:List MemPlace}
  (hW:DataW.Whole enc P f.params.toList s.vars apart W args.toList ds gs before)
  (hres: ∀(b:Nat) (sp:Nat->Bool) (hd:Bool),DataW.TrodAll enc P W' b sp hd f.resultTypes.toList (v.resultList f.resultTypes.size) (s.fn H (ds++gs)).results [])
  (hargs: ∀sp:Nat->Bool,(∀p∈before,sp p.block=true)->DataW.TrodAll enc P W' 0 sp true f.params.toList args.toList (s.fn H (ds++gs)).args pa)
  (hvars: ∀sp:Nat->Bool,(∀p∈before,sp p.block=true)->DataW.TrodVars enc P W' sp s.vars (s.fn H (ds++gs)).vars pv)
  (hps:before=pa++pv) (hk:W.keptBut W' (· ∈before)) (hfz: ∀a,a.block<W.heap.size->W'.frozen? a=W.frozen? a)
  (hok: ∀(j:Nat) (t:TypeId) (r:Value),f.resultTypes[j]? =some t->(v.resultList f.resultTypes.size)[j]? =some r->Value.okWide P W' .any 0 t r):
  s.post enc P f apart fresh handsOn Di8 W args v W':=by
 have hlt:=hW.lt;have hold: ∀p∈before,(fun b=>decide (b<W.heap.size)) p.block=true:=fun p hp=>by simpa using hlt p hp
 refine⟨ds,gs,before,[],pa,pv,hW,hres _ _ _,hargs _ hold,hvars _ hold,World.keptBut_mono (fun p hp=>⟨hp, .inr (List.mem_append.1 (hps▸hp))⟩) hk,fun _=> ?_⟩;obtain⟨_,_,_,_,_,hz,hn⟩:=hW;refine⟨hok,_,_,([]++pa)++pv,⟨[]++pa,pv,trodAll_append (hargs _ (fun _ _=>rfl)) (hres _ _ _),hvars _ (fun _ _=>rfl),rfl,?_,?_⟩,?_⟩
 ·intro b off hp;have hp':MemPlace.cell b off∈before:=by rw[hps];simpa using hp
  exact(hfz _ (hlt _ hp')).trans (hz b off hp')
 ·intro ha;have:=hn ha;rw[hps] at this;simpa using this
 ·intro p hp _;rw[hps];simpa using hp
end
end Go.ChangeShapes

-- THE READING, PART 4: an argument, as the data level sees it; a law's contract.
namespace Go.Dl
open Go Go.RowKit
section
variable {P:Program} {H:Type} {w:World}
theorem Av1 {r:Reach} {base:Nat} {t:TypeId} {v:Value} {d:TypeDesc} (hu:P.underlying t=some d) (hd:(∃e,d= .slice e)\/(∃k,d= .int k)\/d= .bool\/d= .string) (h:Value.okWide P w r base t v):v.cells= #[v]:=by
 unfold Value.okWide at h;rw[hu] at h;cases v<;>first | rfl | skip
 rename_i xs
 rcases hd with⟨e,rfl⟩ | ⟨k,rfl⟩ | rfl | rfl<;>(unfold Cell.okWide at h;rw[hu] at h;simp [Cell.ok,hu] at h)
theorem Tm {r:Reach} {base:Nat} {t:TypeId} {k:IntKind} {v:Value} (hu:P.underlying t=some (.int k)) (h:Value.okWide P w r base t v):v.cells= #[v]:=Av1 hu (.inr (.inl ⟨_,rfl⟩)) h
theorem Bq5 {t:TypeId} {α:Type} {f:α->DVal} {g:α->DataW H->Prop} (hr:Dl3 P H w t α (fun x=> [f x]) g) {enc:TypeId×Value->H} {base:Nat} {sp:Nat->Bool} {held:Bool} {v:Value} {d:DataW H} {ps:List MemPlace}
  (h:DataW.Trod enc P w base sp held t v d ps) (hv:v.cells= #[v]): ∃x,g x d/\Rel w (fun _=>none) (f x) v:=by
 obtain⟨Dz,h⟩:=h;rw[hv] at h;obtain⟨x,hg,hx⟩:=hr _ _ _ _ _ _ _ _ h;exact⟨x,hg,hx.one⟩
end
end Go.Dl

-- THE READING, PART 5: the bound on what is read, at plain data.
namespace Go.Dl
open Go Go.RowKit Go.Proofs.YtkieniphnglaaaaGreatDoor
section
variable {H:Type}
theorem Bq6 {l:List (DataW H)} (h:Rows.uptoSmall H l=true):Rows.uptoBulkAll l<=1048576:=of_decide_eq_true h
end
section
end
end Go.Dl

-- THE READING, PART 6: slices of any kind of int, structs.
namespace Go.Dl
open Go Go.RowKit Go.Proofs.YtkieniphnglaaaaGreatDoor
theorem Bq7 {k:IntKind} {n:Int} (h:(Lit.int k n).wf=true):k.min<=n/\n<=k.max:=by
 simpa [Lit.wf] using h
section
end
end Go.Dl

-- THE READING, PART G: the package's variables that a row lists ('laid'), as the data level sees them.
namespace Go.Dl
open Go Go.RowKit
def Rz:DataW Unit->Bool
 | .lit (.bool _)=>true
 | .lit (.int _ _)=>true
 | .lit (.string _)=>true
 | .agg ds=>litsBs ds
 | _=>false
where litsBs:List (DataW Unit)->Bool
 | []=>true
 | d::ds=>Rz d&&litsBs ds
def Di:DataW Unit->List Value
 | .lit (.bool b)=> [.bool b]
 | .lit (.int k n)=> [.int k n]
 | .lit (.string s)=> [.string ⟨⟨s⟩⟩]
 | .agg ds=>litCellss ds
 | _=> []
where litCellss:List (DataW Unit)->List Value
 | []=> []
 | d::ds=>Di d++litCellss ds
theorem Ai2 {ds:List (DataW Unit)}:Rz.litsBs ds=true↔ ∀d∈ds,Rz d=true:=by
 induction ds with
 | nil=>simp [Rz.litsBs]
 | cons d ds ih=>simp [Rz.litsBs,ih]
theorem Vk (ds:List (DataW Unit)):Di.litCellss ds=ds.flatMap Di:=by
 induction ds with
 | nil=>rfl
 | cons d ds ih=>simp [Di.litCellss,ih]
theorem Bq8 {α:Type} (cs:List α) (off size:Nat->Nat): ∀(n:Nat),(∀j,j<n->off (j+1)=off j+size j)->off 0=0->off n<=cs.length->(List.range n).flatMap (fun j=>(cs.drop (off j)).take (size j))=cs.take (off n)
 | 0,_,h0,_=>by simp [h0]
 | n+1,h,h0,hn=>by
  have hs:=h n (by omega);rw[List.range_succ,List.flatMap_append,Bq8 cs off size n (fun j hj=>h j (by omega)) h0 (by omega),hs];simp only[List.flatMap_cons,List.flatMap_nil,List.append_nil];rw[List.take_add]
theorem Ai3 {α β:Type} (xs:List α) (g:α->List β) (f:Nat->List β) (n:Nat) (hn:xs.length=n) (h: ∀(j:Nat) (x:α),xs[j]? =some x->f j=g x):(List.range n).flatMap f=xs.flatMap g:=by
 rw[List.flatMap_def,List.flatMap_def];congr 1;apply List.ext_getElem?;intro j;simp only[List.getElem?_map];by_cases hj:j<n
 ·rw[List.getElem?_eq_getElem (by omega:j<xs.length),List.getElem?_range hj];simp only[Option.map_some];rw[h j xs[j] (List.getElem?_eq_getElem (by omega))]
 ·rw[List.getElem?_eq_none (by omega:xs.length<=j),List.getElem?_eq_none (by simp;omega)];rfl
section
variable {P:Program} {w:World}
theorem Xo (hl:laidOutB P=true) {base:Nat} {sp:Nat->Bool}: ∀(Dz:Nat) (t:TypeId) (cs:List Value) (d:DataW Unit) (ps:List MemPlace),isVar P t=true->Rz d=true->
  DataW.trod (fun _=>()) P w base sp false Dz t cs=some (d,ps)->cs=Di d
 | 0,_,_,_,_,_,_,h=>by simp [DataW.trod] at h
 | Dz+1,t,cs,d,ps,hv,hd,h=>by
  have ih:= @Xo hl base sp Dz;have hlt:t<P.types.size:=by simp only[isVar,Bool.and_eq_true,decide_eq_true_eq] at hv;exact hv.1
  have hrow:=rowFine_of_laidOut hl hlt;simp only[rowFine,hv,Bool.not_true,Bool.false_or] at hrow;unfold DataW.trod at h;split at h<;>(try (simp at h;done))
  ·simp only[Option.some.injEq,Prod.mk.injEq] at h;obtain⟨rfl,rfl⟩:=h;rfl
  ·split at h
   ·rename_i hk
    obtain⟨rfl,_⟩:=hk;simp only[Option.some.injEq,Prod.mk.injEq] at h;obtain⟨rfl,rfl⟩:=h;rfl
   ·cases h
  ·split at h
   ·simp only[Option.some.injEq,Prod.mk.injEq] at h;obtain⟨rfl,rfl⟩:=h;cases hd
   ·cases h
  ·split at h
   ·simp only[Option.some.injEq,Prod.mk.injEq] at h;obtain⟨rfl,rfl⟩:=h;simp [Di]
   ·cases h
  ·simp only[Option.some.injEq,Prod.mk.injEq] at h;obtain⟨rfl,rfl⟩:=h;cases hd
  ·simp only[Option.map_eq_some_iff,Prod.mk.injEq] at h;obtain⟨_,_,rfl,_⟩:=h;cases hd
  ·simp only[Option.some.injEq,Prod.mk.injEq] at h;obtain⟨rfl,rfl⟩:=h;cases hd
  ·dsimp only at h;split at h
   ·simp only[Option.bind_eq_some_iff,Option.map_eq_some_iff,Prod.mk.injEq] at h;obtain⟨_,_,_,_,rfl,_⟩:=h;cases hd
   ·cases h
  ·rename_i cs _ _ fs hu
   rw[hu] at hrow;simp only[Bool.and_eq_true,beq_iff_eq,List.all_eq_true] at hrow;obtain⟨⟨hf,hsum⟩,hoff⟩:=hrow;split at h
   ·rename_i hcl
    simp only[Option.map_eq_some_iff,Prod.mk.injEq] at h;obtain⟨xs,hx,rfl,rfl⟩:=h;obtain⟨hxl,hxg⟩:=Ai1 hx;simp only[Rz,Ai2] at hd;have key: ∀(j:Nat) (f:Field) (x:DataW Unit×List MemPlace),fs.toList[j]? =some f->xs[j]? =some x->(cs.drop f.offset).take (P.cellsOf f.type)=Di x.1:=by
     intro j f x hjf hjx;obtain⟨y,hy,hfy⟩:=hxg j f hjf;rw[hjx] at hy;cases hy;exact ih _ _ x.1 x.2 (hf f (List.mem_of_getElem? hjf)) (hd _ (List.mem_map.2 ⟨x,List.mem_of_getElem? hjx,rfl⟩)) hfy
    have hp:=Bq8 cs (fun j=>((fs.toList.take j).map fun f=>P.cellsOf f.type).sum) (fun j=>(fs.toList[j]?).elim 0 fun f=>P.cellsOf f.type) fs.toList.length (fun j hj=>by
     rw[List.take_succ_eq_append_getElem hj];simp [List.getElem?_eq_getElem hj]) (by simp) (by rw[List.take_length,hcl,hsum];omega)
    simp only[List.take_length,<-hsum,<-hcl] at hp;rw[<-hp];simp only[Di,Vk,List.flatMap_map];refine Ai3 xs _ _ _ hxl fun j x hjx=> ?_;have hjx':j<xs.length:=(List.getElem?_eq_some_iff.1 hjx).1;have hj':j<fs.toList.length:=by omega
    have h1:=hoff j (List.mem_range.2 hj');rw[List.getElem?_eq_getElem hj'] at h1;simp only[beq_iff_eq] at h1;have h2:=key j fs.toList[j] x (List.getElem?_eq_getElem hj') hjx;rw[h1] at h2;simp only[List.getElem?_eq_getElem hj',Option.elim_some];exact h2
   ·cases h
  ·rename_i cs _ _ n e hu
   rw[hu] at hrow;simp only[Bool.and_eq_true,beq_iff_eq] at hrow;obtain⟨hf,hsum⟩:=hrow;split at h
   ·rename_i hcl
    simp only[Option.map_eq_some_iff,Prod.mk.injEq] at h;obtain⟨xs,hx,rfl,rfl⟩:=h;obtain⟨hxl,hxg⟩:=Ai1 hx;rw[List.length_range] at hxl;simp only[Rz,Ai2] at hd;have hp:=Bq8 cs (fun j=>j*P.cellsOf e) (fun _=>P.cellsOf e) n (fun j _=>Nat.succ_mul j _) (by simp) (by rw[hcl,hsum];exact Nat.le_refl _);rw[List.take_of_length_le (by rw[hcl,hsum];exact Nat.le_refl _)] at hp;rw[<-hp];simp only[Di,Vk,List.flatMap_map];refine Ai3 xs _ _ _ hxl fun j x hjx=> ?_;have hjx':j<xs.length:=(List.getElem?_eq_some_iff.1 hjx).1;obtain⟨y,hy,hfy⟩:=hxg j j (by rw[List.getElem?_range (by omega)]);rw[hjx] at hy;cases hy;exact ih _ _ _ _ hf (hd _ (List.mem_map.2 ⟨x,List.mem_of_getElem? hjx,rfl⟩)) hfy
   ·cases h
  ·simp only[Option.some.injEq,Prod.mk.injEq] at h;obtain⟨rfl,rfl⟩:=h;cases hd
  ·split at h
   ·rename_i e;cases e
   ·simp only[Option.map_eq_some_iff,Prod.mk.injEq] at h;obtain⟨_,_,rfl,_⟩:=h;cases hd
   ·cases h
  ·simp only[Option.some.injEq,Prod.mk.injEq] at h;obtain⟨rfl,rfl⟩:=h;cases hd
  ·split at h
   ·dsimp only at h;split at h
    ·simp only[Option.bind_eq_some_iff] at h;obtain⟨_,_,h⟩:=h;split at h
     ·simp only[Option.some.injEq,Prod.mk.injEq] at h;obtain⟨rfl,rfl⟩:=h;cases hd
     ·cases h
    ·cases h
   ·cases h
  ·simp only[Option.some.injEq,Prod.mk.injEq] at h;obtain⟨rfl,rfl⟩:=h;cases hd
  ·simp only[Option.some.injEq,Prod.mk.injEq] at h;obtain⟨rfl,rfl⟩:=h;cases hd
  ·simp only[Option.some.injEq,Prod.mk.injEq] at h;obtain⟨rfl,rfl⟩:=h;cases hd
theorem Av2: ∀ {laid:List (String×DataW Unit)} {n:String} {d:DataW Unit},laidMet P laid w->(n,d)∈laid->
  ∃g t cs Dz p,P.globalNamed n=some g/\(P.globals[g]?).map (·.type)=some t/\w.var? P n=some cs/\DataW.trod (fun _=>()) P w 0 (fun _=>true) false Dz t cs.toList=some (d,p)/\
   ∀u v,w.cell? ⟨g,0,none⟩=some (.iface u v)->0<cs.size->Value.okWide P w .any 0 u v
 | [],_,_,_,hm=>by cases hm
 | x::laid,n,d,h,hm=>by
  rcases List.mem_cons.1 hm with rfl | hm
  ·obtain⟨ps,⟨g,t,cs,Dz,p,q,h1,h2,h3,h4,h5,h6⟩,_,h8⟩:=h;refine⟨g,t,cs,Dz,p,h1,h2,h3,h4,fun u v hc hz=>(h8 g 0 ?_).2 u v hc⟩;rw[h6];refine List.mem_append_left _ (List.mem_append_left _ ?_);unfold MemPlace.row;exact List.mem_map.2 ⟨0,List.mem_range.2 hz,by simp⟩
  ·exact Av2 h.tail hm
def Dv4 (v:Value):Prop:=(∃b,v= .bool b)\/(∃k n,v= .int k n)\/ ∃s:List UInt8,v= .string ⟨⟨s⟩⟩
mutual
theorem Bf4: ∀(d:DataW Unit),Rz d=true-> ∀v∈Di d,Dv4 v
 | .lit (.bool b),_,v,hv=>by simp [Di] at hv;exact .inl ⟨b,hv⟩
 | .lit (.int k n),_,v,hv=>by simp [Di] at hv;exact .inr (.inl ⟨k,n,hv⟩)
 | .lit (.string s),_,v,hv=>by simp [Di] at hv;exact .inr (.inr ⟨s,hv⟩)
 | .agg ds,h,v,hv=>Ap5 ds (by simpa [Rz] using h) v (by simpa [Di] using hv)
 | .lit (.float _ _),h,_,_=>by cases h
 | .nil,h,_,_=>by cases h
 | .ptr _,h,_,_=>by cases h
 | .slice _ _,h,_,_=>by cases h
 | .iface _ _,h,_,_=>by cases h
 | .map _,h,_,_=>by cases h
 | .held _,h,_,_=>by cases h
theorem Ap5: ∀(ds:List (DataW Unit)),Rz.litsBs ds=true-> ∀v∈Di.litCellss ds,Dv4 v
 | [],_,v,hv=>by simp [Di.litCellss] at hv
 | d::ds,h,v,hv=>by
  simp only[Rz.litsBs,Bool.and_eq_true] at h
  simp only[Di.litCellss,List.mem_append] at hv
  rcases hv with hv | hv
  ·exact Bf4 d h.1 v hv
  ·exact Ap5 ds h.2 v hv
end
theorem Cx5 {Hp:Ab}: ∀(d:DataW Unit),Rz d=true->Ap w Hp (Fp (Di d)) (Di d):=by
 have all: ∀(vs:List Value),(∀v∈vs,(∃b,v= .bool b)\/(∃k n,v= .int k n)\/ ∃s:List UInt8,v= .string ⟨⟨s⟩⟩)->Ap w Hp (Fp vs) vs:=by
  intro vs
  induction vs with
  | nil=>intro _;simp [Fp,Ap]
  | cons v vs ih=>
   intro h;simp only[Fp,Ap];refine⟨v,vs,rfl,?_,ih fun x hx=>h x (by simp [hx])⟩;rcases h v (by simp) with⟨b,rfl⟩ | ⟨k,n,rfl⟩ | ⟨s,rfl⟩<;>simp [Cx,Rel]
 exact fun d h=>all _ (Bf4 d h)
theorem Cx6 {laid:List (String×DataW Unit)} {n:String} {d:DataW Unit} {g:Nat} (hl:laidOutB P=true) (h:laidMet P laid w) (hm:(n,d)∈laid) (hd:Rz d=true) (hg:P.globalNamed n=some g)
  (hgt:isVar P (((P.globals[g]?).map (·.type)).getD 0)=true):Rel w (fun _=>none) (.vptr (Fp (Di d)) 0) (.pointer (some ⟨g,0,none⟩)):=by
 obtain⟨g',t,cs,Dz,p,h1,h2,h3,h4,_⟩:=Av2 h hm;rw[hg] at h1;cases h1;rw[h2] at hgt;have hc:=Xo hl Dz t cs.toList d p hgt hd h4;simp only[Rel];refine⟨g,0,cs.toList,rfl,?_,by rw[hc];exact Cx5 d hd⟩;refine .inr ⟨rfl,fun i x hx=> ?_⟩;have:=World.var?_cell hg h3 i;rw[Nat.zero_add,this];simpa using hx
end
end Go.Dl

-- That no place of laid variables stands twice, found in one pass.
namespace Go.Dl
open Go Go.RowKit
def Nw:List MemPlace->Nat->Bool
 | [],_=>true
 | .cell b off::l,m=>decide (off<1024)&&!(m.testBit (b*1024+off))&&Nw l (m ||| 1<<<(b*1024+off))
 | .map _::_,_=>false
theorem Bw4 {m k n:Nat} (h:(m ||| 1<<<k).testBit n=false):m.testBit n=false/\n≠k:=by
 rw[Nat.testBit_or,Bool.or_eq_false_iff] at h;refine⟨h.1,fun e=> ?_⟩;subst e;have:=h.2;rw[Nat.testBit_shiftLeft] at this;simp at this
theorem Vl: ∀(l:List MemPlace) (m:Nat),Nw l m=true->l.Nodup/\ ∀p∈l,∃b off,p= .cell b off/\off<1024/\m.testBit (b*1024+off)=false
 | [],_,_=>⟨List.nodup_nil,fun p hp=>by cases hp⟩
 | .map _::_,_,h=>by simp [Nw] at h
 | .cell b off::l,m,h=>by
  simp only[Nw,Bool.and_eq_true,decide_eq_true_eq,Bool.not_eq_true'] at h;obtain⟨⟨h1,h2⟩,h3⟩:=h;obtain⟨k1,k2⟩:=Vl l _ h3;refine⟨List.nodup_cons.2 ⟨fun hm=> ?_,k1⟩,fun p hp=> ?_⟩
  ·obtain⟨b',off',e,_,h5⟩:=k2 _ hm;cases e;exact(Bw4 h5).2 rfl
  ·rcases List.mem_cons.1 hp with rfl | hp
   ·exact⟨b,off,rfl,h1,h2⟩
   ·obtain⟨b',off',e,h4,h5⟩:=k2 _ hp;exact⟨b',off',e,h4,(Bw4 h5).1⟩
theorem Av3 {P:Program} {w:World} {l:List (String×DataW Unit)} (Dz:Nat) (h:(DataW.laidRun P w Dz (l.map (·.1))).map (·.1)=some l)
  (hr:(DataW.laidRun P w Dz (l.map (·.1))).map (fun x=>Nw x.2 0&&laidRowsB P w x.2)=some true):laidMet P l w:=by
 cases hx:DataW.laidRun P w Dz (l.map (·.1)) with
 | none=>simp [hx] at h
 | some x=>
  obtain⟨l',ps⟩:=x;simp only[hx,Option.map_some,Option.some.injEq] at h hr;subst h;simp only[Bool.and_eq_true] at hr;exact laidMet_of_run Dz hx (decide_eq_true (Vl _ _ hr.1).1) hr.2
end Go.Dl

-- Chapter 3: the reading of the package's variables; a world in which they hold what their text lays.
namespace Go.Dl
open Go Go.RowKit Go.Proofs Go.Proofs.YtkieniphnglaaaaGreatDoor
set_option maxRecDepth 100000
theorem Bw5:laidOutB Tryz.prog=true:=by kernel_rfl
theorem Bq9 {P:Program} {w:World} {laid:List (String×DataW Unit)} {n:String} {d:DataW Unit} {g:Nat} (hl:laidOutB P=true) (h:laidMet P laid w) (hm:(n,d)∈laid) (hd:Rz d=true) (hg:P.globalNamed n=some g)
  (hgt:isVar P (((P.globals[g]?).map (·.type)).getD 0)=true):Jj w.heap[g]? =some (Di d).length:=by
 obtain⟨g',t,cs,Dz,p,h1,h2,h3,h4,_⟩:=Av2 h hm;rw[hg] at h1;cases h1;rw[h2] at hgt;have hc:=Xo hl Dz t cs.toList d p hgt hd h4;unfold World.var? at h3;rw[hg] at h3;simp only[Option.bind_some] at h3;split at h3
 ·rename_i c t' fz ho
  cases h3;rw[ho];simp only[Jj,Option.some.injEq];rw[<-hc,Array.length_toList]
 ·cases h3
theorem Sa: ∀l:List Value,(Fp l).length=l.length
 | []=>rfl
 | _::l=>by simp [Fp,Sa l]
theorem Dh6:Fp (Di Rows.laid_strings_asciiSpace)=Lib.asciiSpaceTab.map fun z=>DVal.int .u8 z:=by kernel_rfl
section
end
noncomputable def Dv5 (h:Array Obj) (g:Nat) (cs:Array Value):Array Obj:=h.modify g fun
 | .cells _ t frozen=> .cells cs t frozen
 | o=>o
theorem Dv6 {laid:List (String×DataW Unit)} {W:World} (hL:laidMetH Tryz.prog laid W) (hs:W.ShapedOpen Tryz.prog) (hh:(laid.filter fun x=>x.2.handleName?.isSome)= [])
  (m5:("strings.asciiSpace",Rows.laid_strings_asciiSpace)∈laid): ∃G,GX G/\GOk G W (fun _=>none):=by
 have hL':laidMet Tryz.prog laid W:=by
  unfold laidMetH at hL;rw[hh] at hL;exact hL
 have r5:=Cx6 Bw5 hL' m5 (by kernel_rfl) (show Tryz.prog.globalNamed "strings.asciiSpace" =some 1 by kernel_rfl) (by kernel_rfl);have x5:=Bq9 Bw5 hL' m5 (by kernel_rfl) (show Tryz.prog.globalNamed "strings.asciiSpace" =some 1 by kernel_rfl) (by kernel_rfl);refine⟨fun g=>if g=1 then .vptr (Fp (Di Rows.laid_strings_asciiSpace)) 0 else .optr g 0,⟨by simp [Dh6]⟩,⟨fun g=> ?_,fun g cs e=> ?_⟩⟩
 ·show Rel W _ (if g=_ then _ else _) _;split
  ·rename_i e;subst e;exact r5
  ·simp [Rel]
 ·change (if g=_ then _ else _)=_ at e;split at e
  ·rename_i e';subst e';cases e;rw[x5,Sa]
  ·cases e
noncomputable def Av4 (os:Os):World:=
 let N:=(World.settled Tryz.prog os).heap.size
 let w0:=World.holding Tryz.prog os ⟨#[.cells #[.slice (some ⟨N+1,0,none⟩) 7 7, .slice none 0 0, .int .i64 2] 391,
  .cells (#[9,13,1,32,133,101,160,5760,5600,8192,8202,1,8232,8233,1,8239,8287,48,12288,12288,1].map (Value.int .u16)) 394], #[],[]⟩
 let h9:=Dv5 w0.heap 1 (Di Rows.laid_strings_asciiSpace).toArray
 let ha:=Dv5 h9 2 #[.pointer (some ⟨N,0,none⟩)]
 { w0 with heap:=ha }
section
end
end Go.Dl

-- Chapter 3: what Front answers to the tokens of an expression.
namespace Go.Dl
open Go
set_option maxRecDepth 10000
theorem Bw6 {α β:Type} {f:α->β} {r:Res α} {r':Res β} {y:β} {k:Nat} (h:Nt f r r') (e:r'= .ok y k): ∃x,r= .ok x k/\f x=y:=by
 cases r with
 | bot=>rw[show r'= .bot from h] at e;cases e
 | fail j=>rw[show r'= .fail j from h] at e;cases e
 | ok x j=>
  rw[show r'= .ok (f x) j from h] at e;cases e;exact⟨x,rfl,rfl⟩
section
variable {l:List Tok} {e:Ex} {k':Nat}
theorem Bw7 (j:Nat):Nt stE (Ox l j) (Ox (l.map stT) j):=by
 have h:=Du7 (l:=l);unfold Ox;split
 ·exact h.expr 0
 ·exact By (h.simple 0) fun x k=>h.relation x k
 ·exact h.simple 0
 ·exact h.term 0
 ·exact h.factor 0
 ·exact h.primary 0
 ·exact h.name 0
theorem Dr3 (r:Rd l (Q l) e 0 k') (h:nof w0 (tk l k')) (j:Nat) (hj:(j:Int)<=Ak e\/j=6/\Az e=true):Ox l j= .ok (stE e) k':=by
 have h1:=s10 h;have hg:=Kk e;by_cases c6:j=6
 ·subst c6;rcases hj with hj | ⟨_,hn⟩
  ·omega
  ·show(Q l).name 0=_;rw[r.name hn,Xg r.le.2 (Fo h (by decide))]
 ·have hj:(j:Int)<=Ak e:=hj.resolve_right fun x=>c6 x.1;have hc:j=0\/j=1\/j=2\/j=3\/j=4\/j=5:=by omega
  rcases hc with rfl | rfl | rfl | rfl | rfl | rfl
  ·exact r.full h
  ·exact r.rel hj (sd1 h1) fun _=>h1
  ·show(Q l).simple 0=_;rw[r.simp hj (s31 h1),Rn r.le.2 (Fo h (by decide))]
  ·show(Q l).term 0=_;rw[r.term hj (Fo h (by decide)),Rm r.le.2 (s31 h1)]
  ·exact r.fac hj (Fo h (by decide))
  ·exact r.prim (by omega) (Fo h (by decide))
theorem Cx7 {rest:List Tok} (hv:Cv 1 e=true) (hl:l.map stT=Ag e++rest) (hn:nof w0 (tk l (Ag e).length)) (j:Nat) (hj:(j:Int)<=Ak e\/j=6/\Az e=true):
  ∃x,Ox l j= .ok x (Ag e).length/\stE x=stE e:=by
 have hz: ∀k,(tk (l.map stT) k).line=0:=fun k=>Gg k;have hat:At (l.map stT) 0 (Ag e):=⟨Nat.zero_le _,rest,by rw[List.drop_zero,hl]⟩;have r:=Bp7 (p:=Q (l.map stT)) hz e 1 hv 0 hat;rw[Nat.zero_add] at r;exact Bw6 (Bw7 j) (Dr3 r (by rw[Be5];exact hn) j hj)
theorem Br0 {rest:List Tok} (hm:Ko e=true) (hl:l.map stT=Ag e++rest) (hn:nof w0 (tk l (Ag e).length)) (j:Nat) (hj:(j:Int)<=Ak e\/j=6/\Az e=true):
  ∃x,Du l j=(x,((Ag e).length:Int),0)/\stE x=stE e:=by
 obtain⟨x,h1,h2⟩:=Cx7 (Rp hm) hl hn j hj;have hj7: ¬((j:Int)<0\/7<=(j:Int)):=by have:=(Kk e).2;omega
 refine⟨x,?_,h2⟩;rw[Du,if_neg hj7,Int.toNat_natCast,h1];show(if Ko x=true then _ else _)=_;rw[if_pos (by rw[Be4 h2,hm])]
theorem Vm {x y:Ex} (h:stE x=stE y):Jl x y=true:=(Ag6 x y).2 h
end
end Go.Dl

-- Chapter 3: ExprBack.
namespace Go.Dl
open Go Go.Proofs
set_option maxRecDepth 100000
def fT (ts:List Tok):Prop:= ∀t∈ts,t.text.length<=9223372036854775807
theorem Bw8 {t:Tok} {ts:List Tok} (h:t.text.length<=9223372036854775807) (k:fT ts):fT (t::ts):=fun x hx=>by
 rcases List.mem_cons.1 hx with rfl | hx
 ·exact h
 ·exact k x hx
theorem Xp {a b:List Tok} (h:fT a) (k:fT b):fT (a++b):=fun x hx=>by
 rcases List.mem_append.1 hx with hx | hx
 ·exact h x hx
 ·exact k x hx
theorem Cx8 {l:List Tok} (h:fT l):Tc l:=fun k=>by
 rw[tk,List.getD];cases hk:l[k]? with
 | none=>decide
 | some t=>exact h t (List.mem_of_getElem? hk)
mutual
theorem Zm: ∀e:Ex,Cp (stE e)=Cp e
 | .mk k o n s l a li en t=>by rw[stE,Cp,Cp,Av5 l,Bf5 a]
theorem Av5: ∀l:List Ex,Ho (stL l)=Ho l
 | []=>rfl
 | x::l=>by rw[stL,Ho,Ho,Zm x,Av5 l]
theorem Dh7: ∀a:As,Ma (stA a)=Ma a
 | .mk c e=>by rw[stA,Ma,Ma,Bf6 c,Zm e]
theorem Bf5: ∀l:List As,Dg (Wz l)=Dg l
 | []=>rfl
 | x::l=>by rw[Wz,Dg,Dg,Dh7 x,Bf5 l]
theorem Dh8: ∀c:Ch,Po (stC c)=Po c
 | .mk k l=>by rw[stC,Po,Po,Av5 l]
theorem Bf6: ∀l:List Ch,Fz (Xa l)=Fz l
 | []=>rfl
 | x::l=>by rw[Xa,Fz,Fz,Dh8 x,Bf6 l]
end
theorem Vn {x e:Ex} (h:stE x=stE e):Cp x=Cp e:=by rw[<-Zm x,h,Zm]
section
end
end Go.Dl

-- Chapter 3: the reference's tokens: words, joining, operators.
namespace Go.Dl
open Go Go.Proofs
set_option maxRecDepth 100000
section
variable {G:Nat->DVal} {H:Ab}
def Yy (tss:List (List Tok)):DVal:= .vslice (tss.map Bv) tss.length
end
end Go.Dl

-- Chapter 3: ExprChains: the plain law, part 1: the tokens of a chain.
namespace Go.Dl
open Go Go.Proofs
set_option maxRecDepth 10000
def Bi (o:Nat):Nat->Ex
 | 0=>exX
 | n+1=>both o (Bi o n) exX
theorem Jb {o:Nat} (x y:Ex):Ak (both o x y)=if 13<=o/\o<=17 then 0 else if 7<=o/\o<=12 then 1 else if o=1\/o=2 then 2 else if 3<=o/\o<=6 then 3 else 5:=by
 have hk:=Ao4 o x y;unfold Ak;rw[hk.1,hk.2]
 repeat' split
 all_goals first | rfl | (exfalso;omega)
theorem Ai4 {lv:Int} (h:lv<=5):Aw exX lv= [Hs [120]]:=by
 have:Ak exX=5:=by decide
 rw[Aw,this,decide_eq_false (by omega)];show Ag exX=_;exact Ao1 rfl
theorem Br1 {o:Nat} (ho:(1<=o/\o<=6)\/(13<=o/\o<=17)) (n:Nat):Ag (Bi o (n+1))=Ag (Bi o n)++((Al o).map Am++ [Hs [120]]):=by
 have hl:=Jb (o:=o) (Bi o n) exX;have hL:Ak (both o (Bi o n) exX)≠1/\Ak (both o (Bi o n) exX)<=3:=by
  rw[hl];repeat' split
  all_goals first | (constructor<;>decide) | (exfalso;omega)
 rw[Bi,Ao3,Eb,if_neg hL.1,Ai4 (by omega)];congr 1;rw[Aw,decide_eq_false]
 ·rfl
 ·rw[Cw,if_neg hL.1];show¬Ak (Bi o n)<if Ak (both o (Bi o n) exX)=0/\((Bi o n).kind≠12\/(Bi o n).oper≠(o:Int)) then 1 else Ak (both o (Bi o n) exX)
  cases n with
  | zero=>
   have:Ak (Bi o 0)=5:=by show Ak exX=5;decide
   rw[this];split<;>omega
  | succ m=>
   have hk:=Ao4 o (Bi o m) exX;have h2:Ak (Bi o (m+1))=Ak (both o (Bi o (m+1)) exX):=by
    rw[Bi,Jb,Jb]
   rw[if_neg (by rw[Bi,hk.1,hk.2];simp),h2];omega
theorem Tn {o:Nat} (ho:(1<=o/\o<=6)\/(13<=o/\o<=17)): ∀n,Ag (Bi o n)=Hs [120]::(List.replicate n ((Al o).map Am++ [Hs [120]])).flatten
 | 0=>Ao1 rfl
 | n+1=>by
  rw[Br1 ho,Tn ho n,List.replicate_succ',List.flatten_append];simp
theorem Qv {o:Nat} (ho:1<=o/\o<=17): ∀n d,d+n<=32->Cv d (Bi o n)=true
 | 0,d,h=>by
  rw[Iv,decide_eq_true (by omega)];show(true&&Ae exX&&(parts exX).all (Cv (d+1)))=true;rw[show Ae exX=true by decide+kernel];rfl
 | n+1,d,h=>by
  have hf:Ae (Bi o (n+1))=true:=by
   show(decide ([Bi o n,exX].length=2)&&decide (1<=(o:Int))&&decide ((o:Int)<=17)&&true&&true&&true)=true;rw[decide_eq_true (by rfl),decide_eq_true (by omega),decide_eq_true (by omega)];rfl
  have h1:=Qv ho n (d+1) (by omega);have h2:=Qv ho 0 (d+1) (by omega);have hp:parts (Bi o (n+1))= [Bi o n,Bi o 0]:=rfl;rw[Iv,decide_eq_true (by omega),hf,hp,List.all_cons,List.all_cons,h1,h2];rfl
theorem Ai5 (o:Nat): ∀n,Ee (Bi o n)=2*n+1
 | 0=>rfl
 | n+1=>by
  have h:=Ai5 o n;show 1+(Ee (Bi o n)+(Ee exX+0))+0=_;rw[h,show Ee exX=1 from rfl];omega
theorem Xq {o:Nat} (ho:1<=o/\o<=17) {n:Nat} (hn:n<=30):Ko (Bi o n)=true:=by
 rw[Ko,Qv ho n 1 (by omega),Ai5,decide_eq_true (by omega)];rfl
theorem Ai6 (o:Nat): ∀n,(Bi o n).line=0
 | 0=>rfl
 | n+1=>Ai6 o n
end Go.Dl
