/- The data level and the contracts of the functions that are reached (part 9). -/
import Derived.ChangeSame
import Derived.Deep.Slices
import Derived.RowKit3
import Derived.Test.YtddbdpcgikmiaaaGreatDoorRows
import Derived.DeepKeys4
import Derived.LaidLaws
import Derived.Stop.LaidErr
import Derived.Shelf.Vars
import Derived.Test.YtddbdpcgikmiaaaGreatDoorPkh
set_option linter.unusedSimpArgs false
set_option linter.unusedVariables false
set_option linter.unusedSectionVars false
-- The reference of chapter 2: tokens of a text.
namespace Go.Dl
open Go Go.Proofs Go.RowKit
set_option maxRecDepth 100000
def Xi (w:List UInt8):Int:=match Aj5 w with | some v=>(v:Int) | none=> -1
theorem Cj3 {w:List UInt8} (h: ¬w.length<=10):Xi w= -1:=by rw[Xi,Aj5,if_neg (fun x=>h x.1)]
theorem Cx6 {w:List UInt8} (h:w.all Ff=false):Xi w= -1:=by rw[Xi,Aj5,if_neg (fun x=>by rw[h] at x;cases x.2.1)]
theorem Cx7 {w:List UInt8} (h: ¬My w<=2147483647):Xi w= -1:=by rw[Xi,Aj5,if_neg (fun x=>h x.2.2)]
theorem Di8 {w:List UInt8} (h1:w.length<=10) (h2:w.all Ff=true) (h3:My w<=2147483647):Xi w=(My w:Int):=by rw[Xi,Aj5,if_pos ⟨h1,h2,h3⟩]
theorem Cj4 (s:List UInt8):s.take (Cw s).length=Cw s:=(List.prefix_iff_eq_take.1 (List.takeWhile_prefix _)).symm
def Vf (s w:List UInt8):Bool:=decide (w.length<=s.length)&&decide (s.take w.length=w)
theorem Cx8 {k:Nat} {w:List UInt8} (h:Xz[k]? =some w):(k<7/\ ∃p∈Uj,w= [p.1,p.2])\/(7<=k/\ ∃a∈Bb2,w= [a]):=by
 have e:Xz=Uj.map (fun p=> [p.1,p.2])++Bb2.map (fun a=> [a]):=by decide
 rw[e,List.getElem?_append] at h;split at h
 ·rename_i hk
  rw[List.getElem?_map,Option.map_eq_some_iff] at h;obtain⟨p,hp,rfl⟩:=h;exact .inl ⟨hk,p,List.mem_of_getElem? hp,rfl⟩
 ·rename_i hk
  rw[List.getElem?_map,Option.map_eq_some_iff] at h;obtain⟨a,ha,rfl⟩:=h;exact .inr ⟨by simpa [Uj] using hk,a,List.mem_of_getElem? ha,rfl⟩
theorem Bg1 {k:Nat} (hk:7<=k): ∀p∈Uj,[p.1,p.2]∈Xz.take k:=fun p hp=>by
 have h7: ∀p∈Uj,[p.1,p.2]∈Xz.take 7:=by decide+kernel
 exact(List.take_sublist_take_left (l:=Xz) hk).subset (h7 p hp)
theorem Dy1 {a b:UInt8} {r:List UInt8}:Vf (a::b::r) [a,b]=true:=by
 rw[Vf,jF,decide_eq_true_eq,decide_eq_true_eq];exact⟨by simp,rfl⟩
theorem Di9 {s w:List UInt8} {k:Nat} (hk:Xz[k]? =some w) (hp:Vf s w=true) (hno: ∀u∈Xz.take k,Vf s u=false):Pm s=w.length:=by
 rw[Vf,jF,decide_eq_true_eq,decide_eq_true_eq] at hp
 obtain⟨h1,h2⟩:=hp
 rcases Cx8 hk with⟨_,p,hp,rfl⟩ | ⟨h7,a,ha,rfl⟩
 ·match s,h1,h2 with
  | a::b::r,_,h2=>
   have e: [a,b]= [p.1,p.2]:=h2
   cases e
   show(if(p.1,p.2)∈Uj then 2 else _)=2
   rw[if_pos hp]
 ·match s,h1,h2 with
  | x::r,_,h2=>
   have e: [x]= [a]:=h2
   cases e
   rw[Am2 a r (fun b r' e hm=>by
    subst e
    have:=hno _ (Bg1 h7 _ hm)
    rw[Dy1] at this;cases this),if_pos ha];rfl
theorem Cx9 {s:List UInt8} (hno: ∀u∈Xz,Vf s u=false):Pm s=0:=by
 match s with
 | []=>rfl
 | x::r=>
  rw[Am2 x r (fun b r' e hm=>by
   subst e
   have:=hno _ (List.mem_of_mem_take (Bg1 (Nat.le_refl 7) _ hm))
   rw[Dy1] at this;cases this),if_neg]
  intro hx
  have h1: ∀a∈Bb2,[a]∈Xz:=by decide+kernel
  have:=hno _ (h1 x hx)
  simp [Vf] at this
section
variable {G:Nat->DVal} {H:Ab}
theorem Bg2 (G:Nat->DVal) (H:Ab) (s:List UInt8) (hs:s.length<=1000000000):Ae Tryz.prog G 244 [.str s] H (Bo (dI (Cw s).length) H):=by
 refine Ac Tryz.func244 Tryz.call244 rfl (by kernel_rfl) ?_;simp(disch:=omega)only[go_sem];obtain⟨I,hI⟩: ∃I:Nat->(Nat->DVal)->Ab->Prop,∀k env heap,I k env heap↔(env 0= .str s/\env 3=dI k/\k<=s.length/\(s.take k).all Dk=true/\heap=H):=⟨_,fun _ _ _=>Iff.rfl⟩;refine Bt4.run I (fun k=>s.length-k) 0 ((hI _ _ _).2 ?_) ?_
 ·simp(disch:=omega)only[go_sem];(repeat' apply And.intro)<;>(try first | rfl | assumption | omega)
 ·intro k env heap hi;obtain⟨e0,e3,hk,hw,rfl⟩:=(hI _ _ _).1 hi;by_cases hlt:k<s.length
  ·have hlt':(k:Int)<(s.length:Int):=by omega
   have hg:s[k]? =some s[k]:=List.getElem?_eq_getElem hlt;have hwd:IntKind.i64.wrap ((k:Int)+1)=((k+1:Nat):Int):=by rw[IntKind.wrap_i64];omega
   simp(disch:=omega)only[go_sem,e0,e3,hlt',hg,jD];refine(Ac4 G _ s[k]).mono ?_;rintro _ H1 ⟨rfl,rfl⟩;cases hb:Dk s[k] with
   | true=>
    simp(disch:=omega)only[go_sem,e0,e3];refine⟨k+1,_,Lq.refl _,(hI _ _ _).2 ?_,by omega⟩;simp(disch:=omega)only[go_sem,e0,e3,hwd];(repeat' apply And.intro)<;>(try first | rfl | assumption | omega);rw[List.take_add_one,hg,List.all_append,hw];simpa using hb
   | false=>
    simp(disch:=omega)only[go_sem,e0,e3];exact Pl.refl ⟨by rw[Bu8 hw hg hb,List.length_take,Nat.min_eq_left (by omega)],rfl⟩
  ·have:k=s.length:=by omega
   subst this;simp(disch:=omega)only[go_sem,e0,e3];rw[List.take_length] at hw;exact Pl.refl ⟨by rw[Ul s hw],rfl⟩
theorem Cj5 (G:Nat->DVal) (H:Ab) (w:List UInt8):Ae Tryz.prog G 246 [.str w] H (Bo (dI (Xi w)) H):=by
 refine Ac Tryz.func246 Tryz.call246 rfl (by kernel_rfl) ?_;by_cases hl:w.length<=10
 ·have hl': ¬(10:Int)<(w.length:Int):=by omega
  simp(disch:=omega)only[go_sem,hl'];obtain⟨I,hI⟩: ∃I:Nat->(Nat->DVal)->Ab->Prop,∀k env heap,I k env heap↔(env 0= .str w/\env 3=dI (My (w.take k))/\env 4=dI k/\k<=w.length/\(w.take k).all Ff=true/\My (w.take k)<10^k/\heap=H):=⟨_,fun _ _ _=>Iff.rfl⟩;refine Bt4.run I (fun k=>w.length-k) 0 ((hI _ _ _).2 ?_) ?_
  ·simp(disch:=omega)only[go_sem];(repeat' apply And.intro)<;>(try first | rfl | assumption | omega);decide
  ·intro k env heap hi;obtain⟨e0,e3,e4,hk,hw,hv,rfl⟩:=(hI _ _ _).1 hi;have hp10:10^k<=10^10:=Nat.pow_le_pow_right (by omega) (by omega);have hv10:My (w.take k)<10000000000:=Nat.lt_of_lt_of_le hv hp10;by_cases hlt:k<w.length
   ·have hlt':(k:Int)<(w.length:Int):=by omega
    have hg:w[k]? =some w[k]:=List.getElem?_eq_getElem hlt;have hwd:IntKind.i64.wrap ((k:Int)+1)=((k+1:Nat):Int):=by rw[IntKind.wrap_i64];omega
    simp(disch:=omega)only[go_sem,e0,e3,e4,hlt',hg,jD];refine(Qk G _ w[k]).mono ?_;rintro _ H1 ⟨rfl,rfl⟩;cases hb:Ff w[k] with
    | true=>
     have hd:=(Ce7 w[k]).1 hb;have htk:w.take (k+1)=w.take k++ [w[k]]:=by rw[List.take_add_one,hg];rfl
     have hds:My (w.take (k+1))=10*My (w.take k)+(w[k].toNat-48):=by rw[htk,Ce4]
     have hall:(w.take (k+1)).all Ff=true:=by rw[htk,List.all_append,hw];simpa using hb
     have hlt10:My (w.take (k+1))<10^(k+1):=by rw[hds,Nat.pow_succ];omega
     have w1:IntKind.i64.wrap (10*(My (w.take k):Int))=10*(My (w.take k):Int):=by rw[IntKind.wrap_i64];omega
     have w2:IntKind.u8.wrap ((w[k].toNat:Int)-48)=(w[k].toNat:Int)-48:=by rw[IntKind.wrap_u8];omega
     have w3:IntKind.i64.wrap ((w[k].toNat:Int)-48)=(w[k].toNat:Int)-48:=by rw[IntKind.wrap_i64];omega
     have w4:IntKind.i64.wrap (10*(My (w.take k):Int)+((w[k].toNat:Int)-48))=(My (w.take (k+1)):Int):=by rw[IntKind.wrap_i64,hds];omega
     simp(disch:=omega)only[go_sem,e0,e3,e4,hlt',hg,jD,w1,w2,w3,w4];refine⟨k+1,_,Lq.refl _,(hI _ _ _).2 ?_,by omega⟩;simp(disch:=omega)only[go_sem,e0,e3,e4,hwd];(repeat' apply And.intro)<;>(try first | rfl | assumption | omega)
    | false=>
     simp(disch:=omega)only[go_sem,e0,e3];refine Pl.refl ⟨?_,rfl⟩;rw[Cx6 (List.all_eq_false.2 ⟨w[k],List.getElem_mem hlt,by rw[hb];simp⟩)]
   ·have:k=w.length:=by omega
    subst this;rw[List.take_length] at hw hv e3;by_cases hb:2147483647<My w
    ·have hb':(2147483647:Int)<(My w:Int):=by omega
     simp(disch:=omega)only[go_sem,e0,e3,e4,hb'];exact Pl.refl ⟨by rw[Cx7 (by omega)],rfl⟩
    ·have hb': ¬(2147483647:Int)<(My w:Int):=by omega
     simp(disch:=omega)only[go_sem,e0,e3,e4,hb'];exact Pl.refl ⟨by rw[Di8 hl hw (by omega)],rfl⟩
 ·have hl':(10:Int)<(w.length:Int):=by omega
  simp(disch:=omega)only[go_sem,hl'];exact Pl.refl ⟨by rw[Cj3 hl],rfl⟩
theorem Cj6 (G:Nat->DVal) (H:Ab) (s:List UInt8) (hs:s.length<=1000000000):Ae Tryz.prog G 247 [.str s] H (Bo (dI (Pm s)) H):=by
 refine Ac Tryz.func247 Tryz.call247 rfl (by kernel_rfl) ?_;simp(disch:=omega)only[go_sem];refine(Bn8 G _).mono ?_;rintro _ H1 ⟨rfl,rfl⟩;simp(disch:=omega)only[go_sem,Rt];obtain⟨l,hl⟩: ∃l,l=Xz:=⟨_,rfl⟩;rw[<-hl];have hlen:l.length=22:=by rw[hl];rfl
 obtain⟨I,hI⟩: ∃I:Nat->(Nat->DVal)->Ab->Prop,∀k env heap,I k env heap↔(env 0= .str s/\env 3= .vslice (l.map .str) l.length/\env 4=dI k/\k<=l.length/\(∀u∈l.take k,Vf s u=false)/\heap=H1):=⟨_,fun _ _ _=>Iff.rfl⟩;refine Bt4.run I (fun k=>l.length-k) 0 ((hI _ _ _).2 ?_) ?_
 ·simp(disch:=omega)only[go_sem];(repeat' apply And.intro)<;>(try first | rfl | assumption | omega);intro u hu;simp at hu
 ·intro k env heap hi;obtain⟨e0,e3,e4,hk,hno,rfl⟩:=(hI _ _ _).1 hi;by_cases hlt:k<l.length
  ·have hlt':(k:Int)<(l.length:Int):=by omega
   have hg:(l.map DVal.str)[k]? =some (.str l[k]):=by rw[List.getElem?_map,List.getElem?_eq_getElem hlt];rfl
   have hwd:IntKind.i64.wrap ((k:Int)+1)=((k+1:Nat):Int):=by rw[IntKind.wrap_i64];omega
   have hbd:Vf s l[k]=(decide (l[k].length<=s.length)&&decide (s.take l[k].length=l[k])):=rfl;simp(disch:=omega)only[go_sem,e0,e3,e4,hlt',hlt,hg,jD];refine Am (by kernel_rfl) (.take 0 (.take 1 (.take 2 (.take 3 (.take 4 (.take 5 (.take 6 (.take 7 (.take 8 (.take 9 (.take 10 (.take 11 (.take 12 (.take 13 .done)))))))))))))) (by kernel_rfl) ?_;by_cases h1:l[k].length<=s.length
   ·have h1':(l[k].length:Int)<=(s.length:Int):=by omega
    by_cases h2:s.take l[k].length=l[k]
    ·have hh:Vf s l[k]=true:=by rw[hbd,decide_eq_true h1,decide_eq_true h2];rfl
     simp(disch:=omega)only[go_sem,e0,e3,e4,hlt',hlt,hg,h1',h2,jD];refine Pl.refl ⟨?_,rfl⟩;rw[Di9 (k:=k) (w:=l[k]) (by rw[<-hl];exact List.getElem?_eq_getElem hlt) hh (by rw[<-hl];exact hno)]
    ·have hh:Vf s l[k]=false:=by rw[hbd,decide_eq_false h2,Bool.and_false]
     simp(disch:=omega)only[go_sem,e0,e3,e4,hlt',hlt,hg,h1',h2,jD];refine⟨k+1,_,Lq.refl _,(hI _ _ _).2 ?_,by omega⟩;simp(disch:=omega)only[go_sem,e0,e3,e4,hwd];(repeat' apply And.intro)<;>(try first | rfl | assumption | omega);exact Lf (p:=fun x=>Vf s x=false) hlt hno hh
   ·have h1': ¬(l[k].length:Int)<=(s.length:Int):=by omega
    have hh:Vf s l[k]=false:=by rw[hbd,decide_eq_false h1,jT]
    simp(disch:=omega)only[go_sem,e0,e3,e4,hlt',hlt,hg,h1',jD];refine⟨k+1,_,Lq.refl _,(hI _ _ _).2 ?_,by omega⟩;simp(disch:=omega)only[go_sem,e0,e3,e4,hwd];(repeat' apply And.intro)<;>(try first | rfl | assumption | omega);exact Lf (p:=fun x=>Vf s x=false) hlt hno hh
  ·have:k=l.length:=by omega
   subst this;simp(disch:=omega)only[go_sem,e0,e3,e4];rw[List.take_length] at hno;refine Pl.refl ⟨?_,rfl⟩;rw[Cx9 (by rw[<-hl];exact hno)];rfl
theorem Ah5 (G:Nat->DVal) (H:Ab) (c:UInt8) (r:List UInt8) (hs:(c::r).length<=1000000000):Ae Tryz.prog G 163 [.str (c::r)] H (Bo (Ac3 (Cs (c::r))) H):=by
 have h0:(c::r)[0]? =some c:=rfl
 have hwl:=Bu6 (c::r)
 have hwt:(c::r).take ((Cw (c::r)).length-0)=Cw (c::r):=Cj4 (c::r)
 have hwl':((Cw (c::r)).length:Int)<=((c::r).length:Int):=by omega
 refine Ac Tryz.func163 Tryz.call163 rfl (by kernel_rfl) ?_
 simp(disch:=omega)only[go_sem]
 intro r2 hr2;dsimp only at hr2
 simp(disch:=omega)only[go_sem]
 refine(Bg2 G _ (c::r) hs).mono ?_
 rintro _ H1 ⟨rfl,rfl⟩
 simp(disch:=omega)only[go_sem,h0]
 refine(Oj G _ c).mono ?_
 rintro _ H1 ⟨rfl,rfl⟩
 generalize hw:Cw (c::r)=w at hwl hwt hwl'
 cases hle:Et c with
 | true=>
  simp(disch:=omega)only[go_sem,h0,hwl',hwt]
  refine(Am4 G _ w).mono ?_
  rintro _ H1 ⟨rfl,rfl⟩
  cases hk:So w with
  | true=>
   simp(disch:=omega)only[go_sem,h0,DVal.cells]
   exact Pl.dropA r2 hr2 (Pl.refl ⟨by rw[Lx,hw,hle,if_pos rfl,hk,if_pos rfl];rfl,rfl⟩)
  | false=>
   simp(disch:=omega)only[go_sem,h0]
   refine(Bn9 G _ w).mono ?_
   rintro _ H1 ⟨rfl,rfl⟩
   cases hn:Pb w with
   | true=>
    simp(disch:=omega)only[go_sem,h0,DVal.cells]
    exact Pl.dropA r2 hr2 (Pl.refl ⟨by rw[Lx,hw,hle,if_pos rfl,hk,if_neg (by simp),hn,if_pos rfl];rfl,rfl⟩)
   | false=>
    simp(disch:=omega)only[go_sem,h0,DVal.cells]
    exact Pl.dropA r2 hr2 (Pl.refl ⟨by rw[Lx,hw,hle,if_pos rfl,hk,if_neg (by simp),hn,if_neg (by simp)];rfl,rfl⟩)
 | false=>
  simp(disch:=omega)only[go_sem,h0]
  refine(Qk G _ c).mono ?_
  rintro _ H1 ⟨rfl,rfl⟩
  cases hd:Ff c with
  | true=>
   have hfc:Cs (c::r)=match Aj5 w with | some v=>(⟨3,0,[],v⟩,w.length) | none=>(Wd,0):=by
    rw[Lx,hw,hle,if_neg (by simp),hd,if_pos rfl];cases Aj5 w<;>rfl
   simp(disch:=omega)only[go_sem,h0,hwl',hwt]
   refine(Cj5 G _ w).mono ?_
   rintro _ H1 ⟨rfl,rfl⟩
   cases hv:Aj5 w with
   | some v=>
    have hiv:Xi w=(v:Int):=by rw[Xi,hv]
    have hneg: ¬(v:Int)<0:=by omega
    simp(disch:=omega)only[go_sem,hiv,hneg,DVal.cells]
    exact Pl.dropA r2 hr2 (Pl.refl ⟨by rw[hfc,hv];rfl,rfl⟩)
   | none=>
    have hiv:Xi w= -1:=by rw[Xi,hv]
    simp(disch:=omega)only[go_sem,hiv,DVal.cells]
    exact Pl.dropA r2 hr2 (Pl.refl ⟨by rw[hfc,hv];rfl,rfl⟩)
  | false=>
   have hsl:=Bm6 (c::r)
   have hsl':(Pm (c::r):Int)<=((c::r).length:Int):=by omega
   simp(disch:=omega)only[go_sem]
   refine(Cj6 G _ (c::r) hs).mono ?_
   rintro _ H1 ⟨rfl,rfl⟩
   simp(disch:=omega)only[go_sem,h0,DVal.cells,hsl']
   exact Pl.dropA r2 hr2 (Pl.refl ⟨by rw[Lx,hle,if_neg (by simp),hd,if_neg (by simp)];simp [Ac3,Dw],rfl⟩)
end
theorem Dj0 {c d:UInt8} {r r':List UInt8} (hd:d≠45) (h:r=d::r'):Jj (c::r)=false:=by
 subst h;unfold Jj;split
 ·rename_i e;simp at e;exact absurd e.2.1 hd
 ·rfl
theorem Dj1 {c:UInt8} {r:List UInt8} (h:r= []):Jj (c::r)=false:=by
 subst h;unfold Jj;split
 ·rename_i e;simp at e
 ·rfl
set_option maxHeartbeats 4000000 in
theorem Av2 (G:Nat->DVal) (H:Ab) (src:List UInt8) (hs:src.length<=1000000000):Ae Tryz.prog G 57 [.str src] H (Bo (.tuple [Dd (Bv src).1,dI (Bv src).2.1,dI (Bv src).2.2]) H):=by
 refine Ac Tryz.func57 Tryz.call57 rfl (by kernel_rfl) ?_
 by_cases hl:65536<src.length
 ·have hl':(65536:Int)<(src.length:Int):=by omega
  simp(disch:=omega)only[go_sem,hl',jH]
  refine Pl.ghost (Hj (H:=H) (Sub.refl H) [dI 0,dI 3] rfl) (Pl.refl ⟨?_,rfl⟩)
  rw[Bv,if_pos hl]
 have hl': ¬(65536:Int)<(src.length:Int):=by omega
 simp(disch:=omega)only[go_sem,hl']
 obtain⟨I,hI⟩: ∃I:Nat×Nat×List Tok->(Nat->DVal)->Ab->Prop,∀ix env heap,I ix env heap↔(env 0= .str src/\env 6=dI ix.2.1/\env 7=dI ix.1/\ix.1<=src.length/\ix.2.1<=ix.1+1/\ix.2.2.length<=8192/\Gs (src.drop ix.1) ix.2.1 ix.2.2=Bv src/\Er H 31 4 ix.2.2.length (ix.2.2.flatMap Dw) (env 5) heap):=⟨_,fun _ _ _=>Iff.rfl⟩
 refine Bt4.run I (fun ix=>src.length-ix.1) (0,1,[]) ((hI _ _ _).2 ?_) ?_
 ·simp(disch:=omega)only[go_sem]
  (repeat' apply And.intro)<;>(try first | rfl | assumption | omega)
  ·exact(Bb8 (by omega)).symm
  ·exact Er.nil _ _ (Sub.refl _)
 ·rintro⟨k,ln,ts⟩ env hp hi
  obtain⟨e0,e6,e7,hk,hln,hts,hr,hv⟩:=(hI _ _ _).1 hi
  dsimp only at e6 e7 hk hln hts hr hv
  obtain⟨v,e5⟩: ∃v,env 5=v:=⟨_,rfl⟩
  rw[e5] at hv
  by_cases hlt:k<src.length
  ·have hlt':(k:Int)<(src.length:Int):=by omega
   have hkl:(k:Int)<=(src.length:Int):=by omega
   obtain⟨c,hc⟩: ∃c,c=src[k]:=⟨_,rfl⟩
   have hg:src[k]? =some c:=by rw[hc];exact List.getElem?_eq_getElem hlt
   have hd:src.drop k=c::src.drop (k+1):=by rw[hc];exact List.drop_eq_getElem_cons hlt
   have hdr:(src.drop k).take (src.length-k)=c::src.drop (k+1):=by rw[<-hd];exact List.take_of_length_le (by rw[List.length_drop];exact Nat.le_refl _)
   have hw1:IntKind.i64.wrap ((k:Int)+1)=((k+1:Nat):Int):=by rw[IntKind.wrap_i64];omega
   have hwl:IntKind.i64.wrap ((ln:Int)+1)=((ln+1:Nat):Int):=by rw[IntKind.wrap_i64];omega
   by_cases c10:c=10
   ·have c10':(c.toNat:Int)=10:=by rw[c10];rfl
    simp(disch:=omega)only[go_sem,e0,e5,e6,e7,hlt',hg,c10',jD]
    refine⟨(k+1,ln+1,ts),_,Lq.refl _,(hI _ _ _).2 ?_,by dsimp only;omega⟩
    simp(disch:=omega)only[go_sem,e0,e5,e6,e7,hw1,hwl]
    (repeat' apply And.intro)<;>(try first | rfl | assumption | omega)
    rw[<-hr,hd,c10,Dg0]
   have c10': ¬(c.toNat:Int)=10:=Lw (d:=10) c10
   by_cases c32:c=32
   ·have c32':(c.toNat:Int)=32:=by rw[c32];rfl
    simp(disch:=omega)only[go_sem,e0,e5,e6,e7,hlt',hg,c10',c32',jD]
    refine⟨(k+1,ln,ts),_,Lq.refl _,(hI _ _ _).2 ?_,by dsimp only;omega⟩
    simp(disch:=omega)only[go_sem,e0,e5,e6,e7,hw1,hwl]
    (repeat' apply And.intro)<;>(try first | rfl | assumption | omega)
    rw[<-hr,hd,c32,Dg1]
   have c32': ¬(c.toNat:Int)=32:=Lw (d:=32) c32
   by_cases hlt1:k+1<src.length
   ·have hlt1':((k+1:Nat):Int)<(src.length:Int):=by omega
    have hd1:src.drop (k+1)=src[k+1]::src.drop (k+2):=List.drop_eq_getElem_cons hlt1
    have hg1:src[k+1]? =some src[k+1]:=List.getElem?_eq_getElem hlt1
    by_cases c45:c=45
    ·have c45':(c.toNat:Int)=45:=by rw[c45];rfl
     by_cases d45:src[k+1]=45
     ·have d45':(src[k+1].toNat:Int)=45:=by rw[d45];rfl
      have hd2:src.drop k=45::45::src.drop (k+2):=by rw[hd,hd1,c45,d45]
      obtain⟨h,t,hls,hbad,hok⟩:=Cr9 (src.drop (k+2)) ln ts
      rw[<-hd2] at hls hbad hok
      rw[hr] at hbad hok
      obtain⟨p1,p2,_⟩:=Qj hls
      have hsh: ∃q,src.drop k=h++q/\(q= []\/ ∃q',q=10::q'):=by
       rcases p2 with⟨_,e⟩ | ⟨_,e⟩
       ·exact⟨[],by rw[e,jH], .inl rfl⟩
       ·exact⟨_,e, .inr ⟨_,rfl⟩⟩
      obtain⟨q,hq,hq2⟩:=hsh
      have hpos:0<h.length:=by
       match h,hq with
       | [],hq=>
        rw[hd2] at hq
        rcases hq2 with rfl | ⟨q',rfl⟩
        ·cases hq
        ·have:=(List.cons.inj hq).1;exact absurd this (by decide)
       | x::h,_=>simp
      have hhl:k+h.length+q.length=src.length:=by
       have:=congrArg List.length hq
       rw[List.length_drop,jC] at this;omega
      have hat: ∀j (hj:j<h.length),src[k+j]? =some h[j]:=fun j hj=>by
       rw[<-List.getElem?_drop,hq,List.getElem?_append_left hj,List.getElem?_eq_getElem hj]
      have hend:src[k+h.length]? =q[0]? :=by
       rw[<-List.getElem?_drop,hq,List.getElem?_append_right (Nat.le_refl _),Nat.sub_self]
      simp(disch:=omega)only[go_sem,e0,e5,e6,e7,hlt',hg,c10',c32',hw1,hlt1',hg1,c45',d45',jD]
      obtain⟨J,hJ⟩: ∃J:Nat->(Nat->DVal)->Ab->Prop,∀j env heap,J j env heap↔(env 0= .str src/\env 5=v/\env 6=dI ln/\env 7=dI ((k+j:Nat):Int)/\j<=h.length/\Ju (h.take j)=true/\heap=hp):=⟨_,fun _ _ _=>Iff.rfl⟩
      refine Bt4.run J (fun j=>h.length-j) 0 ((hJ _ _ _).2 ?_) ?_
      ·simp(disch:=omega)only[go_sem,e0,e5,e6,e7,Nat.add_zero]
       (repeat' apply And.intro)<;>(try first | rfl | assumption | omega)
      ·intro j env' hp' hi'
       obtain⟨f0,f5,f6,f7,hj,hpl,rfl⟩:=(hJ _ _ _).1 hi'
       by_cases hjl:j<h.length
       ·have hjl':((k+j:Nat):Int)<(src.length:Int):=by omega
        have hgj:=hat j hjl
        have hn10: ¬(h[j].toNat:Int)=10:=Lw (d:=10) fun e=>p1 (by rw[<-e];exact List.getElem_mem hjl)
        have hwj:IntKind.i64.wrap (((k+j:Nat):Int)+1)=((k+(j+1):Nat):Int):=by rw[IntKind.wrap_i64];omega
        have hb: ¬(32<=h[j].toNat/\h[j].toNat<=126)->Ju h=false:=fun x=>by
         rw[Ju,List.all_eq_false]
         refine⟨h[j],List.getElem_mem hjl, ?_⟩
         simp only[jF,decide_eq_true_eq];exact x
        by_cases h1:h[j].toNat<32
        ·have h1':(h[j].toNat:Int)<32:=by omega
         simp(disch:=omega)only[go_sem,f0,f5,f6,f7,hjl',hgj,hn10,h1',jD]
         refine Pl.ghost (Hj (H:=H) hv.sub [dI ln,dI 20] rfl) (Pl.refl ⟨?_,rfl⟩)
         rw[hbad (hb (by omega))]
        ·have h1': ¬(h[j].toNat:Int)<32:=by omega
         by_cases h2:126<h[j].toNat
         ·have h2':(126:Int)<(h[j].toNat:Int):=by omega
          simp(disch:=omega)only[go_sem,f0,f5,f6,f7,hjl',hgj,hn10,h1',h2',jD]
          refine Pl.ghost (Hj (H:=H) hv.sub [dI ln,dI 20] rfl) (Pl.refl ⟨?_,rfl⟩)
          rw[hbad (hb (by omega))]
         ·have h2': ¬(126:Int)<(h[j].toNat:Int):=by omega
          simp(disch:=omega)only[go_sem,f0,f5,f6,f7,hjl',hgj,hn10,h1',h2',jD]
          refine⟨j+1,_,Lq.refl _,(hJ _ _ _).2 ?_,by omega⟩
          simp(disch:=omega)only[go_sem,f0,f5,f6,f7,hwj]
          (repeat' apply And.intro)<;>(try first | rfl | assumption | omega)
          rw[List.take_add_one,List.getElem?_eq_getElem hjl,Ce3,hpl]
          simp [Ju];omega
       ·have:j=h.length:=by omega
        subst this
        rw[List.take_length] at hpl
        have hgo:=hok hpl
        rw[List.drop_drop] at hgo
        rcases hq2 with rfl | ⟨q',rfl⟩
        ·have hjl': ¬((k+h.length:Nat):Int)<(src.length:Int):=by simp at hhl;omega
         simp(disch:=omega)only[go_sem,f0,f5,f6,f7,hjl']
         refine⟨(k+h.length,ln,ts),_,Lq.refl _,(hI _ _ _).2 ?_,by dsimp only;omega⟩
         simp(disch:=omega)only[go_sem,f0,f5,f6,f7]
         (repeat' apply And.intro)<;>(try first | rfl | assumption | omega)
         exact hgo.symm
        ·have hjl':((k+h.length:Nat):Int)<(src.length:Int):=by simp at hhl;omega
         simp(disch:=omega)only[go_sem,f0,f5,f6,f7,hjl',hend,List.getElem?_cons_zero,jD]
         refine⟨(k+h.length,ln,ts),_,Lq.refl _,(hI _ _ _).2 ?_,by dsimp only;omega⟩
         simp(disch:=omega)only[go_sem,f0,f5,f6,f7]
         (repeat' apply And.intro)<;>(try first | rfl | assumption | omega)
         exact hgo.symm
     ·have d45': ¬(src[k+1].toNat:Int)=45:=Lw (d:=45) d45
      ·have hcom:Jj (c::src.drop (k+1))=false:=Dj0 d45 hd1
       simp(disch:=omega)only[go_sem,e0,e5,e6,e7,hlt',hg,c10',c32',hlt1',hg1,c45',d45',jD,hdr,hkl,hw1]
       refine(Ah5 G _ c (src.drop (k+1)) (by rw[<-hd,List.length_drop];omega)).mono ?_
       rintro _ H1 ⟨rfl,rfl⟩
       have htk:=Ac1 ln ts c10 c32 hcom
       have hfl:=Uk (c::src.drop (k+1))
       rw[<-hd,List.length_drop] at hfl
       rw[<-hd,hr] at htk
       rw[<-hd]
       generalize hf:Cs (src.drop k)=tn at htk hfl
       obtain⟨T,n⟩:=tn
       dsimp only at htk hfl
       simp(disch:=omega)only[go_sem,Ac3,DVal.cells,e0,e5,e6,e7]
       intro r8 hr8;dsimp only at hr8
       have hvf:=hv.frame hr8 (.cells (Dw { T with line:=(ln:Int) }) 31)
       by_cases hn:n=0
       ·have hn':(n:Int)=0:=by omega
        rw[if_pos hn] at htk
        simp(disch:=omega)only[go_sem,e0,e5,e6,e7,hn',Ca,Ib,Ic,Fv,jH]
        refine Pl.ghost (Hj (H:=H) (hv.new hr8 _).sub [dI ln,dI 20] rfl) (Pl.refl ⟨?_,rfl⟩)
        rw[htk]
       ·have hn': ¬(n:Int)=0:=by omega
        rw[if_neg hn] at htk
        by_cases h8:ts.length=8192
        ·have h8':(ts.length:Int)=8192:=by omega
         rw[if_pos h8] at htk
         simp(disch:=omega)only[go_sem,e0,e5,e6,e7,hn',hv.dLen,h8',Ca,Ib,Ic,Fv,jH]
         refine Pl.ghost (Hj (H:=H) (hv.new hr8 _).sub [dI ln,dI 3] rfl) (Pl.refl ⟨?_,rfl⟩)
         rw[htk]
        ·have h8': ¬(ts.length:Int)=8192:=by omega
         rw[if_neg h8] at htk
         have hsp:Cj (Dw T) 1 [dI (ln:Int)]=Dw { T with line:=(ln:Int) }:=rfl
         have hrep:Bj 1 [DVal.int IntKind.u8 0,DVal.int IntKind.i64 0,DVal.str [],DVal.int IntKind.i64 0]= [DVal.int IntKind.u8 0,DVal.int IntKind.i64 0,DVal.str [],DVal.int IntKind.i64 0]:=rfl
         have hwn:IntKind.i64.wrap ((k:Int)+(n:Int))=((k+n:Nat):Int):=by rw[IntKind.wrap_i64];omega
         simp(disch:=omega)only[go_sem,e0,e5,e6,e7,hn',hv.dLen,h8',Ca,Ib,Ic,Fv,jH,hsp]
         rw[hrep]
         simp(disch:=omega)only[go_sem,jA,jB,jE,jJ,jH,e5]
         intro ns hns;dsimp only at hns
         simp(disch:=omega)only[go_sem,e0,e5,e6,e7,Ca,Ib,Ic,Fv,jH]
         refine Er.append (m:=1) (hvf.new hns _) rfl (by omega) fun v2 H3 hv3=> ?_
         simp(disch:=omega)only[go_sem,e0,e5,e6,e7]
         refine⟨(k+n,ln,ts++ [{ T with line:=(ln:Int) }]),_,Lq.refl _,(hI _ _ _).2 ?_,by dsimp only;omega⟩
         simp(disch:=omega)only[go_sem,e0,e5,e6,e7,hwn]
         (repeat' apply And.intro)<;>(try first | rfl | assumption | omega)
         ·rw[jC];simp;omega
         ·rw[<-List.drop_drop,<-htk]
         ·have:=hv3.less ((Sub.refl H).up (hv.sub.lo hr8) _)
          rw[jC,List.flatMap_append]
          simpa using this
    ·have c45': ¬(c.toNat:Int)=45:=Lw (d:=45) c45
     ·have hcom:Jj (c::src.drop (k+1))=false:=Dr6 _ c45
      simp(disch:=omega)only[go_sem,e0,e5,e6,e7,hlt',hg,c10',c32',hlt1',hg1,c45',jD,hdr,hkl,hw1]
      refine(Ah5 G _ c (src.drop (k+1)) (by rw[<-hd,List.length_drop];omega)).mono ?_
      rintro _ H1 ⟨rfl,rfl⟩
      have htk:=Ac1 ln ts c10 c32 hcom
      have hfl:=Uk (c::src.drop (k+1))
      rw[<-hd,List.length_drop] at hfl
      rw[<-hd,hr] at htk
      rw[<-hd]
      generalize hf:Cs (src.drop k)=tn at htk hfl
      obtain⟨T,n⟩:=tn
      dsimp only at htk hfl
      simp(disch:=omega)only[go_sem,Ac3,DVal.cells,e0,e5,e6,e7]
      intro r8 hr8;dsimp only at hr8
      have hvf:=hv.frame hr8 (.cells (Dw { T with line:=(ln:Int) }) 31)
      by_cases hn:n=0
      ·have hn':(n:Int)=0:=by omega
       rw[if_pos hn] at htk
       simp(disch:=omega)only[go_sem,e0,e5,e6,e7,hn',Ca,Ib,Ic,Fv,jH]
       refine Pl.ghost (Hj (H:=H) (hv.new hr8 _).sub [dI ln,dI 20] rfl) (Pl.refl ⟨?_,rfl⟩)
       rw[htk]
      ·have hn': ¬(n:Int)=0:=by omega
       rw[if_neg hn] at htk
       by_cases h8:ts.length=8192
       ·have h8':(ts.length:Int)=8192:=by omega
        rw[if_pos h8] at htk
        simp(disch:=omega)only[go_sem,e0,e5,e6,e7,hn',hv.dLen,h8',Ca,Ib,Ic,Fv,jH]
        refine Pl.ghost (Hj (H:=H) (hv.new hr8 _).sub [dI ln,dI 3] rfl) (Pl.refl ⟨?_,rfl⟩)
        rw[htk]
       ·have h8': ¬(ts.length:Int)=8192:=by omega
        rw[if_neg h8] at htk
        have hsp:Cj (Dw T) 1 [dI (ln:Int)]=Dw { T with line:=(ln:Int) }:=rfl
        have hrep:Bj 1 [DVal.int IntKind.u8 0,DVal.int IntKind.i64 0,DVal.str [],DVal.int IntKind.i64 0]= [DVal.int IntKind.u8 0,DVal.int IntKind.i64 0,DVal.str [],DVal.int IntKind.i64 0]:=rfl
        have hwn:IntKind.i64.wrap ((k:Int)+(n:Int))=((k+n:Nat):Int):=by rw[IntKind.wrap_i64];omega
        simp(disch:=omega)only[go_sem,e0,e5,e6,e7,hn',hv.dLen,h8',Ca,Ib,Ic,Fv,jH,hsp]
        rw[hrep]
        simp(disch:=omega)only[go_sem,jA,jB,jE,jJ,jH,e5]
        intro ns hns;dsimp only at hns
        simp(disch:=omega)only[go_sem,e0,e5,e6,e7,Ca,Ib,Ic,Fv,jH]
        refine Er.append (m:=1) (hvf.new hns _) rfl (by omega) fun v2 H3 hv3=> ?_
        simp(disch:=omega)only[go_sem,e0,e5,e6,e7]
        refine⟨(k+n,ln,ts++ [{ T with line:=(ln:Int) }]),_,Lq.refl _,(hI _ _ _).2 ?_,by dsimp only;omega⟩
        simp(disch:=omega)only[go_sem,e0,e5,e6,e7,hwn]
        (repeat' apply And.intro)<;>(try first | rfl | assumption | omega)
        ·rw[jC];simp;omega
        ·rw[<-List.drop_drop,<-htk]
        ·have:=hv3.less ((Sub.refl H).up (hv.sub.lo hr8) _)
         rw[jC,List.flatMap_append]
         simpa using this
   ·have hlt1': ¬((k+1:Nat):Int)<(src.length:Int):=by omega
    have hd1:src.drop (k+1)= []:=List.drop_eq_nil_of_le (by omega)
    ·have hcom:Jj (c::src.drop (k+1))=false:=Dj1 hd1
     simp(disch:=omega)only[go_sem,e0,e5,e6,e7,hlt',hg,c10',c32',hlt1',jD,hdr,hkl,hw1]
     refine(Ah5 G _ c (src.drop (k+1)) (by rw[<-hd,List.length_drop];omega)).mono ?_
     rintro _ H1 ⟨rfl,rfl⟩
     have htk:=Ac1 ln ts c10 c32 hcom
     have hfl:=Uk (c::src.drop (k+1))
     rw[<-hd,List.length_drop] at hfl
     rw[<-hd,hr] at htk
     rw[<-hd]
     generalize hf:Cs (src.drop k)=tn at htk hfl
     obtain⟨T,n⟩:=tn
     dsimp only at htk hfl
     simp(disch:=omega)only[go_sem,Ac3,DVal.cells,e0,e5,e6,e7]
     intro r8 hr8;dsimp only at hr8
     have hvf:=hv.frame hr8 (.cells (Dw { T with line:=(ln:Int) }) 31)
     by_cases hn:n=0
     ·have hn':(n:Int)=0:=by omega
      rw[if_pos hn] at htk
      simp(disch:=omega)only[go_sem,e0,e5,e6,e7,hn',Ca,Ib,Ic,Fv,jH]
      refine Pl.ghost (Hj (H:=H) (hv.new hr8 _).sub [dI ln,dI 20] rfl) (Pl.refl ⟨?_,rfl⟩)
      rw[htk]
     ·have hn': ¬(n:Int)=0:=by omega
      rw[if_neg hn] at htk
      by_cases h8:ts.length=8192
      ·have h8':(ts.length:Int)=8192:=by omega
       rw[if_pos h8] at htk
       simp(disch:=omega)only[go_sem,e0,e5,e6,e7,hn',hv.dLen,h8',Ca,Ib,Ic,Fv,jH]
       refine Pl.ghost (Hj (H:=H) (hv.new hr8 _).sub [dI ln,dI 3] rfl) (Pl.refl ⟨?_,rfl⟩)
       rw[htk]
      ·have h8': ¬(ts.length:Int)=8192:=by omega
       rw[if_neg h8] at htk
       have hsp:Cj (Dw T) 1 [dI (ln:Int)]=Dw { T with line:=(ln:Int) }:=rfl
       have hrep:Bj 1 [DVal.int IntKind.u8 0,DVal.int IntKind.i64 0,DVal.str [],DVal.int IntKind.i64 0]= [DVal.int IntKind.u8 0,DVal.int IntKind.i64 0,DVal.str [],DVal.int IntKind.i64 0]:=rfl
       have hwn:IntKind.i64.wrap ((k:Int)+(n:Int))=((k+n:Nat):Int):=by rw[IntKind.wrap_i64];omega
       simp(disch:=omega)only[go_sem,e0,e5,e6,e7,hn',hv.dLen,h8',Ca,Ib,Ic,Fv,jH,hsp]
       rw[hrep]
       simp(disch:=omega)only[go_sem,jA,jB,jE,jJ,jH,e5]
       intro ns hns;dsimp only at hns
       simp(disch:=omega)only[go_sem,e0,e5,e6,e7,Ca,Ib,Ic,Fv,jH]
       refine Er.append (m:=1) (hvf.new hns _) rfl (by omega) fun v2 H3 hv3=> ?_
       simp(disch:=omega)only[go_sem,e0,e5,e6,e7]
       refine⟨(k+n,ln,ts++ [{ T with line:=(ln:Int) }]),_,Lq.refl _,(hI _ _ _).2 ?_,by dsimp only;omega⟩
       simp(disch:=omega)only[go_sem,e0,e5,e6,e7,hwn]
       (repeat' apply And.intro)<;>(try first | rfl | assumption | omega)
       ·rw[jC];simp;omega
       ·rw[<-List.drop_drop,<-htk]
       ·have:=hv3.less ((Sub.refl H).up (hv.sub.lo hr8) _)
        rw[jC,List.flatMap_append]
        simpa using this
  ·have:k=src.length:=by omega
   subst this
   simp(disch:=omega)only[go_sem,e0,e5,e6,e7]
   refine Pl.ghost (Ht.tuple1' (pre:= []) hv.ghost rfl rfl) (Pl.refl ⟨?_,rfl⟩)
   rw[List.drop_length,Cr7] at hr
   rw[<-hr];rfl
end Go.Dl

-- Chapter 3: the law's helpers.
namespace Go.Dl
open Go Go.Proofs
set_option maxRecDepth 100000
theorem Ae.monoR {P:Program} {G:Nat->DVal} {f:FuncId} {args:List DVal} {H H2:Ab} {v:DVal} {R:DEnd->Ab->Prop} (h:Ae P G f args H (Bo v H2)) (k:R (.ret v) H2):Ae P G f args H R:=h.mono (by rintro _ _ ⟨rfl,rfl⟩;exact k)
def nmE (s:List UInt8):Ex:= .mk 3 0 0 s [] [] 0 0 0
def Bi (n:Int):Ex:= .mk 1 0 n [] [] [] 0 0 0
def Av3 (o:Int) (a b:Ex):Ex:= .mk 12 o 0 [] [a,b] [] 0 0 0
def Pq (o:Int) (a:Ex):Ex:= .mk 11 o 0 [] [a] [] 0 0 0
def Xj (n:Nat):Int:=if n=0 then 3 else n
def Me (s:List UInt8) (lv n:Int) (want:Ex):Bool:=decide ((Dz (Bv s).1 lv).2.2=0)&&decide ((Dz (Bv s).1 lv).2.1=n)&&Jk (Dz (Bv s).1 lv).1 want
def Xk (s:List UInt8) (lv at':Int):Bool:=Jk (Dz (Bv s).1 lv).1 ex0&&decide ((Dz (Bv s).1 lv).2.1=at')&&decide ((Dz (Bv s).1 lv).2.2=30)
section
variable {G:Nat->DVal} {H:Ab}
theorem Ez (G:Nat->DVal) (H:Ab) (s:List UInt8):Ae Tryz.prog G 7 [.str s] H (Bo (dE (nmE s)) H):=by
 refine Ac Tryz.func7 Tryz.call7 rfl (by kernel_rfl) ?_;simp(disch:=omega)only[go_sem];intro r hr;dsimp only at hr;simp(disch:=omega)only[go_sem];have hs:=fun z=>(Sub.refl H).new hr z;exact Fc.fin (hs _) (Fc.agg (Fc.ex (hs _) (.exs0 (hs _)) (.as0 (hs _)))) ⟨rfl,rfl⟩
theorem Bc (G:Nat->DVal) (H:Ab) (n:Int):Ae Tryz.prog G 14 [.int .i64 n] H (Bo (dE (Bi n)) H):=by
 refine Ac Tryz.func14 Tryz.call14 rfl (by kernel_rfl) ?_;simp(disch:=omega)only[go_sem];intro r hr;dsimp only at hr;simp(disch:=omega)only[go_sem];have hs:=fun z=>(Sub.refl H).new hr z;exact Fc.fin (hs _) (Fc.agg (Fc.ex (hs _) (.exs0 (hs _)) (.as0 (hs _)))) ⟨rfl,rfl⟩
theorem Kb (G:Nat->DVal) (H:Ab) (o:Int) (a b:Ex):Ae Tryz.prog G 79 [.int .u8 o, .agg (dEx a), .agg (dEx b)] H (Bo (dE (Av3 o a b)) H):=by
 have hlx:(dEx a).length=9:=Ai a;have hly:(dEx b).length=9:=Ai b;have hab: [a,b].flatMap dEx=dEx a++dEx b:=by simp
 refine Ac Tryz.func79 Tryz.call79 rfl (by kernel_rfl) ?_;simp(disch:=omega)only[go_sem,DVal.cells];intro r4 hr4;dsimp only at hr4;simp(disch:=omega)only[go_sem,DVal.cells];intro r5 hr5;dsimp only at hr5;obtain⟨m1,m2,hr5'⟩:=Dk7.1 hr5;simp(disch:=omega)only[go_sem];intro r6 hr6;dsimp only at hr6;obtain⟨m3,m4,hr6a⟩:=Dk7.1 hr6;obtain⟨m5,m6,hr6'⟩:=Dk7.1 hr6a;simp(disch:=omega)only[go_sem,m1,m2,m3,m4,m5,m6];rw[Nj hlx hly];simp(disch:=omega)only[go_sem,m1,m2,m3,m4,m5,m6];intro r7 hr7;dsimp only at hr7;obtain⟨p1,p2,hr7a⟩:=Dk7.1 hr7;obtain⟨p3,p4,hr7b⟩:=Dk7.1 hr7a;obtain⟨p5,p6,hr7'⟩:=Dk7.1 hr7b;simp(disch:=omega)only[go_sem,m1,m2,m3,m4,m5,m6,p1,p2,p3,p4,p5,p6];have hs:=(((((Sub.refl H).new hr4 (some (.cells (dEx a) 27))).new hr5 (some (.cells (dEx b) 27))).new hr6 (some (.cells [.int .u8 0, .int .u8 0, .int .i64 0, .str [], .nilSlice, .nilSlice, .int .i64 0, .int .i64 0, .int .i64 0] 27))).new hr7 (some (.cells (dEx a++dEx b) 27))).up hr6' (some (.cells [.int .u8 12, .int .u8 o, .int .i64 0, .str [], .oslice 9 r7 0 2 2, .nilSlice, .int .i64 0, .int .i64 0, .int .i64 0] 27));refine Fc.fin hs (Fc.agg (Fc.ex (l:= [a,b]) hs (Fc.block (e:=27) hs hr7' ?_ ?_) (.as0 hs))) ⟨rfl,rfl⟩
 ·rw[hab];simp [upd,p1,p2]
 ·rw[hab,jC,hlx,hly]
theorem Kc (G:Nat->DVal) (H:Ab) (o:Int) (a:Ex):Ae Tryz.prog G 8 [.int .u8 o, .agg (dEx a)] H (Bo (dE (Pq o a)) H):=by
 have hlx:(dEx a).length=9:=Ai a;refine Ac Tryz.func8 Tryz.call8 rfl (by kernel_rfl) ?_;simp(disch:=omega)only[go_sem,DVal.cells];intro r4 hr4;dsimp only at hr4;simp(disch:=omega)only[go_sem,DVal.cells];intro r6 hr6;dsimp only at hr6;obtain⟨m3,m4,hr6'⟩:=Dk7.1 hr6;simp(disch:=omega)only[go_sem,m3,m4];rw[Lj hlx];simp(disch:=omega)only[go_sem,m3,m4];intro r7 hr7;dsimp only at hr7;obtain⟨p1,p2,hr7a⟩:=Dk7.1 hr7;obtain⟨p3,p4,hr7'⟩:=Dk7.1 hr7a;simp(disch:=omega)only[go_sem,m3,m4,p1,p2,p3,p4];have hs:=((((Sub.refl H).new hr4 (some (.cells (dEx a) 27))).new hr6 (some (.cells [.int .u8 0, .int .u8 0, .int .i64 0, .str [], .nilSlice, .nilSlice, .int .i64 0, .int .i64 0, .int .i64 0] 27))).new hr7 (some (.cells (dEx a) 27))).up hr6' (some (.cells [.int .u8 11, .int .u8 o, .int .i64 0, .str [], .oslice 9 r7 0 1 1, .nilSlice, .int .i64 0, .int .i64 0, .int .i64 0] 27));refine Fc.fin hs (Fc.agg (Fc.ex (l:= [a]) hs (Fc.block (e:=27) hs hr7' ?_ ?_) (.as0 hs))) ⟨rfl,rfl⟩
 ·rw[List.flatMap_singleton];simp [upd,p1,p2]
 ·rw[List.flatMap_singleton,hlx]
theorem Eb (G:Nat->DVal) (H:Ab) (l:List Ex) (hl:l.length<=2):Ae Tryz.prog G 15 [dXs l] H (Bo (dC (.mk (Xj l.length) l)) H):=by
 have hk:([DVal.int .u8 3, .int .u8 1, .int .u8 2]:List DVal)[l.length]? =some (.int .u8 (Xj l.length)):=by
  have:l.length=0\/l.length=1\/l.length=2:=by omega
  rcases this with h | h | h<;>(rw[h];rfl)
 have hl3:(l.length:Int)<3:=by omega
 refine Ac Tryz.func15 Tryz.call15 rfl (by kernel_rfl) ?_;simp(disch:=omega)only[go_sem];intro r2 hr2;dsimp only at hr2;simp(disch:=omega)only[go_sem];intro r3 hr3;dsimp only at hr3;obtain⟨m1,m2,hr3'⟩:=Dk7.1 hr3;simp(disch:=omega)only[go_sem,m1,m2,dXs,hl3,hk,jD];have hs:=fun y z=>((Sub.refl H).new hr2 (some (.cells [.int .u8 0, .nilSlice] 47))).new hr3 y |>.up hr2 z;rw[dC,Qm];exact Pl.sub (hs _ _) (.refl ⟨rfl,rfl⟩)
theorem Io (G:Nat->DVal) (H:Ab) (s:List UInt8) (hs:s.length<=1000000000):Ae Tryz.prog G 10 [.str s] H (Bo (Dd (Bv s).1) H):=by
 refine Ac Tryz.func10 Tryz.call10 rfl (by kernel_rfl) ?_;simp(disch:=omega)only[go_sem];refine(Av2 G H s hs).mono ?_;rintro _ K1 ⟨rfl,rfl⟩;simp(disch:=omega)only[go_sem];exact Pl.refl ⟨rfl,rfl⟩
theorem Bg3 (hG:GX G) (H:Ab) (s:List UInt8) (lv n:Int) (want:Ex) (hs:s.length<=800000) (hT:Ta (Bv s).1) (hl:(Bv s).1.length<=800000) (hF: ∀y,(Dz (Bv s).1 lv).1=y->Cz y<=1099511627776):
  Ae Tryz.prog G 78 [.str s,dI lv,dI n, .agg (dEx want)] H (Bo (.bool (Me s lv n want)) H):=by
 unfold Me;refine Ac Tryz.func78 Tryz.call78 rfl (by kernel_rfl) ?_;simp(disch:=omega)only[go_sem,DVal.cells];intro r7 hr7;dsimp only at hr7;have hs7:=(Sub.refl H).new hr7 (some (.cells (dEx want) 27));simp(disch:=omega)only[go_sem];refine(Io G _ s (by omega)).mono ?_;rintro _ K1 ⟨rfl,rfl⟩;simp(disch:=omega)only[go_sem];refine(Tb hG _ lv hl hT).mono ?_;rintro _ K2 ⟨rfl,rfl⟩;obtain⟨p,hp⟩: ∃p,p=Dz (Bv s).1 lv:=⟨_,rfl⟩;have hFp:=hF p.1 (by rw[hp]);rw[<-hp];simp(disch:=omega)only[go_sem,Au5,dE];intro r9 hr9;dsimp only at hr9;have n79:r7≠r9:=Ad hr9 (Aa _ _ _);have m79:=n79.symm;have hlx:=Ai p.1;have hox:=Bh p.1;have hs9:=hs7.new hr9 (some (.cells (dEx p.1) 27));have h0:(dI p.2.2)= .int .i64 p.2.2:=rfl;simp(disch:=omega)only[go_sem,hlx,hox];by_cases c1:p.2.2=0
 ·by_cases c2:p.2.1=n
  ·simp(disch:=omega)only[go_sem,c1,c2,n79,m79];refine(Wp G _ p.1 want hFp).mono ?_;rintro _ K3 ⟨rfl,rfl⟩;simp(disch:=omega)only[go_sem];exact Pl.sub hs9 (.refl ⟨by simp,rfl⟩)
  ·simp(disch:=omega)only[go_sem,c1,c2,n79,m79];exact Pl.sub hs9 (.refl ⟨by simp,rfl⟩)
 ·simp(disch:=omega)only[go_sem,c1,n79,m79];exact Pl.sub hs9 (.refl ⟨by simp,rfl⟩)
theorem Bg4 (hG:GX G) (H:Ab) (s:List UInt8) (lv n:Int) (hs:s.length<=800000) (hT:Ta (Bv s).1) (hl:(Bv s).1.length<=800000) (hF: ∀y,(Dz (Bv s).1 lv).1=y->Cz y<=1099511627776):
  Ae Tryz.prog G 80 [.str s,dI lv,dI n] H (Bo (.bool (Xk s lv n)) H):=by
 unfold Xk;refine Ac Tryz.func80 Tryz.call80 rfl (by kernel_rfl) ?_;simp(disch:=omega)only[go_sem];refine(Io G _ s (by omega)).mono ?_;rintro _ K1 ⟨rfl,rfl⟩;simp(disch:=omega)only[go_sem];refine(Tb hG _ lv hl hT).mono ?_;rintro _ K2 ⟨rfl,rfl⟩;obtain⟨p,hp⟩: ∃p,p=Dz (Bv s).1 lv:=⟨_,rfl⟩;have hFp:=hF p.1 (by rw[hp]);rw[<-hp];simp(disch:=omega)only[go_sem,Au5,dE];intro r9 hr9;dsimp only at hr9;have hlx:=Ai p.1;have hox:=Bh p.1;have hs9:=(Sub.refl K2).new hr9 (some (.cells (dEx p.1) 27));simp(disch:=omega)only[go_sem,hlx,hox];refine(Df.lent (args':= [.agg (dEx p.1), .agg (dEx ex0)]) (H:=K2) (.cons (Fc.keep hs9 _) (.cons (Fc.ex0 hs9) .nil)) (Wp G h0 p.1 ex0 hFp) rfl).mono ?_;rintro _ K3 ⟨rfl,rfl⟩;by_cases c0:Jk p.1 ex0=true
 ·by_cases c1:p.2.1=n
  ·simp(disch:=omega)only[go_sem,c0,c1];exact Pl.sub hs9 (.refl ⟨by simp,rfl⟩)
  ·simp(disch:=omega)only[go_sem,c0,c1];exact Pl.sub hs9 (.refl ⟨by simp,rfl⟩)
 ·rw[Bool.not_eq_true] at c0;simp(disch:=omega)only[go_sem,c0];exact Pl.sub hs9 (.refl ⟨by simp,rfl⟩)
end
end Go.Dl

-- Chapter 3: awake: the examples.
namespace Go.Dl
open Go Go.Proofs
set_option maxRecDepth 100000
theorem Cj7 {l:List Tok} (h:(l.all fun t=>decide (t.text.length<=9223372036854775807))=true):Ta l:=fun k=>by
 rw[tk,List.getD];cases hk:l[k]? with
 | none=>decide
 | some t=>simpa using List.all_eq_true.1 h t (List.mem_of_getElem? hk)
def okB (s:List UInt8) (lv:Int):Bool:=decide (s.length<=800000)&&((Bv s).1.all fun t=>decide (t.text.length<=9223372036854775807))&&decide ((Bv s).1.length<=800000)&&decide (Cz (Dz (Bv s).1 lv).1<=1099511627776)
theorem Cy0 {s:List UInt8} {lv:Int} (h:okB s lv=true):s.length<=800000/\Ta (Bv s).1/\(Bv s).1.length<=800000/\ ∀y,(Dz (Bv s).1 lv).1=y->Cz y<=1099511627776:=by
 simp only[okB,jF,decide_eq_true_eq] at h;exact⟨h.1.1.1,Cj7 h.1.1.2,h.1.2,fun y e=>by rw[<-e];exact h.2⟩
section
variable {G:Nat->DVal}
theorem Gz (hG:GX G) (H:Ab) (s:List UInt8) (lv n:Int) (want:Ex) (h:(okB s lv&&Me s lv n want)=true):Ae Tryz.prog G 78 [.str s,dI lv,dI n, .agg (dEx want)] H (Bo (.bool true) H):=by
 rw[jF] at h;obtain⟨h1,h2,h3,h4⟩:=Cy0 h.1;have:=Bg3 hG H s lv n want h1 h2 h3 h4;rw[h.2] at this;exact this
theorem Th (hG:GX G) (H:Ab) (s:List UInt8) (lv n:Int) (h:(okB s lv&&Xk s lv n)=true):Ae Tryz.prog G 80 [.str s,dI lv,dI n] H (Bo (.bool true) H):=by
 rw[jF] at h;obtain⟨h1,h2,h3,h4⟩:=Cy0 h.1;have:=Bg4 hG H s lv n h1 h2 h3 h4;rw[h.2] at this;exact this
def eA:Ex:=nmE [65]
def eB:Ex:=nmE [66]
def eC:Ex:=nmE [67]
def Rw:List As:= [.mk [] (nmE [88]), .mk [.mk 1 [nmE [78]]] (Bi 1)]
def Ym:Ex:= .mk 7 0 0 [] [nmE [70]] Rw 0 0 0
def Br2:Ex:= .mk 6 0 0 [70,105,114,115,116] [.mk 5 0 0 [] [Ym] [] 0 0 0] [] 0 0 0
def Qz:Ex:= .mk 9 0 0 [] [] [.mk [.mk 2 [Bi 1,Bi 2], .mk 1 [Bi 4]] (Bi 0), .mk [.mk 3 []] (Bi 1)] 0 0 0
def Br3:Ex:= .mk 14 0 0 [] [nmE [88],Bi 1,Bi 3] [] 0 0 0
def Cy1:Ex:= .mk 8 0 0 [] [nmE [84],eA] [] 0 0 0
def Gq:Ex:=Av3 1 eA (Pq 19 eB)
theorem ex1:(okB [65,32,43,32,66,32,42,32,67] 0&&Me [65,32,43,32,66,32,42,32,67] 0 5 (Av3 1 eA (Av3 3 eB eC)))=true:=by decide+kernel
theorem ex2:(okB [45,32,65,32,43,32,66] 2&&Me [45,32,65,32,43,32,66] 2 4 (Av3 1 (Pq 19 eA) eB))=true:=by decide+kernel
theorem ex3:(okB [70,32,40,88,44,32,78,32,61,62,32,49,41,46,97,108,108,39,70,105,114,115,116] 6&&Me [70,32,40,88,44,32,78,32,61,62,32,49,41,46,97,108,108,39,70,105,114,115,116] 6 12 Br2)=true:=by decide+kernel
theorem ex4:(okB [88,32,110,111,116,32,105,110,32,49,32,46,46,32,51] 0&&Me [88,32,110,111,116,32,105,110,32,49,32,46,46,32,51] 0 6 Br3)=true:=by decide+kernel
theorem ex5:(okB [40,49,32,46,46,32,50,32,124,32,52,32,61,62,32,48,44,32,111,116,104,101,114,115,32,61,62,32,49,41] 5&&Me [40,49,32,46,46,32,50,32,124,32,52,32,61,62,32,48,44,32,111,116,104,101,114,115,32,61,62,32,49,41] 5 13 Qz)=true:=by decide+kernel
theorem ex6:(okB [40,65,41,59] 5&&Me [40,65,41,59] 5 3 eA)=true:=by decide+kernel
theorem ex7:(okB [84,39,40,65,41] 6&&Me [84,39,40,65,41] 6 5 Cy1)=true:=by decide+kernel
theorem ex8:(okB [65,32,97,110,100,32,66,32,111,114,32,67] 0&&Me [65,32,97,110,100,32,66,32,111,114,32,67] 0 3 (Av3 13 eA eB))=true:=by decide+kernel
theorem ex9:(okB [65,32,43] 0&&Xk [65,32,43] 0 2)=true:=by decide+kernel
theorem Dz7:(okB [40,65,59] 0&&Xk [40,65,59] 0 2)=true:=by decide+kernel
theorem Dz8:(okB [41] 0&&Xk [41] 0 0)=true:=by decide+kernel
end
end Go.Dl

-- Chapter 3: awake (printed by gen_v8.py).
namespace Go.Dl
open Go Go.Proofs
set_option maxRecDepth 100000
theorem Ah (u:List DVal):Bj 1 u=u:=by simp [Bj]
theorem Cq (u:List DVal):Bj 2 u=u++u:=by simp [Bj]
theorem Dn (u:List DVal):Bj 3 u=u++(u++u):=by simp [Bj]
theorem Jh (c:List Ch) (e:Ex):dAs (.mk c e)= .vslice (c.flatMap dCh) c.length::dEx e:=Sr _
theorem Ba (k:Int) (l:List Ex):dCh (.mk k l)= [.int .u8 k, .vslice (l.flatMap dEx) l.length]:=Qm _
section
variable {G:Nat->DVal}
set_option maxHeartbeats 16000000 in
theorem Hd (hG:GX G) (H:Ab):Ae Tryz.prog G 18 [] H (Bo (.bool true) H):=by
 have hdA:dE (nmE [65])= .agg (dEx eA):=rfl;have hdB:dE (nmE [66])= .agg (dEx eB):=rfl;have hdC:dE (nmE [67])= .agg (dEx eC):=rfl;have lA:=Ai eA;have oA:=Bh eA;have lB:=Ai eB;have oB:=Bh eB;have lC:=Ai eC;have oC:=Bh eC;refine Ac Tryz.func18 Tryz.call18 rfl (by kernel_rfl) ?_;simp(disch:=omega)only[go_sem];refine(Ez G H [65]).mono ?_;rintro _ K1 ⟨rfl,rfl⟩;simp(disch:=omega)only[go_sem];refine(Ez G K1 [66]).mono ?_;rintro _ K2 ⟨rfl,rfl⟩;simp(disch:=omega)only[go_sem];refine(Ez G K2 [67]).mono ?_;rintro _ K3 ⟨rfl,rfl⟩;simp(disch:=omega)only[go_sem,hdA,hdB,hdC];intro b1 hb1;dsimp only at hb1;obtain⟨K4,hK4⟩: ∃K',K'=upd K3 b1 (some (.cells [.int .u8 0, .int .u8 0, .int .i64 0, .str [], .nilSlice, .nilSlice, .int .i64 0, .int .i64 0, .int .i64 0] 27)):=⟨_,rfl⟩;rw[<-hK4];have gb1:K4 b1=some (.cells [.int .u8 0, .int .u8 0, .int .i64 0, .str [], .nilSlice, .nilSlice, .int .i64 0, .int .i64 0, .int .i64 0] 27):=by rw[hK4];exact Aa _ _ _
 have sK4:Sub K3 K4:=by rw[hK4];exact(Sub.refl _).new hb1 _
 simp(disch:=omega)only[go_sem,hdA,hdB,hdC];intro b2 hb2;dsimp only at hb2;obtain⟨K5,hK5⟩: ∃K',K'=upd K4 b2 (some (.cells [.int .u8 0, .int .u8 0, .int .i64 0, .str [], .nilSlice, .nilSlice, .int .i64 0, .int .i64 0, .int .i64 0] 27)):=⟨_,rfl⟩;rw[<-hK5];have gb2:K5 b2=some (.cells [.int .u8 0, .int .u8 0, .int .i64 0, .str [], .nilSlice, .nilSlice, .int .i64 0, .int .i64 0, .int .i64 0] 27):=by rw[hK5];exact Aa _ _ _
 have sK5:Sub K4 K5:=by rw[hK5];exact(Sub.refl _).new hb2 _
 simp(disch:=omega)only[go_sem,hdA,hdB,hdC];intro b3 hb3;dsimp only at hb3;obtain⟨K6,hK6⟩: ∃K',K'=upd K5 b3 (some (.cells [.int .u8 0, .int .u8 0, .int .i64 0, .str [], .nilSlice, .nilSlice, .int .i64 0, .int .i64 0, .int .i64 0] 27)):=⟨_,rfl⟩;rw[<-hK6];have gb3:K6 b3=some (.cells [.int .u8 0, .int .u8 0, .int .i64 0, .str [], .nilSlice, .nilSlice, .int .i64 0, .int .i64 0, .int .i64 0] 27):=by rw[hK6];exact Aa _ _ _
 have sK6:Sub K5 K6:=by rw[hK6];exact(Sub.refl _).new hb3 _
 have n12:b1≠b2:=Ad hb2 gb1;have n13:b1≠b3:=Ad hb3 (sK5 _ _ gb1);have n23:b2≠b3:=Ad hb3 gb2;have a61:K6 b1=some (.cells [.int .u8 0, .int .u8 0, .int .i64 0, .str [], .nilSlice, .nilSlice, .int .i64 0, .int .i64 0, .int .i64 0] 27):=sK6 _ _ (sK5 _ _ gb1);have a62:K6 b2=some (.cells [.int .u8 0, .int .u8 0, .int .i64 0, .str [], .nilSlice, .nilSlice, .int .i64 0, .int .i64 0, .int .i64 0] 27):=sK6 _ _ gb2;have z2:K3 b2=none:=sK4.lo hb2;have z3:K3 b3=none:=(sK4.trans sK5).lo hb3;simp(disch:=omega)only[go_sem,hdA,hdB,hdC,lA,oA,lB,oB,lC,oC,a61,a62,gb3,n12,n13,n23,n12.symm,n13.symm,n23.symm];obtain⟨K7,hK7⟩: ∃K',K'=upd (upd (upd K6 b1 (some (.cells (dEx eA) 27))) b2 (some (.cells (dEx eB) 27))) b3 (some (.cells (dEx eC) 27)):=⟨_,rfl⟩;rw[<-hK7];have g1:K7 b1=some (.cells (dEx eA) 27):=by rw[hK7];exact Af (Af (Aa _ _ _) n12) n13
 have g2:K7 b2=some (.cells (dEx eB) 27):=by rw[hK7];exact Af (Aa _ _ _) n23
 have g3:K7 b3=some (.cells (dEx eC) 27):=by rw[hK7];exact Aa _ _ _
 have t7:Sub K3 K7:=by rw[hK7];exact(((((sK4.trans sK5).trans sK6).up hb1 _).up z2 _).up z3 _)
 clear hK7 a61 a62 sK6 sK5 sK4 gb1 gb2 gb3;refine Ae.monoR (Ez G _ [70]) ?_;try simp(disch:=omega)only[go_sem,dE,nmE,Bi,Al,List.flatMap_nil,jB,Ah,Cq,Dn,jA,jC,jE,jJ,jL,jM,jR,jI,jG,jH,dC,Ba]
 intro r16 hr16;dsimp only at hr16;try simp(disch:=omega)only[go_sem,dE,nmE,Bi,Al,List.flatMap_nil,jB,Ah,Cq,Dn,jA,jC,jE,jJ,jL,jM,jR,jI,jG,jH,dC,Ba]
 obtain⟨K8,hK8⟩: ∃K',K'=upd K7 r16 (some (.cells [.int .u8 3, .int .u8 0, .int .i64 0, .str [70], .vslice [] 0, .vslice [] 0, .int .i64 0, .int .i64 0, .int .i64 0] 27)):=⟨_,rfl⟩;rw[<-hK8];have y_r16:K8 r16=some (.cells [.int .u8 3, .int .u8 0, .int .i64 0, .str [70], .vslice [] 0, .vslice [] 0, .int .i64 0, .int .i64 0, .int .i64 0] 27):=by rw[hK8];exact Aa _ _ _
 have sK8:Sub K7 K8:=by rw[hK8];exact(Sub.refl _).new hr16 _
 have z_r16:K3 r16=none:=t7.lo hr16;clear hK8;have g1:=sK8 _ _ g1;have g2:=sK8 _ _ g2;have g3:=sK8 _ _ g3;have t7:=t7.trans sK8;refine Ae.monoR (Ez G _ [88]) ?_;try simp(disch:=omega)only[go_sem,dE,nmE,Bi,Al,List.flatMap_nil,jB,Ah,Cq,Dn,jA,jC,jE,jJ,jL,jM,jR,jI,jG,jH,dC,Ba]
 refine Ae.monoR (Ez G _ [78]) ?_;try simp(disch:=omega)only[go_sem,dE,nmE,Bi,Al,List.flatMap_nil,jB,Ah,Cq,Dn,jA,jC,jE,jJ,jL,jM,jR,jI,jG,jH,dC,Ba]
 intro r20 hr20;dsimp only at hr20;try simp(disch:=omega)only[go_sem,dE,nmE,Bi,Al,List.flatMap_nil,jB,Ah,Cq,Dn,jA,jC,jE,jJ,jL,jM,jR,jI,jG,jH,dC,Ba]
 refine Ae.fzA r20 hr20 ?_;have hq:fzs r20 [.int .u8 3, .int .u8 0, .int .i64 0, .str [78], .vslice [] 0, .vslice [] 0, .int .i64 0, .int .i64 0, .int .i64 0] [.oslice 9 r20 0 1 1]= [dXs [nmE [78]]]:=by simp [fzs,fz,dXs,nmE,Bi,Al]
 rw[hq];refine Ae.mono (R:=Bo (dC (.mk 1 [nmE [78]])) K8) (Eb G K8 [nmE [78]] (by decide)) ?_;rintro _ H' ⟨rfl,hH'⟩;have hH2:=hH'.symm;clear hH';subst hH2;clear hq;try simp(disch:=omega)only[go_sem,dE,nmE,Bi,Al,List.flatMap_nil,jB,Ah,Cq,Dn,jA,jC,jE,jJ,jL,jM,jR,jI,jG,jH,dC,Ba,List.flatMap_singleton]
 intro r22 hr22;dsimp only at hr22;try simp(disch:=omega)only[go_sem,dE,nmE,Bi,Al,List.flatMap_nil,jB,Ah,Cq,Dn,jA,jC,jE,jJ,jL,jM,jR,jI,jG,jH,dC,Ba,List.flatMap_singleton]
 obtain⟨K9,hK9⟩: ∃K',K'=upd K8 r22 (some (.cells [.int .u8 1, .vslice [.int .u8 3, .int .u8 0, .int .i64 0, .str [78], .vslice [] 0, .vslice [] 0, .int .i64 0, .int .i64 0, .int .i64 0] 1] 47)):=⟨_,rfl⟩;rw[<-hK9];have y_r22:K9 r22=some (.cells [.int .u8 1, .vslice [.int .u8 3, .int .u8 0, .int .i64 0, .str [78], .vslice [] 0, .vslice [] 0, .int .i64 0, .int .i64 0, .int .i64 0] 1] 47):=by rw[hK9];exact Aa _ _ _
 have sK9:Sub K8 K9:=by rw[hK9];exact(Sub.refl _).new hr22 _
 have z_r22:K3 r22=none:=t7.lo hr22;clear hK9;have y_r16:=sK9 _ _ y_r16;have g1:=sK9 _ _ g1;have g2:=sK9 _ _ g2;have g3:=sK9 _ _ g3;have t7:=t7.trans sK9;refine Ae.monoR (Bc G _ 1) ?_;try simp(disch:=omega)only[go_sem,dE,nmE,Bi,Al,List.flatMap_nil,jB,Ah,Cq,Dn,jA,jC,jE,jJ,jL,jM,jR,jI,jG,jH,dC,Ba]
 intro r25 hr25;dsimp only at hr25;try simp(disch:=omega)only[go_sem,dE,nmE,Bi,Al,List.flatMap_nil,jB,Ah,Cq,Dn,jA,jC,jE,jJ,jL,jM,jR,jI,jG,jH,dC,Ba]
 obtain⟨K10,hK10⟩: ∃K',K'=upd K9 r25 (some (.cells [.nilSlice, .int .u8 3, .int .u8 0, .int .i64 0, .str [88], .vslice [] 0, .vslice [] 0, .int .i64 0, .int .i64 0, .int .i64 0, .oslice 2 r22 0 1 1, .int .u8 1, .int .u8 0, .int .i64 1, .str [], .vslice [] 0, .vslice [] 0, .int .i64 0, .int .i64 0, .int .i64 0] 44)):=⟨_,rfl⟩;rw[<-hK10];have y_r25:K10 r25=some (.cells [.nilSlice, .int .u8 3, .int .u8 0, .int .i64 0, .str [88], .vslice [] 0, .vslice [] 0, .int .i64 0, .int .i64 0, .int .i64 0, .oslice 2 r22 0 1 1, .int .u8 1, .int .u8 0, .int .i64 1, .str [], .vslice [] 0, .vslice [] 0, .int .i64 0, .int .i64 0, .int .i64 0] 44):=by rw[hK10];exact Aa _ _ _
 have sK10:Sub K9 K10:=by rw[hK10];exact(Sub.refl _).new hr25 _
 have z_r25:K3 r25=none:=t7.lo hr25;clear hK10;have y_r16:=sK10 _ _ y_r16;have y_r22:=sK10 _ _ y_r22;have g1:=sK10 _ _ g1;have g2:=sK10 _ _ g2;have g3:=sK10 _ _ g3;have t7:=t7.trans sK10;intro b4 hb4;dsimp only at hb4;try simp(disch:=omega)only[go_sem,dE,nmE,Bi,Al,List.flatMap_nil,jB,Ah,Cq,Dn,jA,jC,jE,jJ,jL,jM,jR,jI,jG,jH,dC,Ba]
 obtain⟨K11,hK11⟩: ∃K',K'=upd K10 b4 (some (.cells [.int .u8 7, .int .u8 0, .int .i64 0, .str [], .oslice 9 r16 0 1 1, .oslice 10 r25 0 2 2, .int .i64 0, .int .i64 0, .int .i64 0] 27)):=⟨_,rfl⟩;rw[<-hK11];have y_b4:K11 b4=some (.cells [.int .u8 7, .int .u8 0, .int .i64 0, .str [], .oslice 9 r16 0 1 1, .oslice 10 r25 0 2 2, .int .i64 0, .int .i64 0, .int .i64 0] 27):=by rw[hK11];exact Aa _ _ _
 have sK11:Sub K10 K11:=by rw[hK11];exact(Sub.refl _).new hb4 _
 have z_b4:K3 b4=none:=t7.lo hb4;clear hK11;have y_r16:=sK11 _ _ y_r16;have y_r22:=sK11 _ _ y_r22;have y_r25:=sK11 _ _ y_r25;have g1:=sK11 _ _ g1;have g2:=sK11 _ _ g2;have g3:=sK11 _ _ g3;have t7:=t7.trans sK11;try simp(disch:=omega)only[go_sem,dE,nmE,Bi,Al,List.flatMap_nil,jB,Ah,Cq,Dn,jA,jC,jE,jJ,jL,jM,jR,jI,jG,jH,dC,Ba,y_b4]
 intro r28 hr28;dsimp only at hr28;try simp(disch:=omega)only[go_sem,dE,nmE,Bi,Al,List.flatMap_nil,jB,Ah,Cq,Dn,jA,jC,jE,jJ,jL,jM,jR,jI,jG,jH,dC,Ba,y_b4]
 obtain⟨K12,hK12⟩: ∃K',K'=upd K11 r28 (some (.cells [.int .u8 7, .int .u8 0, .int .i64 0, .str [], .oslice 9 r16 0 1 1, .oslice 10 r25 0 2 2, .int .i64 0, .int .i64 0, .int .i64 0] 27)):=⟨_,rfl⟩;rw[<-hK12];have y_r28:K12 r28=some (.cells [.int .u8 7, .int .u8 0, .int .i64 0, .str [], .oslice 9 r16 0 1 1, .oslice 10 r25 0 2 2, .int .i64 0, .int .i64 0, .int .i64 0] 27):=by rw[hK12];exact Aa _ _ _
 have sK12:Sub K11 K12:=by rw[hK12];exact(Sub.refl _).new hr28 _
 have z_r28:K3 r28=none:=t7.lo hr28;clear hK12;have y_r16:=sK12 _ _ y_r16;have y_r22:=sK12 _ _ y_r22;have y_r25:=sK12 _ _ y_r25;have y_b4:=sK12 _ _ y_b4;have g1:=sK12 _ _ g1;have g2:=sK12 _ _ g2;have g3:=sK12 _ _ g3;have t7:=t7.trans sK12;intro r30 hr30;dsimp only at hr30;try simp(disch:=omega)only[go_sem,dE,nmE,Bi,Al,List.flatMap_nil,jB,Ah,Cq,Dn,jA,jC,jE,jJ,jL,jM,jR,jI,jG,jH,dC,Ba]
 obtain⟨K13,hK13⟩: ∃K',K'=upd K12 r30 (some (.cells [.int .u8 5, .int .u8 0, .int .i64 0, .str [], .oslice 9 r28 0 1 1, .nilSlice, .int .i64 0, .int .i64 0, .int .i64 0] 27)):=⟨_,rfl⟩;rw[<-hK13];have y_r30:K13 r30=some (.cells [.int .u8 5, .int .u8 0, .int .i64 0, .str [], .oslice 9 r28 0 1 1, .nilSlice, .int .i64 0, .int .i64 0, .int .i64 0] 27):=by rw[hK13];exact Aa _ _ _
 have sK13:Sub K12 K13:=by rw[hK13];exact(Sub.refl _).new hr30 _
 have z_r30:K3 r30=none:=t7.lo hr30;clear hK13;have y_r16:=sK13 _ _ y_r16;have y_r22:=sK13 _ _ y_r22;have y_r25:=sK13 _ _ y_r25;have y_b4:=sK13 _ _ y_b4;have y_r28:=sK13 _ _ y_r28;have g1:=sK13 _ _ g1;have g2:=sK13 _ _ g2;have g3:=sK13 _ _ g3;have t7:=t7.trans sK13;intro b5 hb5;dsimp only at hb5;try simp(disch:=omega)only[go_sem,dE,nmE,Bi,Al,List.flatMap_nil,jB,Ah,Cq,Dn,jA,jC,jE,jJ,jL,jM,jR,jI,jG,jH,dC,Ba]
 obtain⟨K14,hK14⟩: ∃K',K'=upd K13 b5 (some (.cells [.int .u8 6, .int .u8 0, .int .i64 0, .str [70,105,114,115,116], .oslice 9 r30 0 1 1, .nilSlice, .int .i64 0, .int .i64 0, .int .i64 0] 27)):=⟨_,rfl⟩;rw[<-hK14];have y_b5:K14 b5=some (.cells [.int .u8 6, .int .u8 0, .int .i64 0, .str [70,105,114,115,116], .oslice 9 r30 0 1 1, .nilSlice, .int .i64 0, .int .i64 0, .int .i64 0] 27):=by rw[hK14];exact Aa _ _ _
 have sK14:Sub K13 K14:=by rw[hK14];exact(Sub.refl _).new hb5 _
 have z_b5:K3 b5=none:=t7.lo hb5;clear hK14;have y_r16:=sK14 _ _ y_r16;have y_r22:=sK14 _ _ y_r22;have y_r25:=sK14 _ _ y_r25;have y_b4:=sK14 _ _ y_b4;have y_r28:=sK14 _ _ y_r28;have y_r30:=sK14 _ _ y_r30;have g1:=sK14 _ _ g1;have g2:=sK14 _ _ g2;have g3:=sK14 _ _ g3;have t7:=t7.trans sK14;refine Ae.monoR (Bc G _ 1) ?_;try simp(disch:=omega)only[go_sem,dE,nmE,Bi,Al,List.flatMap_nil,jB,Ah,Cq,Dn,jA,jC,jE,jJ,jL,jM,jR,jI,jG,jH,dC,Ba]
 refine Ae.monoR (Bc G _ 2) ?_;try simp(disch:=omega)only[go_sem,dE,nmE,Bi,Al,List.flatMap_nil,jB,Ah,Cq,Dn,jA,jC,jE,jJ,jL,jM,jR,jI,jG,jH,dC,Ba]
 intro r34 hr34;dsimp only at hr34;try simp(disch:=omega)only[go_sem,dE,nmE,Bi,Al,List.flatMap_nil,jB,Ah,Cq,Dn,jA,jC,jE,jJ,jL,jM,jR,jI,jG,jH,dC,Ba]
 refine Ae.fzA r34 hr34 ?_;have hq:fzs r34 [.int .u8 1, .int .u8 0, .int .i64 1, .str [], .vslice [] 0, .vslice [] 0, .int .i64 0, .int .i64 0, .int .i64 0, .int .u8 1, .int .u8 0, .int .i64 2, .str [], .vslice [] 0, .vslice [] 0, .int .i64 0, .int .i64 0, .int .i64 0] [.oslice 9 r34 0 2 2]= [dXs [Bi 1,Bi 2]]:=by simp [fzs,fz,dXs,nmE,Bi,Al]
 rw[hq];refine Ae.mono (R:=Bo (dC (.mk 2 [Bi 1,Bi 2])) K14) (Eb G K14 [Bi 1,Bi 2] (by decide)) ?_;rintro _ H' ⟨rfl,hH'⟩;have hH2:=hH'.symm;clear hH';subst hH2;clear hq;try simp(disch:=omega)only[go_sem,dE,nmE,Bi,Al,List.flatMap_nil,jB,Ah,Cq,Dn,jA,jC,jE,jJ,jL,jM,jR,jI,jG,jH,dC,Ba,List.flatMap_cons]
 refine Ae.monoR (Bc G _ 4) ?_;try simp(disch:=omega)only[go_sem,dE,nmE,Bi,Al,List.flatMap_nil,jB,Ah,Cq,Dn,jA,jC,jE,jJ,jL,jM,jR,jI,jG,jH,dC,Ba]
 intro r37 hr37;dsimp only at hr37;try simp(disch:=omega)only[go_sem,dE,nmE,Bi,Al,List.flatMap_nil,jB,Ah,Cq,Dn,jA,jC,jE,jJ,jL,jM,jR,jI,jG,jH,dC,Ba]
 refine Ae.fzA r37 hr37 ?_;have hq:fzs r37 [.int .u8 1, .int .u8 0, .int .i64 4, .str [], .vslice [] 0, .vslice [] 0, .int .i64 0, .int .i64 0, .int .i64 0] [.oslice 9 r37 0 1 1]= [dXs [Bi 4]]:=by simp [fzs,fz,dXs,nmE,Bi,Al]
 rw[hq];refine Ae.mono (R:=Bo (dC (.mk 1 [Bi 4])) K14) (Eb G K14 [Bi 4] (by decide)) ?_;rintro _ H' ⟨rfl,hH'⟩;have hH2:=hH'.symm;clear hH';subst hH2;clear hq;try simp(disch:=omega)only[go_sem,dE,nmE,Bi,Al,List.flatMap_nil,jB,Ah,Cq,Dn,jA,jC,jE,jJ,jL,jM,jR,jI,jG,jH,dC,Ba,List.flatMap_cons]
 intro r39 hr39;dsimp only at hr39;try simp(disch:=omega)only[go_sem,dE,nmE,Bi,Al,List.flatMap_nil,jB,Ah,Cq,Dn,jA,jC,jE,jJ,jL,jM,jR,jI,jG,jH,dC,Ba,List.flatMap_cons]
 obtain⟨K15,hK15⟩: ∃K',K'=upd K14 r39 (some (.cells [.int .u8 2, .vslice [.int .u8 1, .int .u8 0, .int .i64 1, .str [], .vslice [] 0, .vslice [] 0, .int .i64 0, .int .i64 0, .int .i64 0, .int .u8 1, .int .u8 0, .int .i64 2, .str [], .vslice [] 0, .vslice [] 0, .int .i64 0, .int .i64 0, .int .i64 0] 2, .int .u8 1, .vslice [.int .u8 1, .int .u8 0, .int .i64 4, .str [], .vslice [] 0, .vslice [] 0, .int .i64 0, .int .i64 0, .int .i64 0] 1] 47)):=⟨_,rfl⟩;rw[<-hK15];have y_r39:K15 r39=some (.cells [.int .u8 2, .vslice [.int .u8 1, .int .u8 0, .int .i64 1, .str [], .vslice [] 0, .vslice [] 0, .int .i64 0, .int .i64 0, .int .i64 0, .int .u8 1, .int .u8 0, .int .i64 2, .str [], .vslice [] 0, .vslice [] 0, .int .i64 0, .int .i64 0, .int .i64 0] 2, .int .u8 1, .vslice [.int .u8 1, .int .u8 0, .int .i64 4, .str [], .vslice [] 0, .vslice [] 0, .int .i64 0, .int .i64 0, .int .i64 0] 1] 47):=by rw[hK15];exact Aa _ _ _
 have sK15:Sub K14 K15:=by rw[hK15];exact(Sub.refl _).new hr39 _
 have z_r39:K3 r39=none:=t7.lo hr39;clear hK15;have y_r16:=sK15 _ _ y_r16;have y_r22:=sK15 _ _ y_r22;have y_r25:=sK15 _ _ y_r25;have y_b4:=sK15 _ _ y_b4;have y_r28:=sK15 _ _ y_r28;have y_r30:=sK15 _ _ y_r30;have y_b5:=sK15 _ _ y_b5;have g1:=sK15 _ _ g1;have g2:=sK15 _ _ g2;have g3:=sK15 _ _ g3;have t7:=t7.trans sK15;refine Ae.monoR (Bc G _ 0) ?_;try simp(disch:=omega)only[go_sem,dE,nmE,Bi,Al,List.flatMap_nil,jB,Ah,Cq,Dn,jA,jC,jE,jJ,jL,jM,jR,jI,jG,jH,dC,Ba]
 refine Ae.leArgs (args':= [dXs []]) (Bm4.cons .nil .nil) ?_;refine Ae.mono (R:=Bo (dC (.mk 3 [])) K15) (Eb G K15 [] (by decide)) ?_;rintro _ H' ⟨rfl,hH'⟩;have hH2:=hH'.symm;clear hH';subst hH2;try simp(disch:=omega)only[go_sem,dE,nmE,Bi,Al,List.flatMap_nil,jB,Ah,Cq,Dn,jA,jC,jE,jJ,jL,jM,jR,jI,jG,jH,dC,Ba]
 intro r43 hr43;dsimp only at hr43;try simp(disch:=omega)only[go_sem,dE,nmE,Bi,Al,List.flatMap_nil,jB,Ah,Cq,Dn,jA,jC,jE,jJ,jL,jM,jR,jI,jG,jH,dC,Ba]
 obtain⟨K16,hK16⟩: ∃K',K'=upd K15 r43 (some (.cells [.int .u8 3, .vslice [] 0] 47)):=⟨_,rfl⟩;rw[<-hK16];have y_r43:K16 r43=some (.cells [.int .u8 3, .vslice [] 0] 47):=by rw[hK16];exact Aa _ _ _
 have sK16:Sub K15 K16:=by rw[hK16];exact(Sub.refl _).new hr43 _
 have z_r43:K3 r43=none:=t7.lo hr43;clear hK16;have y_r16:=sK16 _ _ y_r16;have y_r22:=sK16 _ _ y_r22;have y_r25:=sK16 _ _ y_r25;have y_b4:=sK16 _ _ y_b4;have y_r28:=sK16 _ _ y_r28;have y_r30:=sK16 _ _ y_r30;have y_b5:=sK16 _ _ y_b5;have y_r39:=sK16 _ _ y_r39;have g1:=sK16 _ _ g1;have g2:=sK16 _ _ g2;have g3:=sK16 _ _ g3;have t7:=t7.trans sK16;refine Ae.monoR (Bc G _ 1) ?_;try simp(disch:=omega)only[go_sem,dE,nmE,Bi,Al,List.flatMap_nil,jB,Ah,Cq,Dn,jA,jC,jE,jJ,jL,jM,jR,jI,jG,jH,dC,Ba]
 intro r46 hr46;dsimp only at hr46;try simp(disch:=omega)only[go_sem,dE,nmE,Bi,Al,List.flatMap_nil,jB,Ah,Cq,Dn,jA,jC,jE,jJ,jL,jM,jR,jI,jG,jH,dC,Ba]
 obtain⟨K17,hK17⟩: ∃K',K'=upd K16 r46 (some (.cells [.oslice 2 r39 0 2 2, .int .u8 1, .int .u8 0, .int .i64 0, .str [], .vslice [] 0, .vslice [] 0, .int .i64 0, .int .i64 0, .int .i64 0, .oslice 2 r43 0 1 1, .int .u8 1, .int .u8 0, .int .i64 1, .str [], .vslice [] 0, .vslice [] 0, .int .i64 0, .int .i64 0, .int .i64 0] 44)):=⟨_,rfl⟩;rw[<-hK17];have y_r46:K17 r46=some (.cells [.oslice 2 r39 0 2 2, .int .u8 1, .int .u8 0, .int .i64 0, .str [], .vslice [] 0, .vslice [] 0, .int .i64 0, .int .i64 0, .int .i64 0, .oslice 2 r43 0 1 1, .int .u8 1, .int .u8 0, .int .i64 1, .str [], .vslice [] 0, .vslice [] 0, .int .i64 0, .int .i64 0, .int .i64 0] 44):=by rw[hK17];exact Aa _ _ _
 have sK17:Sub K16 K17:=by rw[hK17];exact(Sub.refl _).new hr46 _
 have z_r46:K3 r46=none:=t7.lo hr46;clear hK17;have y_r16:=sK17 _ _ y_r16;have y_r22:=sK17 _ _ y_r22;have y_r25:=sK17 _ _ y_r25;have y_b4:=sK17 _ _ y_b4;have y_r28:=sK17 _ _ y_r28;have y_r30:=sK17 _ _ y_r30;have y_b5:=sK17 _ _ y_b5;have y_r39:=sK17 _ _ y_r39;have y_r43:=sK17 _ _ y_r43;have g1:=sK17 _ _ g1;have g2:=sK17 _ _ g2;have g3:=sK17 _ _ g3;have t7:=t7.trans sK17;intro b6 hb6;dsimp only at hb6;try simp(disch:=omega)only[go_sem,dE,nmE,Bi,Al,List.flatMap_nil,jB,Ah,Cq,Dn,jA,jC,jE,jJ,jL,jM,jR,jI,jG,jH,dC,Ba]
 obtain⟨K18,hK18⟩: ∃K',K'=upd K17 b6 (some (.cells [.int .u8 9, .int .u8 0, .int .i64 0, .str [], .nilSlice, .oslice 10 r46 0 2 2, .int .i64 0, .int .i64 0, .int .i64 0] 27)):=⟨_,rfl⟩;rw[<-hK18];have y_b6:K18 b6=some (.cells [.int .u8 9, .int .u8 0, .int .i64 0, .str [], .nilSlice, .oslice 10 r46 0 2 2, .int .i64 0, .int .i64 0, .int .i64 0] 27):=by rw[hK18];exact Aa _ _ _
 have sK18:Sub K17 K18:=by rw[hK18];exact(Sub.refl _).new hb6 _
 have z_b6:K3 b6=none:=t7.lo hb6;clear hK18;have y_r16:=sK18 _ _ y_r16;have y_r22:=sK18 _ _ y_r22;have y_r25:=sK18 _ _ y_r25;have y_b4:=sK18 _ _ y_b4;have y_r28:=sK18 _ _ y_r28;have y_r30:=sK18 _ _ y_r30;have y_b5:=sK18 _ _ y_b5;have y_r39:=sK18 _ _ y_r39;have y_r43:=sK18 _ _ y_r43;have y_r46:=sK18 _ _ y_r46;have g1:=sK18 _ _ g1;have g2:=sK18 _ _ g2;have g3:=sK18 _ _ g3;have t7:=t7.trans sK18;clear sK8 sK9 sK10 sK11 sK12 sK13 sK14 sK15 sK16 sK17 sK18;have q_r16:Df K18 [.int .u8 3, .int .u8 0, .int .i64 0, .str [70], .vslice [] 0, .vslice [] 0, .int .i64 0, .int .i64 0, .int .i64 0] K3 ([nmE [70]].flatMap dEx):=by
  rw[show [nmE [70]].flatMap dEx=([.int .u8 3, .int .u8 0, .int .i64 0, .str [70], .vslice [] 0, .vslice [] 0, .int .i64 0, .int .i64 0, .int .i64 0]:List DVal) from by simp [nmE,Bi,Al,Ba,Jh,Rw,Qz,Ex.a]];exact Df.keep t7 _
 have p_r16:Fc K18 (.oslice 9 r16 0 1 1) K3 (.vslice ([nmE [70]].flatMap dEx) 1):=Fc.cells t7 z_r16 y_r16 rfl q_r16;have q_r22:Df K18 [.int .u8 1, .vslice [.int .u8 3, .int .u8 0, .int .i64 0, .str [78], .vslice [] 0, .vslice [] 0, .int .i64 0, .int .i64 0, .int .i64 0] 1] K3 ([Ch.mk 1 [nmE [78]]].flatMap dCh):=by
  rw[show [Ch.mk 1 [nmE [78]]].flatMap dCh=([.int .u8 1, .vslice [.int .u8 3, .int .u8 0, .int .i64 0, .str [78], .vslice [] 0, .vslice [] 0, .int .i64 0, .int .i64 0, .int .i64 0] 1]:List DVal) from by simp [nmE,Bi,Al,Ba,Jh,Rw,Qz,Ex.a]];exact Df.keep t7 _
 have p_r22:Fc K18 (.oslice 2 r22 0 1 1) K3 (.vslice ([Ch.mk 1 [nmE [78]]].flatMap dCh) 1):=Fc.cells t7 z_r22 y_r22 rfl q_r22;have q_r25:Df K18 [.nilSlice, .int .u8 3, .int .u8 0, .int .i64 0, .str [88], .vslice [] 0, .vslice [] 0, .int .i64 0, .int .i64 0, .int .i64 0, .oslice 2 r22 0 1 1, .int .u8 1, .int .u8 0, .int .i64 1, .str [], .vslice [] 0, .vslice [] 0, .int .i64 0, .int .i64 0, .int .i64 0] K3 (Rw.flatMap dAs):=by
  rw[show Rw.flatMap dAs=([.vslice [] 0, .int .u8 3, .int .u8 0, .int .i64 0, .str [88], .vslice [] 0, .vslice [] 0, .int .i64 0, .int .i64 0, .int .i64 0, .vslice ([Ch.mk 1 [nmE [78]]].flatMap dCh) 1, .int .u8 1, .int .u8 0, .int .i64 1, .str [], .vslice [] 0, .vslice [] 0, .int .i64 0, .int .i64 0, .int .i64 0]:List DVal) from by simp [nmE,Bi,Al,Ba,Jh,Rw,Qz,Ex.a]];exact .cons (Fc.nil t7) (.cons (Fc.keep t7 _) (.cons (Fc.keep t7 _) (.cons (Fc.keep t7 _) (.cons (Fc.keep t7 _) (.cons (Fc.keep t7 _) (.cons (Fc.keep t7 _) (.cons (Fc.keep t7 _) (.cons (Fc.keep t7 _) (.cons (Fc.keep t7 _) (.cons p_r22 (.cons (Fc.keep t7 _) (.cons (Fc.keep t7 _) (.cons (Fc.keep t7 _) (.cons (Fc.keep t7 _) (.cons (Fc.keep t7 _) (.cons (Fc.keep t7 _) (.cons (Fc.keep t7 _) (.cons (Fc.keep t7 _) (.cons (Fc.keep t7 _) (.nil))))))))))))))))))))
 have p_r25:Fc K18 (.oslice 10 r25 0 2 2) K3 (.vslice (Rw.flatMap dAs) 2):=Fc.cells t7 z_r25 y_r25 rfl q_r25;have q_call:Df K18 [.int .u8 7, .int .u8 0, .int .i64 0, .str [], .oslice 9 r16 0 1 1, .oslice 10 r25 0 2 2, .int .i64 0, .int .i64 0, .int .i64 0] K3 (dEx Ym):=Fc.ex (l:= [nmE [70]]) (a:=Rw) t7 p_r16 p_r25;have q_r28:Df K18 [.int .u8 7, .int .u8 0, .int .i64 0, .str [], .oslice 9 r16 0 1 1, .oslice 10 r25 0 2 2, .int .i64 0, .int .i64 0, .int .i64 0] K3 ([Ym].flatMap dEx):=by rw[List.flatMap_singleton];exact q_call
 have p_r28:Fc K18 (.oslice 9 r28 0 1 1) K3 (.vslice ([Ym].flatMap dEx) 1):=Fc.cells t7 z_r28 y_r28 rfl q_r28;have q_r30:Df K18 [.int .u8 5, .int .u8 0, .int .i64 0, .str [], .oslice 9 r28 0 1 1, .nilSlice, .int .i64 0, .int .i64 0, .int .i64 0] K3 ([Ex.mk 5 0 0 [] [Ym] [] 0 0 0].flatMap dEx):=by rw[List.flatMap_singleton];exact Fc.ex (l:= [Ym]) (a:= []) t7 p_r28 (.as0 t7)
 have p_r30:Fc K18 (.oslice 9 r30 0 1 1) K3 (.vslice ([Ex.mk 5 0 0 [] [Ym] [] 0 0 0].flatMap dEx) 1):=Fc.cells t7 z_r30 y_r30 rfl q_r30;have q_b5:Df K18 [.int .u8 6, .int .u8 0, .int .i64 0, .str [70,105,114,115,116], .oslice 9 r30 0 1 1, .nilSlice, .int .i64 0, .int .i64 0, .int .i64 0] K3 (dEx Br2):=Fc.ex (l:= [Ex.mk 5 0 0 [] [Ym] [] 0 0 0]) (a:= []) t7 p_r30 (.as0 t7);clear q_r16 q_r22 q_r25 q_r28 q_r30 p_r16 p_r22 p_r25 p_r28 p_r30 q_call;clear y_r16 z_r16;clear y_r22 z_r22;clear y_r25 z_r25;clear y_b4 z_b4;clear y_r28 z_r28;clear y_r30 z_r30;try simp(disch:=omega)only[go_sem,dE,nmE,Bi,Al,List.flatMap_nil,jB,Ah,Cq,Dn,jA,jC,jE,jJ,jL,jM,jR,jI,jG,jH,dC,Ba,g1,g2,g3]
 refine Am (by kernel_rfl) (.take 0 (.take 1 (.take 2 (.go 3 [0] (.go 4 [] (.go 5 [] (.take 6 (.take 7 (.take 9 (.go 8 [9] (.go 10 [] (.go 11 [] (.take 12 (.take 13 (.take 14 (.go 15 [] (.take 16 (.take 17 (.go 18 [] (.go 19 [] (.go 20 [] (.go 21 [] (.take 22 (.go 23 [] (.take 24 (.take 25 .done)))))))))))))))))))))))))) (by kernel_rfl) ?_;try simp(disch:=omega)only[go_sem,dE,nmE,Bi,Al,List.flatMap_nil,jB,Ah,Cq,Dn,jA,jC,jE,jJ,jL,jM,jR,jI,jG,jH,dC,Ba,g1,g2,g3]
 refine Ae.monoR (Kb G K18 3 eB eC) ?_;simp(disch:=omega)only[go_sem,g1,g2,g3,dE];refine Ae.monoR (Kb G K18 1 eA (Av3 3 eB eC)) ?_;simp(disch:=omega)only[go_sem,g1,g2,g3,dE];refine Ae.monoR (Gz hG K18 _ 0 5 _ ex1) ?_;simp(disch:=omega)only[go_sem,g1,g2,g3,dE];refine Ae.monoR (Kc G K18 19 eA) ?_;simp(disch:=omega)only[go_sem,g1,g2,g3,dE];refine Ae.monoR (Kb G K18 1 (Pq 19 eA) eB) ?_;simp(disch:=omega)only[go_sem,g1,g2,g3,dE];refine Ae.monoR (Gz hG K18 _ 2 4 _ ex2) ?_;simp(disch:=omega)only[go_sem,g1,g2,g3,dE,y_b5];refine(Df.lent (H:=K3) (args':= [.str _,dI 6,dI 12, .agg (dEx Br2)]) (.cons (.keep t7 _) (.cons (.keep t7 _) (.cons (.keep t7 _) (.cons (Fc.agg q_b5) .nil)))) (Gz hG h0 _ 6 12 _ ex3) rfl).mono ?_;rintro _ H' ⟨rfl,hH'⟩;have hH2:=hH'.symm;clear hH';subst hH2;clear q_b5 y_b5;simp(disch:=omega)only[go_sem,g1,g2,g3,dE];refine Ae.monoR (Ez G _ [88]) ?_;try simp(disch:=omega)only[go_sem,dE,nmE,Bi,Al,List.flatMap_nil,jB,Ah,Cq,Dn,jA,jC,jE,jJ,jL,jM,jR,jI,jG,jH,dC,Ba]
 refine Ae.monoR (Bc G _ 1) ?_;try simp(disch:=omega)only[go_sem,dE,nmE,Bi,Al,List.flatMap_nil,jB,Ah,Cq,Dn,jA,jC,jE,jJ,jL,jM,jR,jI,jG,jH,dC,Ba]
 refine Ae.monoR (Bc G _ 3) ?_;try simp(disch:=omega)only[go_sem,dE,nmE,Bi,Al,List.flatMap_nil,jB,Ah,Cq,Dn,jA,jC,jE,jJ,jL,jM,jR,jI,jG,jH,dC,Ba]
 intro r69 hr69;dsimp only at hr69;try simp(disch:=omega)only[go_sem,dE,nmE,Bi,Al,List.flatMap_nil,jB,Ah,Cq,Dn,jA,jC,jE,jJ,jL,jM,jR,jI,jG,jH,dC,Ba]
 obtain⟨K19,hK19⟩: ∃K',K'=upd K18 r69 (some (.cells [.int .u8 3, .int .u8 0, .int .i64 0, .str [88], .vslice [] 0, .vslice [] 0, .int .i64 0, .int .i64 0, .int .i64 0, .int .u8 1, .int .u8 0, .int .i64 1, .str [], .vslice [] 0, .vslice [] 0, .int .i64 0, .int .i64 0, .int .i64 0, .int .u8 1, .int .u8 0, .int .i64 3, .str [], .vslice [] 0, .vslice [] 0, .int .i64 0, .int .i64 0, .int .i64 0] 27)):=⟨_,rfl⟩;rw[<-hK19];have y_r69:K19 r69=some (.cells [.int .u8 3, .int .u8 0, .int .i64 0, .str [88], .vslice [] 0, .vslice [] 0, .int .i64 0, .int .i64 0, .int .i64 0, .int .u8 1, .int .u8 0, .int .i64 1, .str [], .vslice [] 0, .vslice [] 0, .int .i64 0, .int .i64 0, .int .i64 0, .int .u8 1, .int .u8 0, .int .i64 3, .str [], .vslice [] 0, .vslice [] 0, .int .i64 0, .int .i64 0, .int .i64 0] 27):=by rw[hK19];exact Aa _ _ _
 have sK19:Sub K18 K19:=by rw[hK19];exact(Sub.refl _).new hr69 _
 have z_r69:K3 r69=none:=t7.lo hr69;clear hK19;have y_r39:=sK19 _ _ y_r39;have y_r43:=sK19 _ _ y_r43;have y_r46:=sK19 _ _ y_r46;have y_b6:=sK19 _ _ y_b6;have g1:=sK19 _ _ g1;have g2:=sK19 _ _ g2;have g3:=sK19 _ _ g3;have t7:=t7.trans sK19;have q_r69:Df K19 [.int .u8 3, .int .u8 0, .int .i64 0, .str [88], .vslice [] 0, .vslice [] 0, .int .i64 0, .int .i64 0, .int .i64 0, .int .u8 1, .int .u8 0, .int .i64 1, .str [], .vslice [] 0, .vslice [] 0, .int .i64 0, .int .i64 0, .int .i64 0, .int .u8 1, .int .u8 0, .int .i64 3, .str [], .vslice [] 0, .vslice [] 0, .int .i64 0, .int .i64 0, .int .i64 0] K3 ([nmE [88],Bi 1,Bi 3].flatMap dEx):=by
  rw[show [nmE [88],Bi 1,Bi 3].flatMap dEx=([.int .u8 3, .int .u8 0, .int .i64 0, .str [88], .vslice [] 0, .vslice [] 0, .int .i64 0, .int .i64 0, .int .i64 0, .int .u8 1, .int .u8 0, .int .i64 1, .str [], .vslice [] 0, .vslice [] 0, .int .i64 0, .int .i64 0, .int .i64 0, .int .u8 1, .int .u8 0, .int .i64 3, .str [], .vslice [] 0, .vslice [] 0, .int .i64 0, .int .i64 0, .int .i64 0]:List DVal) from by simp [nmE,Bi,Al,Ba,Jh,Rw,Qz,Ex.a]];exact Df.keep t7 _
 have p_r69:Fc K19 (.oslice 9 r69 0 3 3) K3 (.vslice ([nmE [88],Bi 1,Bi 3].flatMap dEx) 3):=Fc.cells t7 z_r69 y_r69 rfl q_r69;have q_ni:Df K19 [.int .u8 14, .int .u8 0, .int .i64 0, .str [], .oslice 9 r69 0 3 3, .nilSlice, .int .i64 0, .int .i64 0, .int .i64 0] K3 (dEx Br3):=Fc.ex (l:= [nmE [88],Bi 1,Bi 3]) (a:= []) t7 p_r69 (.as0 t7);try simp(disch:=omega)only[go_sem,dE,nmE,Bi,Al,List.flatMap_nil,jB,Ah,Cq,Dn,jA,jC,jE,jJ,jL,jM,jR,jI,jG,jH,dC,Ba]
 refine(Df.lent (H:=K3) (args':= [.str _,dI 0,dI 6, .agg (dEx Br3)]) (.cons (.keep t7 _) (.cons (.keep t7 _) (.cons (.keep t7 _) (.cons (Fc.agg q_ni) .nil)))) (Gz hG h0 _ 0 6 _ ex4) rfl).mono ?_;rintro _ H' ⟨rfl,hH'⟩;have hH2:=hH'.symm;clear hH';subst hH2;have q_r39:Df K19 [.int .u8 2, .vslice [.int .u8 1, .int .u8 0, .int .i64 1, .str [], .vslice [] 0, .vslice [] 0, .int .i64 0, .int .i64 0, .int .i64 0, .int .u8 1, .int .u8 0, .int .i64 2, .str [], .vslice [] 0, .vslice [] 0, .int .i64 0, .int .i64 0, .int .i64 0] 2, .int .u8 1, .vslice [.int .u8 1, .int .u8 0, .int .i64 4, .str [], .vslice [] 0, .vslice [] 0, .int .i64 0, .int .i64 0, .int .i64 0] 1] K3 ([Ch.mk 2 [Bi 1,Bi 2],Ch.mk 1 [Bi 4]].flatMap dCh):=by
  rw[show [Ch.mk 2 [Bi 1,Bi 2],Ch.mk 1 [Bi 4]].flatMap dCh=([.int .u8 2, .vslice [.int .u8 1, .int .u8 0, .int .i64 1, .str [], .vslice [] 0, .vslice [] 0, .int .i64 0, .int .i64 0, .int .i64 0, .int .u8 1, .int .u8 0, .int .i64 2, .str [], .vslice [] 0, .vslice [] 0, .int .i64 0, .int .i64 0, .int .i64 0] 2, .int .u8 1, .vslice [.int .u8 1, .int .u8 0, .int .i64 4, .str [], .vslice [] 0, .vslice [] 0, .int .i64 0, .int .i64 0, .int .i64 0] 1]:List DVal) from by simp [nmE,Bi,Al,Ba,Jh,Rw,Qz,Ex.a]];exact Df.keep t7 _
 have p_r39:Fc K19 (.oslice 2 r39 0 2 2) K3 (.vslice ([Ch.mk 2 [Bi 1,Bi 2],Ch.mk 1 [Bi 4]].flatMap dCh) 2):=Fc.cells t7 z_r39 y_r39 rfl q_r39;have q_r43:Df K19 [.int .u8 3, .vslice [] 0] K3 ([Ch.mk 3 []].flatMap dCh):=by
  rw[show [Ch.mk 3 []].flatMap dCh=([.int .u8 3, .vslice [] 0]:List DVal) from by simp [nmE,Bi,Al,Ba,Jh,Rw,Qz,Ex.a]];exact Df.keep t7 _
 have p_r43:Fc K19 (.oslice 2 r43 0 1 1) K3 (.vslice ([Ch.mk 3 []].flatMap dCh) 1):=Fc.cells t7 z_r43 y_r43 rfl q_r43;have q_r46:Df K19 [.oslice 2 r39 0 2 2, .int .u8 1, .int .u8 0, .int .i64 0, .str [], .vslice [] 0, .vslice [] 0, .int .i64 0, .int .i64 0, .int .i64 0, .oslice 2 r43 0 1 1, .int .u8 1, .int .u8 0, .int .i64 1, .str [], .vslice [] 0, .vslice [] 0, .int .i64 0, .int .i64 0, .int .i64 0] K3 (Qz.a.flatMap dAs):=by
  rw[show Qz.a.flatMap dAs=([.vslice ([Ch.mk 2 [Bi 1,Bi 2],Ch.mk 1 [Bi 4]].flatMap dCh) 2, .int .u8 1, .int .u8 0, .int .i64 0, .str [], .vslice [] 0, .vslice [] 0, .int .i64 0, .int .i64 0, .int .i64 0, .vslice ([Ch.mk 3 []].flatMap dCh) 1, .int .u8 1, .int .u8 0, .int .i64 1, .str [], .vslice [] 0, .vslice [] 0, .int .i64 0, .int .i64 0, .int .i64 0]:List DVal) from by simp [nmE,Bi,Al,Ba,Jh,Rw,Qz,Ex.a]];exact .cons p_r39 (.cons (Fc.keep t7 _) (.cons (Fc.keep t7 _) (.cons (Fc.keep t7 _) (.cons (Fc.keep t7 _) (.cons (Fc.keep t7 _) (.cons (Fc.keep t7 _) (.cons (Fc.keep t7 _) (.cons (Fc.keep t7 _) (.cons (Fc.keep t7 _) (.cons p_r43 (.cons (Fc.keep t7 _) (.cons (Fc.keep t7 _) (.cons (Fc.keep t7 _) (.cons (Fc.keep t7 _) (.cons (Fc.keep t7 _) (.cons (Fc.keep t7 _) (.cons (Fc.keep t7 _) (.cons (Fc.keep t7 _) (.cons (Fc.keep t7 _) (.nil))))))))))))))))))))
 have p_r46:Fc K19 (.oslice 10 r46 0 2 2) K3 (.vslice (Qz.a.flatMap dAs) 2):=Fc.cells t7 z_r46 y_r46 rfl q_r46;have q_b6:Df K19 [.int .u8 9, .int .u8 0, .int .i64 0, .str [], .nilSlice, .oslice 10 r46 0 2 2, .int .i64 0, .int .i64 0, .int .i64 0] K3 (dEx Qz):=Fc.ex (l:= []) (a:=Qz.a) t7 (.exs0 t7) p_r46;simp(disch:=omega)only[go_sem,g1,g2,g3,dE,y_b6];refine Am (by kernel_rfl) (.take 0 (.go 1 [] (.take 2 (.take 3 (.go 4 [] (.take 5 (.take 6 (.take 8 (.go 7 [8] (.go 9 [] (.take 10 (.go 11 [] (.take 12 (.take 13 (.take 14 (.take 15 (.go 16 [] (.go 17 [] (.take 18 (.take 19 (.go 20 [] (.take 21 (.take 22 (.go 23 [] (.take 24 (.take 25 (.go 26 [] (.take 27 (.take 28 .done))))))))))))))))))))))))))))) (by kernel_rfl) ?_;simp(disch:=omega)only[go_sem,g1,g2,g3,dE,y_b6];refine(Df.lent (H:=K3) (args':= [.str _,dI 5,dI 13, .agg (dEx Qz)]) (.cons (.keep t7 _) (.cons (.keep t7 _) (.cons (.keep t7 _) (.cons (Fc.agg q_b6) .nil)))) (Gz hG h0 _ 5 13 _ ex5) rfl).mono ?_;rintro _ H' ⟨rfl,hH'⟩;have hH2:=hH'.symm;clear hH';subst hH2;simp(disch:=omega)only[go_sem,g1,g2,g3,dE];refine Ae.monoR (Gz hG K19 _ 5 3 eA ex6) ?_;simp(disch:=omega)only[go_sem,g1,g2,g3,dE];refine Ae.monoR (Ez G _ [84]) ?_;try simp(disch:=omega)only[go_sem,dE,nmE,Bi,Al,List.flatMap_nil,jB,Ah,Cq,Dn,jA,jC,jE,jJ,jL,jM,jR,jI,jG,jH,dC,Ba,g1,eA]
 intro r82 hr82;dsimp only at hr82;try simp(disch:=omega)only[go_sem,dE,nmE,Bi,Al,List.flatMap_nil,jB,Ah,Cq,Dn,jA,jC,jE,jJ,jL,jM,jR,jI,jG,jH,dC,Ba,g1,eA]
 obtain⟨K20,hK20⟩: ∃K',K'=upd K19 r82 (some (.cells [.int .u8 3, .int .u8 0, .int .i64 0, .str [84], .vslice [] 0, .vslice [] 0, .int .i64 0, .int .i64 0, .int .i64 0, .int .u8 3, .int .u8 0, .int .i64 0, .str [65], .vslice [] 0, .vslice [] 0, .int .i64 0, .int .i64 0, .int .i64 0] 27)):=⟨_,rfl⟩;rw[<-hK20];have y_r82:K20 r82=some (.cells [.int .u8 3, .int .u8 0, .int .i64 0, .str [84], .vslice [] 0, .vslice [] 0, .int .i64 0, .int .i64 0, .int .i64 0, .int .u8 3, .int .u8 0, .int .i64 0, .str [65], .vslice [] 0, .vslice [] 0, .int .i64 0, .int .i64 0, .int .i64 0] 27):=by rw[hK20];exact Aa _ _ _
 have sK20:Sub K19 K20:=by rw[hK20];exact(Sub.refl _).new hr82 _
 have z_r82:K3 r82=none:=t7.lo hr82;clear hK20;have y_r39:=sK20 _ _ y_r39;have y_r43:=sK20 _ _ y_r43;have y_r46:=sK20 _ _ y_r46;have y_b6:=sK20 _ _ y_b6;have y_r69:=sK20 _ _ y_r69;have g1:=sK20 _ _ g1;have g2:=sK20 _ _ g2;have g3:=sK20 _ _ g3;have t7:=t7.trans sK20;have q_r82:Df K20 [.int .u8 3, .int .u8 0, .int .i64 0, .str [84], .vslice [] 0, .vslice [] 0, .int .i64 0, .int .i64 0, .int .i64 0, .int .u8 3, .int .u8 0, .int .i64 0, .str [65], .vslice [] 0, .vslice [] 0, .int .i64 0, .int .i64 0, .int .i64 0] K3 ([nmE [84],eA].flatMap dEx):=by
  rw[show [nmE [84],eA].flatMap dEx=([.int .u8 3, .int .u8 0, .int .i64 0, .str [84], .vslice [] 0, .vslice [] 0, .int .i64 0, .int .i64 0, .int .i64 0, .int .u8 3, .int .u8 0, .int .i64 0, .str [65], .vslice [] 0, .vslice [] 0, .int .i64 0, .int .i64 0, .int .i64 0]:List DVal) from by simp [nmE,Bi,Al,Ba,Jh,Rw,Qz,Ex.a,eA]];exact Df.keep t7 _
 have p_r82:Fc K20 (.oslice 9 r82 0 2 2) K3 (.vslice ([nmE [84],eA].flatMap dEx) 2):=Fc.cells t7 z_r82 y_r82 rfl q_r82;have q_ql:Df K20 [.int .u8 8, .int .u8 0, .int .i64 0, .str [], .oslice 9 r82 0 2 2, .nilSlice, .int .i64 0, .int .i64 0, .int .i64 0] K3 (dEx Cy1):=Fc.ex (l:= [nmE [84],eA]) (a:= []) t7 p_r82 (.as0 t7);try simp(disch:=omega)only[go_sem,dE,nmE,Bi,Al,List.flatMap_nil,jB,Ah,Cq,Dn,jA,jC,jE,jJ,jL,jM,jR,jI,jG,jH,dC,Ba]
 refine(Df.lent (H:=K3) (args':= [.str _,dI 6,dI 5, .agg (dEx Cy1)]) (.cons (.keep t7 _) (.cons (.keep t7 _) (.cons (.keep t7 _) (.cons (Fc.agg q_ql) .nil)))) (Gz hG h0 _ 6 5 _ ex7) rfl).mono ?_;rintro _ H' ⟨rfl,hH'⟩;have hH2:=hH'.symm;clear hH';subst hH2;simp(disch:=omega)only[go_sem,g1,g2,g3,dE];refine Ae.monoR (Kb G K20 13 eA eB) ?_;simp(disch:=omega)only[go_sem,g1,g2,g3,dE];refine Ae.monoR (Gz hG K20 _ 0 3 _ ex8) ?_;simp(disch:=omega)only[go_sem,g1,g2,g3,dE];refine Ae.monoR (Th hG K20 _ 0 2 ex9) ?_;simp(disch:=omega)only[go_sem,g1,g2,g3,dE];refine Ae.monoR (Th hG K20 _ 0 2 Dz7) ?_;simp(disch:=omega)only[go_sem,g1,g2,g3,dE];refine Ae.monoR (Th hG K20 _ 0 0 Dz8) ?_;simp(disch:=omega)only[go_sem,g1,g2,g3,dE];refine Am (by kernel_rfl) (.take 0 (.take 1 (.alt (.go 4 [1,0] (.go 2 [0] (.go 3 [] (.go 5 [] .done)))) (.go 2 [0] (.alt (.go 4 [1,0] (.go 3 [] (.go 5 [] .done))) (.go 3 [] (.go 4 [1,0] (.go 5 [] .done)))))))) (by kernel_rfl) ?_;simp(disch:=omega)only[go_sem,g1,g2,g3,dE];have lS:=Ai Gq;have oS:=Bh Gq;have eS:Av3 1 eA (Pq 19 eB)=Gq:=rfl;have hts:Ve Gq=(Ag Gq,0):=by rw[Ve,if_pos (by decide+kernel)]
 have ht1:Pc (Ag Gq) (Bv [65,32,43,32,40,45,32,66,41]).1=true:=by decide+kernel
 have ht2:Hz Gq=true:=by decide+kernel
 have ht3:Hz (Pq 21 ex0)=false:=by decide+kernel
 have ht4:Ev Gq=4:=by decide+kernel
 have ht5:Ao Gq=2:=by decide+kernel
 have ht6:Bg Gq=false:=by decide+kernel
 have ht7:Bg eA=true:=by decide+kernel
 have hF0:Fit (Pq 21 ex0):=⟨by decide+kernel,by simp [Pq,ex0,okE,okL,Jy]⟩;have hz0:DLe (.agg [.int .u8 0, .int .u8 0, .int .i64 0, .str [], .nilSlice, .nilSlice, .int .i64 0, .int .i64 0, .int .i64 0]) (.agg (dEx ex0)):=DLe.agg (.cons (.refl _) (.cons (.refl _) (.cons (.refl _) (.cons (.refl _) (.cons .nil (.cons .nil (.refl _)))))));have hFS:Fit Gq:=⟨by decide+kernel,by simp [Gq,Av3,Pq,eA,eB,nmE,okE,okL,Jy]⟩;refine⟨?_, ?_⟩
 ·intro b9 hb9;dsimp only at hb9;have m19:b1≠b9:=Ad hb9 g1;have o1:=g1;have o2:=g2;obtain⟨K21,hK21⟩: ∃K',K'=upd K20 b9 (some (.cells [.int .u8 0, .int .u8 0, .int .i64 0, .str [], .nilSlice, .nilSlice, .int .i64 0, .int .i64 0, .int .i64 0] 27)):=⟨_,rfl⟩;rw[<-hK21];have y_b9:K21 b9=some (.cells [.int .u8 0, .int .u8 0, .int .i64 0, .str [], .nilSlice, .nilSlice, .int .i64 0, .int .i64 0, .int .i64 0] 27):=by rw[hK21];exact Aa _ _ _
  have sK21:Sub K20 K21:=by rw[hK21];exact(Sub.refl _).new hb9 _
  have z_b9:K3 b9=none:=t7.lo hb9;clear hK21;have y_r39:=sK21 _ _ y_r39;have y_r43:=sK21 _ _ y_r43;have y_r46:=sK21 _ _ y_r46;have y_b6:=sK21 _ _ y_b6;have y_r69:=sK21 _ _ y_r69;have y_r82:=sK21 _ _ y_r82;have g1:=sK21 _ _ g1;have g2:=sK21 _ _ g2;have g3:=sK21 _ _ g3;have t7:=t7.trans sK21;try simp(disch:=omega)only[go_sem,g1,g2,g3,dE,eS]
  refine⟨⟨o2.symm,o1.symm⟩, ?_⟩;refine Ae.monoR (Kc G K21 19 eB) ?_;try simp(disch:=omega)only[go_sem,g1,g2,g3,dE,eS]
  refine Ae.monoR (Kb G K21 1 eA (Pq 19 eB)) ?_;rw[eS];try simp(disch:=omega)only[go_sem,g1,g2,g3,dE,y_b9,lS,oS]
  obtain⟨K30,hK30⟩: ∃K',K'=upd K21 b9 (some (.cells (dEx Gq) 27)):=⟨_,rfl⟩;rw[<-hK30];have g1:K30 b1=some (.cells (dEx eA) 27):=by rw[hK30];exact Af g1 m19
  have g9:K30 b9=some (.cells (dEx Gq) 27):=by rw[hK30];exact Aa _ _ _
  have t7:Sub K3 K30:=by rw[hK30];exact t7.up z_b9 _
  clear hK30;try simp(disch:=omega)only[go_sem,g9]
  (try refine⟨⟨o2.symm,o1.symm⟩, ?_⟩)
  refine Ae.monoR (Qy hG K30 Gq hFS) ?_;rw[hts];simp(disch:=omega)only[go_sem,g1,g9];refine Ae.monoR (Io G K30 _ (by decide)) ?_;simp(disch:=omega)only[go_sem,g1,g9];refine Ae.monoR (Sp G K30 (Ag Gq) (Bv [65,32,43,32,40,45,32,66,41]).1 (by decide+kernel)) ?_;rw[ht1];simp(disch:=omega)only[go_sem,g1,g9];refine Ae.monoR (Eg hG K30 Gq hFS) ?_;rw[ht2];simp(disch:=omega)only[go_sem,g1,g9];refine Ae.leArgs (args':= [.int .u8 21, .agg (dEx ex0)]) (Bm4.cons (.refl _) (Bm4.cons hz0 .nil)) ?_;refine Ae.monoR (Kc G K30 21 ex0) ?_;simp(disch:=omega)only[go_sem,dE];refine Ae.monoR (Eg hG K30 (Pq 21 ex0) hF0) ?_;rw[ht3];simp(disch:=omega)only[go_sem,g1,g9];refine Ae.monoR (Wq G Gq K30 (by decide+kernel)) ?_;rw[ht4];simp(disch:=omega)only[go_sem,g1,g9];refine Ae.monoR (Jz G K30 Gq) ?_;rw[ht5];simp(disch:=omega)only[go_sem,g1,g9];refine Ae.monoR (Ef G K30 Gq) ?_;rw[ht6];simp(disch:=omega)only[go_sem,g1,g9];refine Ae.monoR (Ef G K30 eA) ?_;rw[ht7];simp(disch:=omega)only[go_sem,g1,g9];exact Pl.sub t7 (.refl ⟨rfl,rfl⟩)
 ·refine Ae.monoR (Kc G K20 19 eB) ?_;try simp(disch:=omega)only[go_sem,g1,g2,g3,dE,eS]
  refine⟨?_, ?_⟩
  ·intro b9 hb9;dsimp only at hb9;have m19:b1≠b9:=Ad hb9 g1;have o1:=g1;have o2:=g2;obtain⟨K21,hK21⟩: ∃K',K'=upd K20 b9 (some (.cells [.int .u8 0, .int .u8 0, .int .i64 0, .str [], .nilSlice, .nilSlice, .int .i64 0, .int .i64 0, .int .i64 0] 27)):=⟨_,rfl⟩;rw[<-hK21];have y_b9:K21 b9=some (.cells [.int .u8 0, .int .u8 0, .int .i64 0, .str [], .nilSlice, .nilSlice, .int .i64 0, .int .i64 0, .int .i64 0] 27):=by rw[hK21];exact Aa _ _ _
   have sK21:Sub K20 K21:=by rw[hK21];exact(Sub.refl _).new hb9 _
   have z_b9:K3 b9=none:=t7.lo hb9;clear hK21;have y_r39:=sK21 _ _ y_r39;have y_r43:=sK21 _ _ y_r43;have y_r46:=sK21 _ _ y_r46;have y_b6:=sK21 _ _ y_b6;have y_r69:=sK21 _ _ y_r69;have y_r82:=sK21 _ _ y_r82;have g1:=sK21 _ _ g1;have g2:=sK21 _ _ g2;have g3:=sK21 _ _ g3;have t7:=t7.trans sK21;try simp(disch:=omega)only[go_sem,g1,g2,g3,dE,eS]
   refine⟨⟨o2.symm,o1.symm⟩, ?_⟩;refine Ae.monoR (Kb G K21 1 eA (Pq 19 eB)) ?_;rw[eS];try simp(disch:=omega)only[go_sem,g1,g2,g3,dE,y_b9,lS,oS]
   obtain⟨K30,hK30⟩: ∃K',K'=upd K21 b9 (some (.cells (dEx Gq) 27)):=⟨_,rfl⟩;rw[<-hK30];have g1:K30 b1=some (.cells (dEx eA) 27):=by rw[hK30];exact Af g1 m19
   have g9:K30 b9=some (.cells (dEx Gq) 27):=by rw[hK30];exact Aa _ _ _
   have t7:Sub K3 K30:=by rw[hK30];exact t7.up z_b9 _
   clear hK30;try simp(disch:=omega)only[go_sem,g9]
   (try refine⟨⟨o2.symm,o1.symm⟩, ?_⟩)
   refine Ae.monoR (Qy hG K30 Gq hFS) ?_;rw[hts];simp(disch:=omega)only[go_sem,g1,g9];refine Ae.monoR (Io G K30 _ (by decide)) ?_;simp(disch:=omega)only[go_sem,g1,g9];refine Ae.monoR (Sp G K30 (Ag Gq) (Bv [65,32,43,32,40,45,32,66,41]).1 (by decide+kernel)) ?_;rw[ht1];simp(disch:=omega)only[go_sem,g1,g9];refine Ae.monoR (Eg hG K30 Gq hFS) ?_;rw[ht2];simp(disch:=omega)only[go_sem,g1,g9];refine Ae.leArgs (args':= [.int .u8 21, .agg (dEx ex0)]) (Bm4.cons (.refl _) (Bm4.cons hz0 .nil)) ?_;refine Ae.monoR (Kc G K30 21 ex0) ?_;simp(disch:=omega)only[go_sem,dE];refine Ae.monoR (Eg hG K30 (Pq 21 ex0) hF0) ?_;rw[ht3];simp(disch:=omega)only[go_sem,g1,g9];refine Ae.monoR (Wq G Gq K30 (by decide+kernel)) ?_;rw[ht4];simp(disch:=omega)only[go_sem,g1,g9];refine Ae.monoR (Jz G K30 Gq) ?_;rw[ht5];simp(disch:=omega)only[go_sem,g1,g9];refine Ae.monoR (Ef G K30 Gq) ?_;rw[ht6];simp(disch:=omega)only[go_sem,g1,g9];refine Ae.monoR (Ef G K30 eA) ?_;rw[ht7];simp(disch:=omega)only[go_sem,g1,g9];exact Pl.sub t7 (.refl ⟨rfl,rfl⟩)
  ·refine Ae.monoR (Kb G K20 1 eA (Pq 19 eB)) ?_;rw[eS];try simp(disch:=omega)only[go_sem,g1,g2,g3,dE,eS]
   intro b9 hb9;dsimp only at hb9;have m19:b1≠b9:=Ad hb9 g1;have o1:=g1;have o2:=g2;obtain⟨K21,hK21⟩: ∃K',K'=upd K20 b9 (some (.cells [.int .u8 0, .int .u8 0, .int .i64 0, .str [], .nilSlice, .nilSlice, .int .i64 0, .int .i64 0, .int .i64 0] 27)):=⟨_,rfl⟩;rw[<-hK21];have y_b9:K21 b9=some (.cells [.int .u8 0, .int .u8 0, .int .i64 0, .str [], .nilSlice, .nilSlice, .int .i64 0, .int .i64 0, .int .i64 0] 27):=by rw[hK21];exact Aa _ _ _
   have sK21:Sub K20 K21:=by rw[hK21];exact(Sub.refl _).new hb9 _
   have z_b9:K3 b9=none:=t7.lo hb9;clear hK21;have y_r39:=sK21 _ _ y_r39;have y_r43:=sK21 _ _ y_r43;have y_r46:=sK21 _ _ y_r46;have y_b6:=sK21 _ _ y_b6;have y_r69:=sK21 _ _ y_r69;have y_r82:=sK21 _ _ y_r82;have g1:=sK21 _ _ g1;have g2:=sK21 _ _ g2;have g3:=sK21 _ _ g3;have t7:=t7.trans sK21;try simp(disch:=omega)only[go_sem,g1,g2,g3,dE,y_b9,lS,oS]
   obtain⟨K30,hK30⟩: ∃K',K'=upd K21 b9 (some (.cells (dEx Gq) 27)):=⟨_,rfl⟩;rw[<-hK30];have g1:K30 b1=some (.cells (dEx eA) 27):=by rw[hK30];exact Af g1 m19
   have g9:K30 b9=some (.cells (dEx Gq) 27):=by rw[hK30];exact Aa _ _ _
   have t7:Sub K3 K30:=by rw[hK30];exact t7.up z_b9 _
   clear hK30;try simp(disch:=omega)only[go_sem,g9]
   (try refine⟨⟨o2.symm,o1.symm⟩, ?_⟩)
   refine Ae.monoR (Qy hG K30 Gq hFS) ?_;rw[hts];simp(disch:=omega)only[go_sem,g1,g9];refine Ae.monoR (Io G K30 _ (by decide)) ?_;simp(disch:=omega)only[go_sem,g1,g9];refine Ae.monoR (Sp G K30 (Ag Gq) (Bv [65,32,43,32,40,45,32,66,41]).1 (by decide+kernel)) ?_;rw[ht1];simp(disch:=omega)only[go_sem,g1,g9];refine Ae.monoR (Eg hG K30 Gq hFS) ?_;rw[ht2];simp(disch:=omega)only[go_sem,g1,g9];refine Ae.leArgs (args':= [.int .u8 21, .agg (dEx ex0)]) (Bm4.cons (.refl _) (Bm4.cons hz0 .nil)) ?_;refine Ae.monoR (Kc G K30 21 ex0) ?_;simp(disch:=omega)only[go_sem,dE];refine Ae.monoR (Eg hG K30 (Pq 21 ex0) hF0) ?_;rw[ht3];simp(disch:=omega)only[go_sem,g1,g9];refine Ae.monoR (Wq G Gq K30 (by decide+kernel)) ?_;rw[ht4];simp(disch:=omega)only[go_sem,g1,g9];refine Ae.monoR (Jz G K30 Gq) ?_;rw[ht5];simp(disch:=omega)only[go_sem,g1,g9];refine Ae.monoR (Ef G K30 Gq) ?_;rw[ht6];simp(disch:=omega)only[go_sem,g1,g9];refine Ae.monoR (Ef G K30 eA) ?_;rw[ht7];simp(disch:=omega)only[go_sem,g1,g9];exact Pl.sub t7 (.refl ⟨rfl,rfl⟩)
end
end Go.Dl

-- THE READING, PART 1: what was read of the input before a call is read the same behind it, if the call left all old memory as it was.
namespace Go.Dl
open Go
section
variable {H:Type} {enc:TypeId×Value->H} {P:Program} {w w':World}
def Ti (w w':World):Prop:= ∀b,b<w.heap.size->w'.heap[b]? =w.heap[b]?
theorem Ti.cell (h:Ti w w') {a:Addr} {x:Value} (hc:w.cell? a=some x):w'.cell? a=some x:=by
 have hlt:a.block<w.heap.size:=by
  unfold World.cell? at hc;rcases Nat.lt_or_ge a.block w.heap.size with hl | hl
  ·exact hl
  ·simp [Array.getElem?_eq_none hl] at hc
 unfold World.cell? at hc⊢
 rw[h _ hlt];exact hc
theorem Kd {α β:Type} {f g:α->Option β}: ∀ {l:List α} {r:List β},l.mapM f=some r->(∀x∈l,∀y,f x=some y->y∈r->g x=some y)->l.mapM g=some r
 | [],r,h,_=>by simpa using h
 | x::l,r,h,hg=>by
  rw[List.mapM_cons] at h⊢
  simp only[Option.bind_eq_bind,Option.bind_eq_some_iff,Option.pure_def,Option.some.injEq] at h⊢
  obtain⟨y,hy,ys,hys,rfl⟩:=h;exact⟨y,hg x (by simp) y hy (by simp),ys,Kd hys (fun z hz u hu hm=>hg z (by simp [hz]) u hu (by simp [hm])),rfl⟩
theorem Ti.cells (h:Ti w w') {base:Nat} {a:Addr} {n:Nat} {cs:List Value} (hc:w.cells? base a n=some cs):w'.cells? base a n=some cs:=by
 unfold World.cells? at hc⊢
 split at hc
 ·rename_i hb;rw[if_pos hb];exact Kd hc fun i _ y hy _=>h.cell hy
 ·cases hc
structure Closed (P:Program) (T:TypeId->Prop):Prop where
 ptr: ∀t e,T t->P.underlying t=some (.pointer e)->T e
 slice: ∀t e,T t->P.underlying t=some (.slice e)->0<P.cellsOf e/\T e
 struct: ∀t fs,T t->P.underlying t=some (.struct fs)-> ∀f∈fs.toList,T f.type
 array: ∀t n e,T t->P.underlying t=some (.array n e)->T e
 iface: ∀t m,T t->P.underlying t≠some (.interface m)
 map: ∀t k e,T t->P.underlying t=some (.map k e)->T e
def Bx1 (P:Program) (ts:List TypeId):Bool:=ts.all fun t=>match P.underlying t with
 | some (.pointer e)=>ts.contains e
 | some (.slice e)=>decide (0<P.cellsOf e)&&ts.contains e
 | some (.struct fs)=>fs.toList.all fun f=>ts.contains f.type
 | some (.array _ e)=>ts.contains e
 | some (.interface _)=>false
 | some (.map _ e)=>ts.contains e
 | _=>true
theorem Cj8 {P:Program} {ts:List TypeId} (h:Bx1 P ts=true):Closed P (· ∈ts):=by
 unfold Bx1 at h;rw[List.all_eq_true] at h;refine⟨fun t e ht hu=> ?_,fun t e ht hu=> ?_,fun t fs ht hu=> ?_,fun t n e ht hu=> ?_,fun t m ht hu=> ?_,fun t k e ht hu=> ?_⟩;all_goals have h1:=h t ht;rw[hu] at h1
 ·simpa using h1
 ·simpa using h1
 ·intro f hf;simpa using List.all_eq_true.1 h1 f hf
 ·simpa using h1
 ·cases h1
 ·simpa using h1
theorem Ao6 (h:Ti w w') {T:TypeId->Prop} (hT:Closed P T) {base:Nat} {sp:Nat->Bool} {held:Bool}:
  ∀(Dy:Nat) (t:TypeId) (cs:List Value) (d:DataW H) (ps:List MemPlace),T t->DataW.trod enc P w base (fun _=>true) held Dy t cs=some (d,ps)->(∀p∈ps,sp p.block=true)->
   DataW.trod enc P w' base sp held Dy t cs=some (d,ps)
 | 0,_,_,_,_,_,hh,_=>by simp [DataW.trod] at hh
 | Dy+1,t,cs,d,ps,ht,hh,hp=>by
  have ih:= @Ao6 h T hT base sp held Dy;unfold DataW.trod at hh⊢
  split at hh<;>(try (first | exact hh | (simp at hh;done)))
  ·-- pointer
   rename_i e a hu
   simp only[Option.map_eq_some_iff,Option.bind_eq_some_iff,Prod.mk.injEq] at hh⊢
   obtain⟨x,⟨c,hc,hx⟩,rfl,rfl⟩:=hh;exact⟨x,⟨c,h.cells hc,ih _ _ x.1 x.2 (hT.ptr _ _ ht hu) hx fun p hpm=>hp p (by simp [hpm])⟩,rfl,rfl⟩
  ·-- slice
   rename_i e a len cap hu
   dsimp only at hh⊢
   split at hh
   ·rename_i hc
    rw[if_pos hc];simp only[Option.bind_eq_some_iff,Option.map_eq_some_iff,if_true,Prod.mk.injEq] at hh⊢
    obtain⟨elems,he,rest,hr,rfl,rfl⟩:=hh;have hp1: ∀y∈elems,∀p∈y.2,sp p.block=true:=fun y hy p hpm=>hp p (by
     simp only[List.mem_append,List.mem_flatMap];exact .inr ⟨y, .inl hy,hpm⟩)
    have hp2: ∀y∈rest,∀p∈y.2,sp p.block=true:=fun y hy p hpm=>hp p (by
     simp only[List.mem_append,List.mem_flatMap];exact .inr ⟨y, .inr hy,hpm⟩)
    refine⟨elems,Kd he (fun i _ y hy hym=> ?_),rest, ?_,rfl,rfl⟩
    ·simp only[Option.bind_eq_some_iff] at hy⊢
     obtain⟨c,hc1,hc2⟩:=hy;exact⟨c,h.cells hc1,ih _ _ y.1 y.2 (hT.slice _ _ ht hu).2 hc2 (hp1 y hym)⟩
    ·have hr':(List.range (cap-len)).mapM (fun j=>(w'.cells? base (a.add ((len+j)*P.cellsOf e)) (P.cellsOf e)).bind (DataW.trod enc P w' base sp held Dy e))=some rest:=by
      refine Kd hr (fun i _ y hy hym=> ?_);simp only[Option.bind_eq_some_iff] at hy⊢
      obtain⟨c,hc1,hc2⟩:=hy;exact⟨c,h.cells hc1,ih _ _ y.1 y.2 (hT.slice _ _ ht hu).2 hc2 (hp2 y hym)⟩
     by_cases hsp:sp a.block=true
     ·rw[if_pos hsp];exact hr'
     ·rw[if_neg hsp];have hpos:=(hT.slice t e ht hu).1;have hlen:rest.length=0:=by
       rcases Nat.eq_zero_or_pos rest.length with h0 | h0
       ·exact h0
       ·exfalso;refine hsp (hp (.cell a.block a.off) ?_);refine List.mem_append_left _ ?_;unfold MemPlace.row;refine List.mem_map.2 ⟨0,List.mem_range.2 (Nat.mul_pos (by omega) hpos),by simp⟩
      rw[List.eq_nil_of_length_eq_zero hlen]
   ·cases hh
  ·-- struct
   rename_i fs hu
   split at hh
   ·rename_i hl
    rw[if_pos hl];simp only[Option.map_eq_some_iff,Prod.mk.injEq] at hh⊢
    obtain⟨xs,hx,rfl,rfl⟩:=hh;exact⟨xs,Kd hx (fun f hf y hy hym=>ih _ _ y.1 y.2 (hT.struct _ _ ht hu f hf) hy fun p hpm=>hp p (List.mem_flatMap.2 ⟨y,hym,hpm⟩)),rfl,rfl⟩
   ·cases hh
  ·-- array
   rename_i hu
   split at hh
   ·rename_i hl
    rw[if_pos hl];simp only[Option.map_eq_some_iff,Prod.mk.injEq] at hh⊢
    obtain⟨xs,hx,rfl,rfl⟩:=hh;exact⟨xs,Kd hx (fun f hf y hy hym=>ih _ _ y.1 y.2 (hT.array _ _ _ ht hu) hy fun p hpm=>hp p (List.mem_flatMap.2 ⟨y,hym,hpm⟩)),rfl,rfl⟩
   ·cases hh
  ·-- interface
   rename_i hu
   exact(hT.iface _ _ ht hu).elim
  ·-- map
   rename_i k e b hu
   split at hh
   ·rename_i es clock hb
    have hlt:b<w.heap.size:=(Array.getElem?_eq_some_iff.1 hb).1;rw[h b hlt,hb];dsimp only at hh⊢
    split at hh
    ·rename_i hc
     rw[if_pos hc];simp only[Option.bind_eq_some_iff] at hh⊢
     obtain⟨entries,he,hr⟩:=hh;split at hr
     ·rename_i hri
      simp only[Option.some.injEq,Prod.mk.injEq] at hr;obtain⟨rfl,rfl⟩:=hr;refine⟨entries,Kd he (fun x _ y hy hym=> ?_),by rw[if_pos hri]⟩;simp only[Option.bind_eq_some_iff] at hy⊢
      obtain⟨key,hk,hy⟩:=hy;refine⟨key,hk, ?_⟩;split at hy
      ·rename_i hf
       rw[if_pos hf];simp only[Option.map_eq_some_iff] at hy⊢
       obtain⟨z,hz1,rfl⟩:=hy;exact⟨z,ih _ _ z.1 z.2 (hT.map _ _ _ ht hu) hz1 fun p hpm=>hp p (by
        simp only[List.mem_cons,List.mem_flatMap];exact .inr ⟨_,hym,hpm⟩),rfl⟩
      ·cases hy
     ·cases hr
    ·cases hh
   ·cases hh
theorem Trod.keep (h:Ti w w') {T:TypeId->Prop} (hT:Closed P T) {base:Nat} {sp:Nat->Bool} {held:Bool} {t:TypeId} {v:Value} {d:DataW H} {ps:List MemPlace}
  (ht:T t) (hh:DataW.Trod enc P w base (fun _=>true) held t v d ps) (hp: ∀p∈ps,sp p.block=true):DataW.Trod enc P w' base sp held t v d ps:=by
 obtain⟨Dy,hh⟩:=hh;exact⟨Dy,Ao6 h hT Dy _ _ _ _ ht hh hp⟩
theorem TrodAll.keep (h:Ti w w') {T:TypeId->Prop} (hT:Closed P T) {base:Nat} {sp:Nat->Bool} {held:Bool}:
  ∀ {ts:List TypeId} {vs:List Value} {ds:List (DataW H)} {ps:List MemPlace},(∀t∈ts,T t)->DataW.TrodAll enc P w base (fun _=>true) held ts vs ds ps->(∀p∈ps,sp p.block=true)->DataW.TrodAll enc P w' base sp held ts vs ds ps
 | [],[],[],_,_,hh,_=>hh
 | [],[],_::_,_,_,hh,_=>hh.elim
 | [],_::_,_,_,_,hh,_=>hh.elim
 | _::_,[],_,_,_,hh,_=>hh.elim
 | _::_,_::_,[],_,_,hh,_=>hh.elim
 | t::ts,v::vs,d::ds,_,ht,⟨p,q,h1,h2,rfl⟩,hp=>
  ⟨p,q,Trod.keep h hT (ht t (by simp)) h1 (fun x hx=>hp x (by simp [hx])),TrodAll.keep h hT (fun u hu=>ht u (by simp [hu])) h2 (fun x hx=>hp x (by simp [hx])),rfl⟩
end
end Go.Dl

-- THE READING, PART 2: what was read of the input is plain data, seen at the data level.
namespace Go.Dl
open Go Go.RowKit Go.Deep
def Dn1 (P:Program) (H:Type) (w:World) (t:TypeId) (α:Type) (f:α->List DVal) (g:α->DataW H->Prop):Prop:=
 ∀(enc:TypeId×Value->H) base sp held Dy cs d ps,DataW.trod enc P w base sp held Dy t cs=some (d,ps)-> ∃x,g x d/\An w (fun _=>none) (f x) cs
section
variable {P:Program} {H:Type} {w:World}
theorem Ah6 {α β:Type} {f:α->Option β}: ∀ {l:List α} {r:List β},l.mapM f=some r->r.length=l.length/\ ∀(i:Nat) (x:α),l[i]? =some x-> ∃y,r[i]? =some y/\f x=some y
 | [],r,h=>by simp at h;subst h;simp
 | x::l,r,h=>by
  rw[List.mapM_cons] at h;simp only[Option.bind_eq_bind,Option.bind_eq_some_iff,Option.pure_def,Option.some.injEq] at h;obtain⟨y,hy,ys,hys,rfl⟩:=h;obtain⟨h1,h2⟩:=Ah6 hys;refine⟨by simp [h1],fun i z hz=> ?_⟩;cases i with
  | zero=>simp at hz;subst hz;exact⟨y,rfl,hy⟩
  | succ i=>simp at hz;obtain⟨u,hu,hf⟩:=h2 i z hz;exact⟨u,by simpa using hu,hf⟩
theorem Ao7 {t:TypeId} {k:IntKind} (ht:P.underlying t=some (.int k)):Dn1 P H w t Int (fun n=> [.int k n]) (fun n d=>(Lit.int k n).wf=true/\d= .lit (.int k n)):=by
 intro enc base sp held Dy cs d ps h;cases Dy with
 | zero=>simp [DataW.trod] at h
 | succ Dy=>
  unfold DataW.trod at h;rw[ht] at h;split at h<;>simp_all;obtain⟨⟨rfl,hw⟩,rfl,rfl⟩:=h;exact⟨_,⟨hw,rfl⟩,by simp [An,Rel]⟩
end
end Go.Dl

-- THE READING, PART 3: a law's call at the data level, as the row wants it.
namespace Go.Dl
open Go Go.RowKit
section
variable {P:Program} {w:World}
theorem Ext.stands {w':World} {H':Ab} (h:Ext (fun _=>none) w H' w'):Ti w w':=fun b hb=>h.block b hb rfl
def Cy2 (W w':World):Prop:=W.keptBut w' (fun _=>False)/\(∀a,a.block<W.heap.size->w'.frozen? a=W.frozen? a)/\W.heap.size<=w'.heap.size
theorem Cy2.frame {W w':World} (h:Cy2 W w') (may:MemPlace->Prop):W.keptBut w' may:=World.keptBut_mono (fun _ f=>f.elim) h.1
theorem Ext.grown {w':World} {H':Ab} (h:Ext (fun _=>none) w H' w'):Cy2 w w':=by
 refine⟨⟨h.os,h.output,fun i hi=> ?_⟩,fun a ha=>h.fz a ha rfl,h.size⟩;rw[h.block i hi rfl];cases ho:w.heap[i]? with
 | none=>simp
 | some o=>cases o<;>simp
theorem Av4 (w:World):Av w (fun _=>none):=fun r o h=>by cases h
theorem Ae.row {G:Nat->DVal} {f:FuncId} {args:List DVal} {vs:Array Value} (h:Ae P G f args (fun _=>none) (fun e _=>e= .ret (.bool true))) (hv:An w (fun _=>none) args vs.toList) (hG:GOk G w (fun _=>none)):
  Calls P f vs w fun e W'=>e= .returned (.bool true)/\Cy2 w W'/\Ti w W':=by
 have:=h.2 vs.toList w hv (Av4 w) hG;simp only[Array.toArray_toList] at this;refine this.mono fun e w' ⟨e',H',he,hr,_,hE⟩=> ?_;subst he;cases hr with
 | ret d v hv=>simp only[Rel] at hv;subst hv;exact⟨rfl,hE.grown,hE.stands⟩
theorem An.cons {Hp:Ab} {d:DVal} {v:Value} {ds:List DVal} {vs:List Value} (h:Rel w Hp d v) (k:An w Hp ds vs):An w Hp (d::ds) (v::vs):=by
 simp only[An];exact⟨v,vs,rfl,h,k⟩
theorem An.one {Hp:Ab} {d:DVal} {v:Value} (h:An w Hp [d] [v]):Rel w Hp d v:=by
 simp only[An] at h;obtain⟨y,ys,h1,h2,_⟩:=h;cases h1;exact h2
end
end Go.Dl
namespace Go.ChangeShapes
open Go.WideShapes
section
variable {H:Type} {enc:TypeId×Value->H} {P:Program}
theorem Bg5 {f:Func} {s:ChangeSpec} {apart fresh handsOn Dk4:Bool} {W W':World} {args:Array Value} {v:Value} {ds gs:List (DataW H)} {before pa pv:List MemPlace}
  (hW:DataW.Whole enc P f.params.toList s.vars apart W args.toList ds gs before)
  (hres: ∀(b:Nat) (sp:Nat->Bool) (hd:Bool),DataW.TrodAll enc P W' b sp hd f.resultTypes.toList (v.resultList f.resultTypes.size) (s.fn H (ds++gs)).results [])
  (hargs: ∀sp:Nat->Bool,(∀p∈before,sp p.block=true)->DataW.TrodAll enc P W' 0 sp true f.params.toList args.toList (s.fn H (ds++gs)).args pa)
  (hvars: ∀sp:Nat->Bool,(∀p∈before,sp p.block=true)->DataW.TrodVars enc P W' sp s.vars (s.fn H (ds++gs)).vars pv)
  (hps:before=pa++pv) (hk:W.keptBut W' (· ∈before)) (hfz: ∀a,a.block<W.heap.size->W'.frozen? a=W.frozen? a)
  (hok: ∀(j:Nat) (t:TypeId) (r:Value),f.resultTypes[j]? =some t->(v.resultList f.resultTypes.size)[j]? =some r->Value.okWide P W' .any 0 t r):
  s.post enc P f apart fresh handsOn Dk4 W args v W':=by
 have hlt:=hW.lt;have hold: ∀p∈before,(fun b=>decide (b<W.heap.size)) p.block=true:=fun p hp=>by simpa using hlt p hp
 refine⟨ds,gs,before,[],pa,pv,hW,hres _ _ _,hargs _ hold,hvars _ hold,World.keptBut_mono (fun p hp=>⟨hp, .inr (List.mem_append.1 (hps▸hp))⟩) hk,fun _=> ?_⟩;obtain⟨_,_,_,_,_,hz,hn⟩:=hW;refine⟨hok,_,_,([]++pa)++pv,⟨[]++pa,pv,trodAll_append (hargs _ (fun _ _=>rfl)) (hres _ _ _),hvars _ (fun _ _=>rfl),rfl, ?_, ?_⟩, ?_⟩
 ·intro b off hp;have hp':MemPlace.cell b off∈before:=by rw[hps];simpa using hp
  exact(hfz _ (hlt _ hp')).trans (hz b off hp')
 ·intro ha;have:=hn ha;rw[hps] at this;simpa using this
 ·intro p hp _;rw[hps];simpa using hp
end
end Go.ChangeShapes

-- THE READING, PART 4: an argument, as the data level sees it; a law's contract.
namespace Go.Dl
open Go Go.RowKit
section
variable {P:Program} {H:Type} {w:World}
theorem Av5 {r:Reach} {base:Nat} {t:TypeId} {v:Value} {d:TypeDesc} (hu:P.underlying t=some d) (hd:(∃e,d= .slice e)\/(∃k,d= .int k)\/d= .bool\/d= .string) (h:Value.okWide P w r base t v):v.cells= #[v]:=by
 unfold Value.okWide at h;rw[hu] at h;cases v<;>first | rfl | skip
 rename_i xs
 rcases hd with⟨e,rfl⟩ | ⟨k,rfl⟩ | rfl | rfl<;>(unfold Cell.okWide at h;rw[hu] at h;simp [Cell.ok,hu] at h)
theorem Ah7 {r:Reach} {base:Nat} {t:TypeId} {k:IntKind} {v:Value} (hu:P.underlying t=some (.int k)) (h:Value.okWide P w r base t v):v.cells= #[v]:=Av5 hu (.inr (.inl ⟨_,rfl⟩)) h
theorem Cy3 {t:TypeId} {α:Type} {f:α->DVal} {g:α->DataW H->Prop} (hr:Dn1 P H w t α (fun x=> [f x]) g) {enc:TypeId×Value->H} {base:Nat} {sp:Nat->Bool} {held:Bool} {v:Value} {d:DataW H} {ps:List MemPlace}
  (h:DataW.Trod enc P w base sp held t v d ps) (hv:v.cells= #[v]): ∃x,g x d/\Rel w (fun _=>none) (f x) v:=by
 obtain⟨Dy,h⟩:=h;rw[hv] at h;obtain⟨x,hg,hx⟩:=hr _ _ _ _ _ _ _ _ h;exact⟨x,hg,hx.one⟩
end
end Go.Dl

-- THE READING, PART 5: the bound on what is read, at plain data.
namespace Go.Dl
open Go Go.RowKit Go.Proofs.YtddbdpcgikmiaaaGreatDoor
section
variable {H:Type}
theorem Br4 {l:List (DataW H)} (h:Rows.uptoSmall H l=true):Rows.uptoBulkAll l<=1048576:=of_decide_eq_true h
end
section
end
end Go.Dl

-- THE READING, PART 6: slices of any kind of int, structs.
namespace Go.Dl
open Go Go.RowKit Go.Proofs.YtddbdpcgikmiaaaGreatDoor
theorem Cy4 {k:IntKind} {n:Int} (h:(Lit.int k n).wf=true):k.min<=n/\n<=k.max:=by
 simpa [Lit.wf] using h
section
end
end Go.Dl

-- THE READING, PART G: the package's variables that a row lists ('laid'), as the data level sees them.
namespace Go.Dl
open Go Go.RowKit
def Rx:DataW Unit->Bool
 | .lit (.bool _)=>true
 | .lit (.int _ _)=>true
 | .lit (.string _)=>true
 | .agg ds=>litsBs ds
 | _=>false
where litsBs:List (DataW Unit)->Bool
 | []=>true
 | d::ds=>Rx d&&litsBs ds
def Dh:DataW Unit->List Value
 | .lit (.bool b)=> [.bool b]
 | .lit (.int k n)=> [.int k n]
 | .lit (.string s)=> [.string ⟨⟨s⟩⟩]
 | .agg ds=>litCellss ds
 | _=> []
where litCellss:List (DataW Unit)->List Value
 | []=> []
 | d::ds=>Dh d++litCellss ds
theorem Ah8 {ds:List (DataW Unit)}:Rx.litsBs ds=true↔ ∀d∈ds,Rx d=true:=by
 induction ds with
 | nil=>simp [Rx.litsBs]
 | cons d ds ih=>simp [Rx.litsBs,ih]
theorem Vg (ds:List (DataW Unit)):Dh.litCellss ds=ds.flatMap Dh:=by
 induction ds with
 | nil=>rfl
 | cons d ds ih=>simp [Dh.litCellss,ih]
theorem Br5 {α:Type} (cs:List α) (off size:Nat->Nat): ∀(n:Nat),(∀j,j<n->off (j+1)=off j+size j)->off 0=0->off n<=cs.length->(List.range n).flatMap (fun j=>(cs.drop (off j)).take (size j))=cs.take (off n)
 | 0,_,h0,_=>by simp [h0]
 | n+1,h,h0,hn=>by
  have hs:=h n (by omega);rw[List.range_succ,List.flatMap_append,Br5 cs off size n (fun j hj=>h j (by omega)) h0 (by omega),hs];simp only[List.flatMap_cons,List.flatMap_nil,jH];rw[List.take_add]
theorem Ah9 {α β:Type} (xs:List α) (g:α->List β) (f:Nat->List β) (n:Nat) (hn:xs.length=n) (h: ∀(j:Nat) (x:α),xs[j]? =some x->f j=g x):(List.range n).flatMap f=xs.flatMap g:=by
 rw[List.flatMap_def,List.flatMap_def];congr 1;apply List.ext_getElem?;intro j;simp only[List.getElem?_map];by_cases hj:j<n
 ·rw[List.getElem?_eq_getElem (by omega:j<xs.length),List.getElem?_range hj];simp only[Option.map_some];rw[h j xs[j] (List.getElem?_eq_getElem (by omega))]
 ·rw[List.getElem?_eq_none (by omega:xs.length<=j),List.getElem?_eq_none (by simp;omega)];rfl
section
variable {P:Program} {w:World}
theorem Xl (hl:laidOutB P=true) {base:Nat} {sp:Nat->Bool}: ∀(Dy:Nat) (t:TypeId) (cs:List Value) (d:DataW Unit) (ps:List MemPlace),isVar P t=true->Rx d=true->
  DataW.trod (fun _=>()) P w base sp false Dy t cs=some (d,ps)->cs=Dh d
 | 0,_,_,_,_,_,_,h=>by simp [DataW.trod] at h
 | Dy+1,t,cs,d,ps,hv,hd,h=>by
  have ih:= @Xl hl base sp Dy;have hlt:t<P.types.size:=by simp only[isVar,jF,decide_eq_true_eq] at hv;exact hv.1
  have hrow:=rowFine_of_laidOut hl hlt;simp only[rowFine,hv,Bool.not_true,Bool.false_or] at hrow;unfold DataW.trod at h;split at h<;>(try (simp at h;done))
  ·simp only[Option.some.injEq,Prod.mk.injEq] at h;obtain⟨rfl,rfl⟩:=h;rfl
  ·split at h
   ·rename_i hk
    obtain⟨rfl,_⟩:=hk;simp only[Option.some.injEq,Prod.mk.injEq] at h;obtain⟨rfl,rfl⟩:=h;rfl
   ·cases h
  ·split at h
   ·simp only[Option.some.injEq,Prod.mk.injEq] at h;obtain⟨rfl,rfl⟩:=h;cases hd
   ·cases h
  ·split at h
   ·simp only[Option.some.injEq,Prod.mk.injEq] at h;obtain⟨rfl,rfl⟩:=h;simp [Dh]
   ·cases h
  ·simp only[Option.some.injEq,Prod.mk.injEq] at h;obtain⟨rfl,rfl⟩:=h;cases hd
  ·simp only[Option.map_eq_some_iff,Prod.mk.injEq] at h;obtain⟨_,_,rfl,_⟩:=h;cases hd
  ·simp only[Option.some.injEq,Prod.mk.injEq] at h;obtain⟨rfl,rfl⟩:=h;cases hd
  ·dsimp only at h;split at h
   ·simp only[Option.bind_eq_some_iff,Option.map_eq_some_iff,Prod.mk.injEq] at h;obtain⟨_,_,_,_,rfl,_⟩:=h;cases hd
   ·cases h
  ·rename_i cs _ _ fs hu
   rw[hu] at hrow;simp only[jF,beq_iff_eq,List.all_eq_true] at hrow;obtain⟨⟨hf,hsum⟩,hoff⟩:=hrow;split at h
   ·rename_i hcl
    simp only[Option.map_eq_some_iff,Prod.mk.injEq] at h;obtain⟨xs,hx,rfl,rfl⟩:=h;obtain⟨hxl,hxg⟩:=Ah6 hx;simp only[Rx,Ah8] at hd;have key: ∀(j:Nat) (f:Field) (x:DataW Unit×List MemPlace),fs.toList[j]? =some f->xs[j]? =some x->(cs.drop f.offset).take (P.cellsOf f.type)=Dh x.1:=by
     intro j f x hjf hjx;obtain⟨y,hy,hfy⟩:=hxg j f hjf;rw[hjx] at hy;cases hy;exact ih _ _ x.1 x.2 (hf f (List.mem_of_getElem? hjf)) (hd _ (List.mem_map.2 ⟨x,List.mem_of_getElem? hjx,rfl⟩)) hfy
    have hp:=Br5 cs (fun j=>((fs.toList.take j).map fun f=>P.cellsOf f.type).sum) (fun j=>(fs.toList[j]?).elim 0 fun f=>P.cellsOf f.type) fs.toList.length (fun j hj=>by
     rw[List.take_succ_eq_append_getElem hj];simp [List.getElem?_eq_getElem hj]) (by simp) (by rw[List.take_length,hcl,hsum];omega)
    simp only[List.take_length,<-hsum,<-hcl] at hp;rw[<-hp];simp only[Dh,Vg,List.flatMap_map];refine Ah9 xs _ _ _ hxl fun j x hjx=> ?_;have hjx':j<xs.length:=(List.getElem?_eq_some_iff.1 hjx).1;have hj':j<fs.toList.length:=by omega
    have h1:=hoff j (List.mem_range.2 hj');rw[List.getElem?_eq_getElem hj'] at h1;simp only[beq_iff_eq] at h1;have h2:=key j fs.toList[j] x (List.getElem?_eq_getElem hj') hjx;rw[h1] at h2;simp only[List.getElem?_eq_getElem hj',Option.elim_some];exact h2
   ·cases h
  ·rename_i cs _ _ n e hu
   rw[hu] at hrow;simp only[jF,beq_iff_eq] at hrow;obtain⟨hf,hsum⟩:=hrow;split at h
   ·rename_i hcl
    simp only[Option.map_eq_some_iff,Prod.mk.injEq] at h;obtain⟨xs,hx,rfl,rfl⟩:=h;obtain⟨hxl,hxg⟩:=Ah6 hx;rw[List.length_range] at hxl;simp only[Rx,Ah8] at hd;have hp:=Br5 cs (fun j=>j*P.cellsOf e) (fun _=>P.cellsOf e) n (fun j _=>Nat.succ_mul j _) (by simp) (by rw[hcl,hsum];exact Nat.le_refl _);rw[List.take_of_length_le (by rw[hcl,hsum];exact Nat.le_refl _)] at hp;rw[<-hp];simp only[Dh,Vg,List.flatMap_map];refine Ah9 xs _ _ _ hxl fun j x hjx=> ?_;have hjx':j<xs.length:=(List.getElem?_eq_some_iff.1 hjx).1;obtain⟨y,hy,hfy⟩:=hxg j j (by rw[List.getElem?_range (by omega)]);rw[hjx] at hy;cases hy;exact ih _ _ _ _ hf (hd _ (List.mem_map.2 ⟨x,List.mem_of_getElem? hjx,rfl⟩)) hfy
   ·cases h
  ·simp only[Option.some.injEq,Prod.mk.injEq] at h;obtain⟨rfl,rfl⟩:=h;cases hd
  ·split at h
   ·rename_i e;cases e
   ·simp only[Option.map_eq_some_iff,Prod.mk.injEq] at h;obtain⟨_,_,rfl,_⟩:=h;cases hd
   ·cases h
  ·simp only[Option.some.injEq,Prod.mk.injEq] at h;obtain⟨rfl,rfl⟩:=h;cases hd
  ·split at h
   ·dsimp only at h;split at h
    ·simp only[Option.bind_eq_some_iff] at h;obtain⟨_,_,h⟩:=h;split at h
     ·simp only[Option.some.injEq,Prod.mk.injEq] at h;obtain⟨rfl,rfl⟩:=h;cases hd
     ·cases h
    ·cases h
   ·cases h
  ·simp only[Option.some.injEq,Prod.mk.injEq] at h;obtain⟨rfl,rfl⟩:=h;cases hd
  ·simp only[Option.some.injEq,Prod.mk.injEq] at h;obtain⟨rfl,rfl⟩:=h;cases hd
  ·simp only[Option.some.injEq,Prod.mk.injEq] at h;obtain⟨rfl,rfl⟩:=h;cases hd
theorem Av6: ∀ {laid:List (String×DataW Unit)} {n:String} {d:DataW Unit},laidMet P laid w->(n,d)∈laid->
  ∃g t cs Dy p,P.globalNamed n=some g/\(P.globals[g]?).map (·.type)=some t/\w.var? P n=some cs/\DataW.trod (fun _=>()) P w 0 (fun _=>true) false Dy t cs.toList=some (d,p)/\
   ∀u v,w.cell? ⟨g,0,none⟩=some (.iface u v)->0<cs.size->Value.okWide P w .any 0 u v
 | [],_,_,_,hm=>by cases hm
 | x::laid,n,d,h,hm=>by
  rcases List.mem_cons.1 hm with rfl | hm
  ·obtain⟨ps,⟨g,t,cs,Dy,p,q,h1,h2,h3,h4,h5,h6⟩,_,h8⟩:=h;refine⟨g,t,cs,Dy,p,h1,h2,h3,h4,fun u v hc hz=>(h8 g 0 ?_).2 u v hc⟩;rw[h6];refine List.mem_append_left _ (List.mem_append_left _ ?_);unfold MemPlace.row;exact List.mem_map.2 ⟨0,List.mem_range.2 hz,by simp⟩
  ·exact Av6 h.tail hm
def Dy2 (v:Value):Prop:=(∃b,v= .bool b)\/(∃k n,v= .int k n)\/ ∃s:List UInt8,v= .string ⟨⟨s⟩⟩
mutual
theorem Bg6: ∀(d:DataW Unit),Rx d=true-> ∀v∈Dh d,Dy2 v
 | .lit (.bool b),_,v,hv=>by simp [Dh] at hv;exact .inl ⟨b,hv⟩
 | .lit (.int k n),_,v,hv=>by simp [Dh] at hv;exact .inr (.inl ⟨k,n,hv⟩)
 | .lit (.string s),_,v,hv=>by simp [Dh] at hv;exact .inr (.inr ⟨s,hv⟩)
 | .agg ds,h,v,hv=>Ao8 ds (by simpa [Rx] using h) v (by simpa [Dh] using hv)
 | .lit (.float _ _),h,_,_=>by cases h
 | .nil,h,_,_=>by cases h
 | .ptr _,h,_,_=>by cases h
 | .slice _ _,h,_,_=>by cases h
 | .iface _ _,h,_,_=>by cases h
 | .map _,h,_,_=>by cases h
 | .held _,h,_,_=>by cases h
theorem Ao8: ∀(ds:List (DataW Unit)),Rx.litsBs ds=true-> ∀v∈Dh.litCellss ds,Dy2 v
 | [],_,v,hv=>by simp [Dh.litCellss] at hv
 | d::ds,h,v,hv=>by
  simp only[Rx.litsBs,jF] at h
  simp only[Dh.litCellss,List.mem_append] at hv
  rcases hv with hv | hv
  ·exact Bg6 d h.1 v hv
  ·exact Ao8 ds h.2 v hv
end
theorem Cy5 {Hp:Ab}: ∀(d:DataW Unit),Rx d=true->An w Hp (Fq (Dh d)) (Dh d):=by
 have all: ∀(vs:List Value),(∀v∈vs,(∃b,v= .bool b)\/(∃k n,v= .int k n)\/ ∃s:List UInt8,v= .string ⟨⟨s⟩⟩)->An w Hp (Fq vs) vs:=by
  intro vs
  induction vs with
  | nil=>intro _;simp [Fq,An]
  | cons v vs ih=>
   intro h;simp only[Fq,An];refine⟨v,vs,rfl, ?_,ih fun x hx=>h x (by simp [hx])⟩;rcases h v (by simp) with⟨b,rfl⟩ | ⟨k,n,rfl⟩ | ⟨s,rfl⟩<;>simp [Cu,Rel]
 exact fun d h=>all _ (Bg6 d h)
theorem Cy6 {laid:List (String×DataW Unit)} {n:String} {d:DataW Unit} {g:Nat} (hl:laidOutB P=true) (h:laidMet P laid w) (hm:(n,d)∈laid) (hd:Rx d=true) (hg:P.globalNamed n=some g)
  (hgt:isVar P (((P.globals[g]?).map (·.type)).getD 0)=true):Rel w (fun _=>none) (.vptr (Fq (Dh d)) 0) (.pointer (some ⟨g,0,none⟩)):=by
 obtain⟨g',t,cs,Dy,p,h1,h2,h3,h4,_⟩:=Av6 h hm;rw[hg] at h1;cases h1;rw[h2] at hgt;have hc:=Xl hl Dy t cs.toList d p hgt hd h4;simp only[Rel];refine⟨g,0,cs.toList,rfl, ?_,by rw[hc];exact Cy5 d hd⟩;refine .inr ⟨rfl,fun i x hx=> ?_⟩;have:=World.var?_cell hg h3 i;rw[Nat.zero_add,this];simpa using hx
end
end Go.Dl

-- That no place of laid variables stands twice, found in one pass.
namespace Go.Dl
open Go Go.RowKit
def Nn:List MemPlace->Nat->Bool
 | [],_=>true
 | .cell b off::l,m=>decide (off<1024)&&!(m.testBit (b*1024+off))&&Nn l (m ||| 1<<<(b*1024+off))
 | .map _::_,_=>false
theorem Bx2 {m k n:Nat} (h:(m ||| 1<<<k).testBit n=false):m.testBit n=false/\n≠k:=by
 rw[Nat.testBit_or,Bool.or_eq_false_iff] at h;refine⟨h.1,fun e=> ?_⟩;subst e;have:=h.2;rw[Nat.testBit_shiftLeft] at this;simp at this
theorem Vh: ∀(l:List MemPlace) (m:Nat),Nn l m=true->l.Nodup/\ ∀p∈l,∃b off,p= .cell b off/\off<1024/\m.testBit (b*1024+off)=false
 | [],_,_=>⟨List.nodup_nil,fun p hp=>by cases hp⟩
 | .map _::_,_,h=>by simp [Nn] at h
 | .cell b off::l,m,h=>by
  simp only[Nn,jF,decide_eq_true_eq,Bool.not_eq_true'] at h;obtain⟨⟨h1,h2⟩,h3⟩:=h;obtain⟨k1,k2⟩:=Vh l _ h3;refine⟨List.nodup_cons.2 ⟨fun hm=> ?_,k1⟩,fun p hp=> ?_⟩
  ·obtain⟨b',off',e,_,h5⟩:=k2 _ hm;cases e;exact(Bx2 h5).2 rfl
  ·rcases List.mem_cons.1 hp with rfl | hp
   ·exact⟨b,off,rfl,h1,h2⟩
   ·obtain⟨b',off',e,h4,h5⟩:=k2 _ hp;exact⟨b',off',e,h4,(Bx2 h5).1⟩
theorem Av7 {P:Program} {w:World} {l:List (String×DataW Unit)} (Dy:Nat) (h:(DataW.laidRun P w Dy (l.map (·.1))).map (·.1)=some l)
  (hr:(DataW.laidRun P w Dy (l.map (·.1))).map (fun x=>Nn x.2 0&&laidRowsB P w x.2)=some true):laidMet P l w:=by
 cases hx:DataW.laidRun P w Dy (l.map (·.1)) with
 | none=>simp [hx] at h
 | some x=>
  obtain⟨l',ps⟩:=x;simp only[hx,Option.map_some,Option.some.injEq] at h hr;subst h;simp only[jF] at hr;exact laidMet_of_run Dy hx (decide_eq_true (Vh _ _ hr.1).1) hr.2
end Go.Dl

-- Chapter 3: the reading of the package's variables; a world in which they hold what their text lays.
namespace Go.Dl
open Go Go.RowKit Go.Proofs Go.Proofs.YtddbdpcgikmiaaaGreatDoor
set_option maxRecDepth 100000
theorem Bx3:laidOutB Tryz.prog=true:=by kernel_rfl
theorem Br6 {P:Program} {w:World} {laid:List (String×DataW Unit)} {n:String} {d:DataW Unit} {g:Nat} (hl:laidOutB P=true) (h:laidMet P laid w) (hm:(n,d)∈laid) (hd:Rx d=true) (hg:P.globalNamed n=some g)
  (hgt:isVar P (((P.globals[g]?).map (·.type)).getD 0)=true):Ji w.heap[g]? =some (Dh d).length:=by
 obtain⟨g',t,cs,Dy,p,h1,h2,h3,h4,_⟩:=Av6 h hm;rw[hg] at h1;cases h1;rw[h2] at hgt;have hc:=Xl hl Dy t cs.toList d p hgt hd h4;unfold World.var? at h3;rw[hg] at h3;simp only[Option.bind_some] at h3;split at h3
 ·rename_i c t' fz ho
  cases h3;rw[ho];simp only[Ji,Option.some.injEq];rw[<-hc,Array.length_toList]
 ·cases h3
theorem Ry: ∀l:List Value,(Fq l).length=l.length
 | []=>rfl
 | _::l=>by simp [Fq,Ry l]
theorem Dj2:Fq (Dh Rows.laid_strings_asciiSpace)=Lib.asciiSpaceTab.map fun z=>DVal.int .u8 z:=by kernel_rfl
section
end
noncomputable def Dy3 (h:Array Obj) (g:Nat) (cs:Array Value):Array Obj:=h.modify g fun
 | .cells _ t frozen=> .cells cs t frozen
 | o=>o
theorem Dy4 {laid:List (String×DataW Unit)} {W:World} (hL:laidMetH Tryz.prog laid W) (hs:W.ShapedOpen Tryz.prog) (hh:(laid.filter fun x=>x.2.handleName?.isSome)= [])
  (m5:("strings.asciiSpace",Rows.laid_strings_asciiSpace)∈laid): ∃G,GX G/\GOk G W (fun _=>none):=by
 have hL':laidMet Tryz.prog laid W:=by
  unfold laidMetH at hL;rw[hh] at hL;exact hL
 have r5:=Cy6 Bx3 hL' m5 (by kernel_rfl) (show Tryz.prog.globalNamed "strings.asciiSpace" =some 1 by kernel_rfl) (by kernel_rfl);have x5:=Br6 Bx3 hL' m5 (by kernel_rfl) (show Tryz.prog.globalNamed "strings.asciiSpace" =some 1 by kernel_rfl) (by kernel_rfl);refine⟨fun g=>if g=1 then .vptr (Fq (Dh Rows.laid_strings_asciiSpace)) 0 else .optr g 0,⟨by simp [Dj2]⟩,⟨fun g=> ?_,fun g cs e=> ?_⟩⟩
 ·show Rel W _ (if g=_ then _ else _) _;split
  ·rename_i e;subst e;exact r5
  ·simp [Rel]
 ·change (if g=_ then _ else _)=_ at e;split at e
  ·rename_i e';subst e';cases e;rw[x5,Ry]
  ·cases e
noncomputable def Av8 (os:Os):World:=
 let N:=(World.settled Tryz.prog os).heap.size
 let w0:=World.holding Tryz.prog os ⟨#[.cells #[.slice (some ⟨N+1,0,none⟩) 7 7, .slice none 0 0, .int .i64 2] 344,
  .cells (#[9,13,1,32,133,101,160,5760,5600,8192,8202,1,8232,8233,1,8239,8287,48,12288,12288,1].map (Value.int .u16)) 347], #[],[]⟩
 let h9:=Dy3 w0.heap 1 (Dh Rows.laid_strings_asciiSpace).toArray
 let ha:=Dy3 h9 2 #[.pointer (some ⟨N,0,none⟩)]
 { w0 with heap:=ha }
section
end
end Go.Dl

-- Chapter 3: what Front answers to the tokens of an expression.
namespace Go.Dl
open Go
set_option maxRecDepth 10000
theorem Bx4 {α β:Type} {f:α->β} {r:Res α} {r':Res β} {y:β} {k:Nat} (h:Nt f r r') (e:r'= .ok y k): ∃x,r= .ok x k/\f x=y:=by
 cases r with
 | bot=>rw[show r'= .bot from h] at e;cases e
 | fail j=>rw[show r'= .fail j from h] at e;cases e
 | ok x j=>
  rw[show r'= .ok (f x) j from h] at e;cases e;exact⟨x,rfl,rfl⟩
section
variable {l:List Tok} {e:Ex} {k':Nat}
theorem Bx5 (j:Nat):Nt stE (Pp l j) (Pp (l.map stT) j):=by
 have h:=Dx4 (l:=l);unfold Pp;split
 ·exact h.expr 0
 ·exact By (h.simple 0) fun x k=>h.relation x k
 ·exact h.simple 0
 ·exact h.term 0
 ·exact h.factor 0
 ·exact h.primary 0
 ·exact h.name 0
theorem Cy7 {x y:Ex} (h:stE x=stE y):Jk x y=true:=(Ag2 x y).2 h
end
end Go.Dl

-- Chapter 3: ExprBack.
namespace Go.Dl
open Go Go.Proofs
set_option maxRecDepth 100000
def fT (ts:List Tok):Prop:= ∀t∈ts,t.text.length<=9223372036854775807
theorem Dt6:fT []:=fun t h=>by cases h
theorem Dj3 {t:Tok} {ts:List Tok} (h:t.text.length<=9223372036854775807) (k:fT ts):fT (t::ts):=fun x hx=>by
 rcases List.mem_cons.1 hx with rfl | hx
 ·exact h
 ·exact k x hx
theorem Ao9 {a b:List Tok} (h:fT a) (k:fT b):fT (a++b):=fun x hx=>by
 rcases List.mem_append.1 hx with hx | hx
 ·exact h x hx
 ·exact k x hx
theorem Dt7 {l:List Tok} (h:fT l):Ta l:=fun k=>by
 rw[tk,List.getD];cases hk:l[k]? with
 | none=>decide
 | some t=>exact h t (List.mem_of_getElem? hk)
section
end
end Go.Dl

-- Chapter 3: the reference's tokens: words, joining, operators.
namespace Go.Dl
open Go Go.Proofs
set_option maxRecDepth 100000
section
variable {G:Nat->DVal} {H:Ab}
def Vi (tss:List (List Tok)):DVal:= .vslice (tss.map Dd) tss.length
end
end Go.Dl

-- Chapter 3: ExprChains: the plain law, part 2: how chains are read.
namespace Go.Dl
open Go Go.Proofs
set_option maxRecDepth 10000
theorem Cy8 {l:List Tok} {e:Ex} {k:Nat} (hm:Hz e=true) (h:(Q (l.map stT)).expr 0= .ok (stE e) k): ∃x,Dz l 0=(x,(k:Int),0)/\stE x=stE e:=by
 obtain⟨x,g1,g2⟩:=Bx4 (Bx5 0) (show Pp (l.map stT) 0=_ from h);refine⟨x, ?_,g2⟩;have hf:Dz l (0:Nat)=(x,(k:Int),0):=by
  rw[Dz,if_neg (by omega),jD,g1];show(if Hz x=true then _ else _)=_;rw[if_pos (by rw[Bf8 g2,hm])]
 exact hf
def nmX:Tok:=Jm [120]
end Go.Dl

-- Chapter 3: the reference's tokens: choices, arguments.
namespace Go.Dl
open Go Go.Proofs
set_option maxRecDepth 100000
theorem Av9 (ts:List Tok):(ts.flatMap Dw).all (fun d=>d.one)=true:=by
 rw[List.all_eq_true];intro d hd;obtain⟨t,_,hd⟩:=List.mem_flatMap.1 hd;exact List.all_eq_true.1 (Fv t) d hd
theorem Ak1 (ts:List Tok):(ts.flatMap Dw).take (ts.length*4)=ts.flatMap Dw:=List.take_of_length_le (by rw[Bl Ca];omega)
section
end
end Go.Dl

-- Chapter 3: slices.Grow and slices.Concat at tokens.
namespace Go.Dl
open Go Go.Proofs
set_option maxRecDepth 100000
def Dt8:List DVal:= [.int .u8 0, .int .i64 0, .str [], .int .i64 0]
theorem Cj9 (G:Nat->DVal) (n:Nat) (H:Ab) (hn:n<=1000000000):Ae Tryz.prog G 56 [.nilSlice,dI n] H fun e H'=>
  (n=0/\e= .ret .nilSlice/\H'=H)\/(n≠0/\ ∃r,H r=none/\e= .ret (.oslice 4 r 0 0 n)/\H'=upd H r (some (.cells (Bj n Dt8) 31))):=by
 refine Ac Tryz.func56 Tryz.call56 rfl (by kernel_rfl) ?_;by_cases h0:n=0
 ·subst h0;simp(disch:=omega)only[go_sem];exact Pl.refl (.inl ⟨rfl,rfl⟩)
 ·simp(disch:=omega)only[go_sem];intro _;intro r hr;dsimp only at hr;simp(disch:=omega)only[go_sem];exact Pl.refl (.inr ⟨r,hr,by simp,rfl⟩)
theorem Ai0 (q:List (List Tok)) (k:Nat) (h:k<q.length):(q.take (k+1)).flatten=(q.take k).flatten++q[k]:=by
 rw[List.take_add_one,List.getElem?_eq_getElem h,List.flatten_append];simp
theorem Rz (q:List (List Tok)) (k:Nat):(q.take k).flatten.length<=q.flatten.length:=by
 have:q.flatten=(q.take k).flatten++(q.drop k).flatten:=by rw[<-List.flatten_append,List.take_append_drop]
 rw[this];simp
theorem Ck0 (m t:Nat) (z:List DVal):(Bj m z).drop (t*z.length)=Bj (m-t) z:=by
 by_cases h:t<=m
 ·obtain⟨k,rfl⟩:=Nat.exists_eq_add_of_le h;have:Bj (t+k) z=Bj t z++Bj k z:=by unfold Bj;rw[<-List.replicate_append_replicate,List.flatten_append]
  rw[this,List.drop_left' (Bs t z),Nat.add_sub_cancel_left]
 ·rw[List.drop_of_length_le (by rw[Bs];exact Nat.mul_le_mul_right _ (by omega)),Nat.sub_eq_zero_of_le (by omega)];rfl
theorem Br7 (a R b:List DVal):Cj (a++R) a.length b=(a++b)++R.drop b.length:=by
 unfold Cj;rw[List.take_left,List.drop_append,List.drop_of_length_le (by omega)];simp
def Dn2 (H:Ab) (T:Nat) (ts:List Tok) (v:DVal) (heap:Ab):Prop:=
 (T=0/\v= .nilSlice/\heap=H)\/(T≠0/\ ∃r,H r=none/\v= .oslice 4 r 0 ts.length T/\heap=upd H r (some (.cells (ts.flatMap Dw++Bj (T-ts.length) Dt8) 31)))
set_option maxHeartbeats 4000000 in
theorem Aw0 (G:Nat->DVal) (q:List (List Tok)) (H:Ab) (hq:q.length<=1000000) (hl:q.flatten.length<=100000000):Ae Tryz.prog G 9 [Vi q] H fun e H'=> ∃v,e= .ret v/\Dc6 H 31 4 q.flatten.length (q.flatten.flatMap Dw) v H':=by
 refine Ac Tryz.func9 Tryz.call9 rfl (by kernel_rfl) ?_;simp(disch:=omega)only[go_sem];obtain⟨I,hI⟩: ∃I:Nat->(Nat->DVal)->Ab->Prop,∀k env heap,I k env heap↔(H=heap/\env 0=Vi q/\env 9=Vi q/\env 10=dI q.length/\env 11=dI k/\env 3=dI (q.take k).flatten.length/\k<=q.length):=⟨_,fun _ _ _=>Iff.rfl⟩;refine Bt4.run I (fun k=>q.length-k) 0 ((hI _ _ _).2 ?_) ?_
 ·simp(disch:=omega)only[go_sem,Vi];simp
 ·intro k env heap hk;obtain⟨rfl,h0,h9,h10,h11,h3,hk⟩:=(hI _ _ _).1 hk;have hml:(q.map Dd).length=q.length:=jK _;by_cases hlt:k<q.length
  ·have hlt':(k:Int)<(q.length:Int):=by omega
   have h1:=Ai0 q k hlt;have h2:=Rz q (k+1);have hget:(q.map Dd)[k]? =some (Dd q[k]):=by rw[List.getElem?_map,List.getElem?_eq_getElem hlt];rfl
   have hw1:IntKind.i64.wrap ((k:Int)+1)=((k+1:Nat):Int):=by rw[IntKind.wrap_i64];omega
   rw[h1,jC] at h2;have hw2:IntKind.i64.wrap (((q.take k).flatten.length:Int)+(q[k].length:Int))=((q.take k).flatten.length:Int)+(q[k].length:Int):=by rw[IntKind.wrap_i64];omega
   have hw3: ¬(((q.take k).flatten.length:Int)+(q[k].length:Int))<0:=by omega
   simp(disch:=omega)only[go_sem,h0,h9,h10,h11,h3,hlt',Vi,hget,hml,jD,Dd,hw2,hw3];refine⟨k+1,_,Lq.refl _,(hI _ _ _).2 ?_,by omega⟩;simp(disch:=omega)only[go_sem,h0,h9,h10,h11,h3,hw1];(repeat' apply And.intro)<;>(try first | rfl | assumption | omega);rw[h1,jC,Int.natCast_add]
  ·have hkq:k=q.length:=by omega
   subst hkq;have hlt': ¬(q.length:Int)<(q.length:Int):=by omega
   rw[List.take_length] at h3;simp(disch:=omega)only[go_sem,h0,h9,h10,h11,h3,hlt'];refine(Cj9 G q.flatten.length H (by omega)).mono ?_;rintro e H1 hg;obtain⟨v,rfl,hv⟩: ∃v,e= .ret v/\Dn2 H q.flatten.length [] v H1:=by
    rcases hg with⟨a,b,c⟩ | ⟨a,r,b,c,d⟩
    ·exact⟨_,b, .inl ⟨a,rfl,c⟩⟩
    ·exact⟨_,c, .inr ⟨a,r,b,rfl,by rw[d];rfl⟩⟩
   clear hg;simp(disch:=omega)only[go_sem,h0,h9,h10,h11,h3];obtain⟨J,hJ⟩: ∃J:Nat->(Nat->DVal)->Ab->Prop,∀k env heap,J k env heap↔(env 0=Vi q/\env 25=Vi q/\env 26=dI q.length/\env 27=dI k/\k<=q.length/\Dn2 H q.flatten.length (q.take k).flatten (env 6) heap):=⟨_,fun _ _ _=>Iff.rfl⟩;refine Bt4.run J (fun k=>q.length-k) 0 ((hJ _ _ _).2 ?_) ?_
   ·simp(disch:=omega)only[go_sem,h0,Vi];(repeat' apply And.intro)<;>(try first | rfl | assumption | omega)
   ·intro k env H1 hk;obtain⟨h0,h25,h26,h27,hk,hv⟩:=(hJ _ _ _).1 hk;by_cases hlt:k<q.length
    ·have hlt':(k:Int)<(q.length:Int):=by omega
     have h1:=Ai0 q k hlt;have h2:=Rz q (k+1);have hget:(q.map Dd)[k]? =some (Dd q[k]):=by rw[List.getElem?_map,List.getElem?_eq_getElem hlt];rfl
     have hw1:IntKind.i64.wrap ((k:Int)+1)=((k+1:Nat):Int):=by rw[IntKind.wrap_i64];omega
     rw[h1,jC] at h2;obtain⟨ts,hts⟩: ∃ts,ts=q[k]:=⟨_,rfl⟩;rw[<-hts] at hget h1 h2;have hnl:=Bl Ca ts;have hft:=Ak1 ts;have hone:=Av9 ts;rcases hv with⟨hT,h6,rfl⟩ | ⟨hT,r,hr,h6,rfl⟩
     ·have h5:ts.length=0:=by omega
      simp(disch:=omega)only[go_sem,h0,h25,h26,h27,h6,h5,hlt',Vi,hget,hml,jD,Dd,hft,hone,hnl];refine⟨k+1,_,Lq.refl _,(hJ _ _ _).2 ?_,by omega⟩;simp(disch:=omega)only[go_sem,h0,h25,h26,h27,h6,h5,hw1];(repeat' apply And.intro)<;>(try first | rfl | assumption | omega);exact .inl ⟨hT,rfl,rfl⟩
     ·simp(disch:=omega)only[go_sem,h0,h25,h26,h27,h6,hlt',Vi,hget,hml,jD,Dd,hft,hone,hnl];refine⟨by rw[jC,Bl Ca,Bs];show _<=_+_*4;omega,k+1,_,Lq.refl _,(hJ _ _ _).2 ?_,by omega⟩;simp(disch:=omega)only[go_sem,h0,h25,h26,h27,h6,hw1];(repeat' apply And.intro)<;>(try first | rfl | assumption | omega);refine .inr ⟨hT,r,hr,by rw[h1,jC], ?_⟩;have hsp:=Br7 ((q.take k).flatten.flatMap Dw) (Bj (q.flatten.length-(q.take k).flatten.length) Dt8) (ts.flatMap Dw);rw[Bl Ca,hnl,show ts.length*4=ts.length*Dt8.length from rfl,Ck0] at hsp;rw[hsp,h1,List.flatMap_append,jC,Nat.sub_add_eq]
    ·have hkq:k=q.length:=by omega
     subst hkq;have hlt': ¬(q.length:Int)<(q.length:Int):=by omega
     rw[List.take_length] at hv;simp(disch:=omega)only[go_sem,h0,h25,h26,h27,hlt'];rcases hv with⟨hT,h6,rfl⟩ | ⟨hT,r,hr,h6,rfl⟩
     ·simp(disch:=omega)only[go_sem,h6];have:q.flatten= []:=List.length_eq_zero_iff.1 hT;exact Pl.refl ⟨_,rfl,by rw[this];exact .inl ⟨rfl,rfl,rfl,rfl⟩⟩
     ·simp(disch:=omega)only[go_sem,h6];refine Pl.refl ⟨_,rfl, .inr ⟨r,hr,Bl Ca _,rfl, ?_⟩⟩;rw[Nat.sub_self];simp [Bj]
theorem Bg7 (G:Nat->DVal) (q:List (List Tok)) (H:Ab) (hq:q.length<=1000000) (hl:q.flatten.length<=100000000):Ae Tryz.prog G 9 [Vi q] H fun e H'=> ∃v,e= .ret v/\Er H 31 4 q.flatten.length (q.flatten.flatMap Dw) v H':=
 (Aw0 G q H hq hl).mono fun _ _ ⟨v,h,k⟩=>⟨v,h,k.j⟩
theorem Aw1 (G:Nat->DVal) (q:List (List Tok)) (H:Ab) (hq:q.length<=1000000) (hl:q.flatten.length<=100000000):Ae Tryz.prog G 9 [Vi q] H (Bo (Dd q.flatten) H):=(Bg7 G q H hq hl).frozenJ
theorem Dj4 (G:Nat->DVal) (H:Ab) (tss:List (List Tok)) {q n:Nat} (hq:H q=none) (hn:tss.length=n) (hn2:n<=1000000) (hl:(tss.flatten).length<=100000000):Ae Tryz.prog G 9 [.oslice 1 q 0 n n] (upd H q (some (.cells (tss.map Dd) 32))) (Bo (Dd tss.flatten) H):=by
 subst hn;refine Ae.fzA q hq ?_;have e:fzs q (tss.map Dd) [.oslice 1 q 0 tss.length tss.length]= [Vi tss]:=by
  simp only[fzs,fz,if_pos,jJ,Nat.mul_one,Vi];rw[List.take_of_length_le (by simp)]
 rw[e];exact Aw1 G tss H hn2 hl
end Go.Dl
