/- The data level and the contracts of the functions that are reached (part 13). -/
import Derived.Lib.Repeat
import Derived.ChangeSame
import Derived.Deep.Slices
import Derived.RowKit3
import Derived.Test.YtddbdpcgikmiaaaGreatDoorRows
import Derived.DeepKeys4
import Derived.LaidLaws
import Derived.Stop.LaidErr
import Derived.Shelf.Vars
import Derived.Test.YtddbdpcgikmiaaaGreatDoorPnl
set_option linter.unusedSimpArgs false
set_option linter.unusedVariables false
set_option linter.unusedSectionVars false
-- Chapter 4: the function ParamTokens of p
namespace Go.Dl
open Go Go.Proofs
set_option maxRecDepth 100000
theorem St.putn {G:Nat->DVal} {B0 B K:Ac} {r:Nat} {ts:List Tok} (h:St B0 B r ts K) (hG:GX G) (y:ts.length<=1000000000):Af Tryz.prog G 92 [.optr r 0, .nilSlice] K (fun e K'=>e= .ret (.optr r 0)/\St B0 B r ts K'):=by
 have h1:=Ae0 hG [] B r ts K h.hr (by simpa using y) h.hw;refine(Kq.call (Sub.refl K) (.cons (.keep (Sub.refl K) _) (.cons (Lt.nil (Sub.refl K)) .nil)) h1).mono ?_;rintro e H' ⟨h2,h3⟩;exact⟨h2,by simpa using h3,h.hr,h.hs⟩
section
variable {G:Nat->DVal}
theorem Go8 {l:List Par} (hm:l.all Ja=true) {n:Nat} (C:Ap1 l<=n):l.length<=n:=by
 have key: ∀l:List Par,(∀x∈l,Ja x=true)->l.length<=Ap1 l:=by
  intro l
  induction l with
  | nil=>intro _;exact Nat.le_refl _
  | cons x l ih=>
   intro h;have h1:=ih fun y D=>h y (List.mem_cons_of_mem _ D);have h2:=(Ab6 (h x (List.mem_cons_self ..))).1;rw[Ih,jF,jF,decide_eq_true_eq] at h2;have h3:=h2.1.2;have e:Ap1 (x::l)=x.names.length+Ap1 l:=by simp [Ap1]
   rw[e,jA];omega
 exact Nat.le_trans (key l (List.all_eq_true.1 hm)) C
theorem Dk8 {p:Par} (h:Ja p=true):p.mode=1\/p.mode=2\/p.mode=3:=by
 simp only[Ja,jF,decide_eq_true_eq] at h;obtain⟨⟨⟨-,h1⟩,h2⟩,-⟩:=h;omega
set_option maxHeartbeats 40000000 in
theorem Ar1 (hG:GX G) (H:Ac) (l:List Par) (hl:Mr Yi 1048576 l):Af Tryz.prog G 27 [Hr l] H (Au (.tuple [Bh (Br3 l).1,dI (Br3 l).2]) H):=by
 rw[Br3];refine Ab Tryz.func27 Tryz.call27 rfl (by kernel_rfl) ?_;simp(disch:=omega)only[go_sem];refine Af.monoR (Tn hG H l hl) ?_;cases hm:Ii l
 ·simp(disch:=omega)only[go_sem];exact Lt.fin (Sub.refl H) (Lt.tuple (.cons (Lt.nil (Sub.refl H)) (Kq.keep (Sub.refl H) _))) ⟨rfl,rfl⟩
 have aq:=hm;rw[Ii,jF,decide_eq_true_eq] at aq;have bd:=Go8 aq.1 aq.2;have ay:=List.all_eq_true.1 aq.1;simp(disch:=omega)only[go_sem];intro rm ar;dsimp only at ar;simp(disch:=omega)only[go_sem];intro m1 am;dsimp only at am;have n1:rm≠m1:=Ae am (Aa _ _ _);have af:=n1.symm;simp(disch:=omega)only[go_sem,n1,af];intro m2 ai;dsimp only at ai;have n2:rm≠m2:=Ae ai (Aa _ _ _);have ao:=n2.symm;have n3:m1≠m2:=Ae ai (An (Aa _ _ _) af);have a0:=n3.symm;simp(disch:=omega)only[go_sem,n1,af,n2,ao,n3,a0];intro rw aj;dsimp only at aj;have k1:H m1=none:=by rw[Ak _ _ _ _ af] at am;exact am
 have k2:H m2=none:=by rw[Ak _ _ _ _ ao,Ak _ _ _ _ a0,Ak _ _ _ _ ao] at ai;exact ai
 obtain⟨Hm,ag⟩: ∃X,X=upd (upd (upd (upd (upd H rm (some (.map []))) m1 (some (.cells [.str [111,117,116]] 9))) rm (some (.map [(.int .u8 2, .oslice 1 m1 0 1 1)]))) m2 (some (.cells [.str [105,110], .str [111,117,116]] 9))) rm (some (.map [(.int .u8 2, .oslice 1 m1 0 1 1),(.int .u8 3, .oslice 1 m2 0 2 2)])):=⟨_,rfl⟩;rw[<-ag] at aj;have sm:Sub H Hm:=by rw[ag];exact(((((Sub.refl H).up ar _).up k1 _).up ar _).up k2 _).up ar _
 have a8:Hm rm=some (.map [(.int .u8 2, .oslice 1 m1 0 1 1),(.int .u8 3, .oslice 1 m2 0 2 2)]):=by rw[ag];exact Aa _ _ _
 have a9:Hm m2=some (.cells [.str [105,110], .str [111,117,116]] 9):=by rw[ag];exact An (Aa _ _ _) ao
 have ba:Hm m1=some (.cells [.str [111,117,116]] 9):=by rw[ag];exact An (An (An (Aa _ _ _) af) n3) af
 have be:=SAt.start aj;clear am ai;simp(disch:=omega)only[go_sem,n1,af,n2,ao,n3,a0,Hr];rw[<-ag];clear ag;obtain⟨I,hI⟩: ∃I:Nat->(Nat->DVal)->Ac->Prop,∀k env heap,I k env heap↔(env 4= .omap rm/\env 5= .optr rw 0/\env 17=Hr l/\env 18=dI l.length/\env 19=dI k/\k<=l.length/\SAt Hm rw (Oh (l.take k)) heap):=⟨_,fun _ _ _=>Iff.rfl⟩;refine Dn5.run I (fun k=>l.length-k) 0 ((hI _ _ _).2 ?_) ?_
 ·simp(disch:=omega)only[go_sem,Hr];(repeat' apply And.intro)<;>(try first | rfl | assumption | omega)
 ·intro k env heap hi;obtain⟨J,L,M,O,S,hk,ak⟩:=(hI _ _ _).1 hi;have hfl:=Ax Ao l;by_cases au:k<l.length
  ·have a1:(k:Int)<(l.length:Int):=by omega
   have al:IntKind.i64.wrap ((k:Int)+1)=((k+1:Nat):Int):=by rw[IntKind.wrap_i64];omega
   have mx:=List.getElem_mem au;have hle:=Cx1 ay k hk;have a5:=Cu Ao l k au;have av:k=0->Oh (l.take (k+1))=Jp l[k]:=by intro h;subst h;exact Bz9 au
   have aw:0<k->Oh (l.take (k+1))=Oh (l.take k)++Ah Dg::Jp l[k]:=fun h=>Br2 au h;have a2:k=0->Oh (l.take k)= []:=by intro h;subst h;rfl
   obtain⟨x,hx⟩: ∃x,x=l[k]:=⟨_,rfl⟩;rw[<-hx] at a5 mx av aw;obtain⟨o1,o2,o3⟩:=Ab6 (ay x mx);have a6:=Dk8 (ay x mx);obtain⟨f0,f1,f2⟩:=hl.2 x mx;have bf:=Qi o2;have bg:=Be9 o3;have bh:=Wj o1;simp(disch:=omega)only[go_sem,J,L,M,O,S,Hr,a1,a5,hfl,jD];intro r7 ax;dsimp only at ax;have ah:=ak.frame ax (.cells (Gj x) 136);have z7:Hm r7=none:=(ak.lo ax).1;have n7:r7≠rw:=(ak.lo ax).2;obtain⟨B0,hX⟩: ∃X,X=upd Hm r7 (some (.cells (Gj x) 136)):=⟨_,rfl⟩;have y:B0 r7=some (.cells (Gj x) 136):=by rw[hX];exact Aa _ _ _
   have ac:Sub Hm B0:=by rw[hX];exact(Sub.refl _).up z7 _
   have a3:B0 rw=none:=by rw[hX,Ak _ _ _ _ n7.symm];exact aj
   have C:=ac _ _ a8;have Z:=ac _ _ ba;have aa:=ac _ _ a9;obtain⟨K0,ap⟩: ∃X,X=upd heap r7 (some (.cells (Gj x) 136)):=⟨_,rfl⟩;rw[<-hX,<-ap] at ah;clear hX;by_cases k0:k=0
   ·have a4: ¬(0:Int)<(k:Int):=by omega
    have ad:Oh (l.take (k+1))= []++Jp x:=av k0;obtain⟨ae,hts⟩: ∃ae:List Tok,ae= []:=⟨_,rfl⟩;rw[a2 k0,<-hts] at ah;rw[<-hts] at ad;have V:ae.length<=100000:=by rw[hts];simp
    clear hts av aw a2;simp(disch:=omega)only[go_sem,J,L,M,O,S,a4];rw[<-ap];clear ap;have h:St B0 B0 rw ae K0:=⟨ah,a3,Sub.refl B0⟩;have g7:=h.g y;have gm:=h.g C;rcases a6 with hk | hk | hk
    ·have hmo:Iu x.mode= []:=by rw[Iu,if_neg (by omega),if_neg (by omega)]
     refine Aj (by kernel_rfl) pL1 (by kernel_rfl) ?_;simp(disch:=omega)only[go_sem,g7,gm,hk,J,L,M,O,S,Ao,Ck,Cl,Cm,Bg]
     repeat'
      first
      | with_reducible apply And.intro
      |with_reducible show Af _ _ 93 _ _ _
       have D:=h.g y;have E:=h.g C;refine(h.call (Iw hG x.names (by omega)) (by(try simp only[jC,jA,jB,jK,jN,jP,List.length_flatMap] at V⊢)<;>omega)).mono ?_;rintro _ U ⟨rfl,h⟩;try simp(disch:=omega)only[go_sem,D,E,h.g y,h.g C,hk,J,L,M,O,S,Ao,Ck,Cl,Cm,Bg]
      |with_reducible show Af _ _ 122 _ _ _
       have D:=h.g y;have E:=h.g C;refine(h.call (Du hG x.type o2 f1.fitx) (by(try simp only[jC,jA,jB,jK,jN,jP,List.length_flatMap] at V⊢)<;>omega)).mono ?_;rintro _ U ⟨rfl,h⟩;try simp(disch:=omega)only[go_sem,D,E,h.g y,h.g C,hk,J,L,M,O,S,Ao,Ck,Cl,Cm,Bg]
      |with_reducible show Af _ _ 123 _ _ _
       have D:=h.g y;have E:=h.g C;refine(h.call (Kf hG x.e o3 f2) (by(try simp only[jC,jA,jB,jK,jN,jP,List.length_flatMap] at V⊢)<;>omega)).mono ?_;rintro _ U ⟨rfl,h⟩;try simp(disch:=omega)only[go_sem,D,E,h.g y,h.g C,hk,J,L,M,O,S,Ao,Ck,Cl,Cm,Bg]
      |with_reducible show Af _ _ 92 _ _ _
       have D:=h.g y;have E:=h.g C;refine(h.put hG [Fk] ab (by(try simp only[jC,jA,jB,jK,jN,jP,List.length_flatMap] at V⊢)<;>omega)).mono ?_;rintro _ U ⟨rfl,h⟩;try simp(disch:=omega)only[go_sem,D,E,h.g y,h.g C,hk,J,L,M,O,S,Ao,Ck,Cl,Cm,Bg]
      |with_reducible show Af _ _ 92 _ _ _
       have D:=h.g y;have E:=h.g C;refine(h.putn hG (by(try simp only[jC,jA,jB,jK,jN,jP,List.length_flatMap] at V⊢)<;>omega)).mono ?_;rintro _ U ⟨rfl,h⟩;try simp(disch:=omega)only[go_sem,D,E,h.g y,h.g C,hk,J,L,M,O,S,Ao,Ck,Cl,Cm,Bg]
      |refine⟨k+1,_,Ri.refl _,(hI _ _ _).2 ?_,by omega⟩
       simp(disch:=omega)only[go_sem,J,L,M,O,S,al];(repeat' apply And.intro)<;>(try first | rfl | assumption | omega);rw[ad];have hz:=(h.hw.less h.hs).less ac;simpa [Jp,hmo] using hz
      |intro qa Y;dsimp only at Y
       have D:=h.g y;have E:=h.g C;obtain⟨Bw,U,ew,h,W,ab⟩:=h.new Y (.cells [.str [58]] 9);rw[ew];replace y:=W _ _ y;replace C:=W _ _ C;replace Z:=W _ _ Z;replace aa:=W _ _ aa;try simp(disch:=omega)only[go_sem,D,E,h.g y,h.g C,hk,J,L,M,O,S,Ao,Ck,Cl,Cm,Bg]
    ·have hmo:Iu x.mode= [Ah Tl]:=by rw[Iu,if_pos hk]
     refine Aj (by kernel_rfl) pL1 (by kernel_rfl) ?_;simp(disch:=omega)only[go_sem,g7,gm,hk,J,L,M,O,S,Ao,Ck,Cl,Cm,Bg]
     repeat'
      first
      | with_reducible apply And.intro
      |with_reducible show Af _ _ 93 _ _ _
       have D:=h.g y;have E:=h.g C;refine(h.call (Iw hG x.names (by omega)) (by(try simp only[jC,jA,jB,jK,jN,jP,List.length_flatMap] at V⊢)<;>omega)).mono ?_;rintro _ U ⟨rfl,h⟩;try simp(disch:=omega)only[go_sem,D,E,h.g y,h.g C,hk,J,L,M,O,S,Ao,Ck,Cl,Cm,Bg]
      |with_reducible show Af _ _ 122 _ _ _
       have D:=h.g y;have E:=h.g C;refine(h.call (Du hG x.type o2 f1.fitx) (by(try simp only[jC,jA,jB,jK,jN,jP,List.length_flatMap] at V⊢)<;>omega)).mono ?_;rintro _ U ⟨rfl,h⟩;try simp(disch:=omega)only[go_sem,D,E,h.g y,h.g C,hk,J,L,M,O,S,Ao,Ck,Cl,Cm,Bg]
      |with_reducible show Af _ _ 123 _ _ _
       have D:=h.g y;have E:=h.g C;refine(h.call (Kf hG x.e o3 f2) (by(try simp only[jC,jA,jB,jK,jN,jP,List.length_flatMap] at V⊢)<;>omega)).mono ?_;rintro _ U ⟨rfl,h⟩;try simp(disch:=omega)only[go_sem,D,E,h.g y,h.g C,hk,J,L,M,O,S,Ao,Ck,Cl,Cm,Bg]
      |with_reducible show Af _ _ 92 _ _ _
       have D:=h.g y;have E:=h.g C;refine(h.put hG [Fk] ab (by(try simp only[jC,jA,jB,jK,jN,jP,List.length_flatMap] at V⊢)<;>omega)).mono ?_;rintro _ U ⟨rfl,h⟩;try simp(disch:=omega)only[go_sem,D,E,h.g y,h.g C,hk,J,L,M,O,S,Ao,Ck,Cl,Cm,Bg]
      |with_reducible show Af _ _ 92 _ _ _
       have D:=h.g y;have E:=h.g C;refine(h.put hG [Tl] Z (by(try simp only[jC,jA,jB,jK,jN,jP,List.length_flatMap] at V⊢)<;>omega)).mono ?_;rintro _ U ⟨rfl,h⟩;try simp(disch:=omega)only[go_sem,D,E,h.g y,h.g C,hk,J,L,M,O,S,Ao,Ck,Cl,Cm,Bg]
      |refine⟨k+1,_,Ri.refl _,(hI _ _ _).2 ?_,by omega⟩
       simp(disch:=omega)only[go_sem,J,L,M,O,S,al];(repeat' apply And.intro)<;>(try first | rfl | assumption | omega);rw[ad];have hz:=(h.hw.less h.hs).less ac;simpa [Jp,hmo] using hz
      |intro qa Y;dsimp only at Y
       have D:=h.g y;have E:=h.g C;obtain⟨Bw,U,ew,h,W,ab⟩:=h.new Y (.cells [.str [58]] 9);rw[ew];replace y:=W _ _ y;replace C:=W _ _ C;replace Z:=W _ _ Z;replace aa:=W _ _ aa;try simp(disch:=omega)only[go_sem,D,E,h.g y,h.g C,hk,J,L,M,O,S,Ao,Ck,Cl,Cm,Bg]
      |refine⟨_,rfl, ?_⟩
       try simp(disch:=omega)only[go_sem,D,E,h.g y,h.g C,hk,J,L,M,O,S,Ao,Ck,Cl,Cm,Bg]
    ·have hmo:Iu x.mode= [Ah wIn,Ah Tl]:=by rw[Iu,if_neg (by omega),if_pos hk]
     refine Aj (by kernel_rfl) pL1 (by kernel_rfl) ?_;simp(disch:=omega)only[go_sem,g7,gm,hk,J,L,M,O,S,Ao,Ck,Cl,Cm,Bg]
     repeat'
      first
      | with_reducible apply And.intro
      |with_reducible show Af _ _ 93 _ _ _
       have D:=h.g y;have E:=h.g C;refine(h.call (Iw hG x.names (by omega)) (by(try simp only[jC,jA,jB,jK,jN,jP,List.length_flatMap] at V⊢)<;>omega)).mono ?_;rintro _ U ⟨rfl,h⟩;try simp(disch:=omega)only[go_sem,D,E,h.g y,h.g C,hk,J,L,M,O,S,Ao,Ck,Cl,Cm,Bg]
      |with_reducible show Af _ _ 122 _ _ _
       have D:=h.g y;have E:=h.g C;refine(h.call (Du hG x.type o2 f1.fitx) (by(try simp only[jC,jA,jB,jK,jN,jP,List.length_flatMap] at V⊢)<;>omega)).mono ?_;rintro _ U ⟨rfl,h⟩;try simp(disch:=omega)only[go_sem,D,E,h.g y,h.g C,hk,J,L,M,O,S,Ao,Ck,Cl,Cm,Bg]
      |with_reducible show Af _ _ 123 _ _ _
       have D:=h.g y;have E:=h.g C;refine(h.call (Kf hG x.e o3 f2) (by(try simp only[jC,jA,jB,jK,jN,jP,List.length_flatMap] at V⊢)<;>omega)).mono ?_;rintro _ U ⟨rfl,h⟩;try simp(disch:=omega)only[go_sem,D,E,h.g y,h.g C,hk,J,L,M,O,S,Ao,Ck,Cl,Cm,Bg]
      |with_reducible show Af _ _ 92 _ _ _
       have D:=h.g y;have E:=h.g C;refine(h.put hG [Fk] ab (by(try simp only[jC,jA,jB,jK,jN,jP,List.length_flatMap] at V⊢)<;>omega)).mono ?_;rintro _ U ⟨rfl,h⟩;try simp(disch:=omega)only[go_sem,D,E,h.g y,h.g C,hk,J,L,M,O,S,Ao,Ck,Cl,Cm,Bg]
      |with_reducible show Af _ _ 92 _ _ _
       have D:=h.g y;have E:=h.g C;refine(h.put hG [wIn,Tl] aa (by(try simp only[jC,jA,jB,jK,jN,jP,List.length_flatMap] at V⊢)<;>omega)).mono ?_;rintro _ U ⟨rfl,h⟩;try simp(disch:=omega)only[go_sem,D,E,h.g y,h.g C,hk,J,L,M,O,S,Ao,Ck,Cl,Cm,Bg]
      |refine⟨k+1,_,Ri.refl _,(hI _ _ _).2 ?_,by omega⟩
       simp(disch:=omega)only[go_sem,J,L,M,O,S,al];(repeat' apply And.intro)<;>(try first | rfl | assumption | omega);rw[ad];have hz:=(h.hw.less h.hs).less ac;simpa [Jp,hmo] using hz
      |intro qa Y;dsimp only at Y
       have D:=h.g y;have E:=h.g C;obtain⟨Bw,U,ew,h,W,ab⟩:=h.new Y (.cells [.str [58]] 9);rw[ew];replace y:=W _ _ y;replace C:=W _ _ C;replace Z:=W _ _ Z;replace aa:=W _ _ aa;try simp(disch:=omega)only[go_sem,D,E,h.g y,h.g C,hk,J,L,M,O,S,Ao,Ck,Cl,Cm,Bg]
      |refine⟨_,rfl, ?_⟩
       try simp(disch:=omega)only[go_sem,D,E,h.g y,h.g C,hk,J,L,M,O,S,Ao,Ck,Cl,Cm,Bg]
   ·have a4:(0:Int)<(k:Int):=by omega
    have ad:Oh (l.take (k+1))=(Oh (l.take k)++ [Ah Dg])++Jp x:=by rw[aw (by omega)];simp
    simp(disch:=omega)only[go_sem,J,L,M,O,S,a4];rw[<-ap];intro q0 hq0;dsimp only at hq0;simp(disch:=omega)only[go_sem,J,L,M,O,S];refine(Ab1 hG Dg hq0 a3 (by omega) ah).mono ?_;rintro _ K0 ⟨rfl,ah⟩;obtain⟨ae,hts⟩: ∃ae:List Tok,ae=Oh (l.take k)++ [Ah Dg]:=⟨_,rfl⟩;rw[<-hts] at ah ad;have V:ae.length<=100000:=by rw[hts,jC,jQ];omega
    clear hts av aw a2 ap;simp(disch:=omega)only[go_sem,J,L,M,O,S];have h:St B0 B0 rw ae K0:=⟨ah,a3,Sub.refl B0⟩;have g7:=h.g y;have gm:=h.g C;rcases a6 with hk | hk | hk
    ·have hmo:Iu x.mode= []:=by rw[Iu,if_neg (by omega),if_neg (by omega)]
     refine Aj (by kernel_rfl) pL1 (by kernel_rfl) ?_;simp(disch:=omega)only[go_sem,g7,gm,hk,J,L,M,O,S,Ao,Ck,Cl,Cm,Bg]
     repeat'
      first
      | with_reducible apply And.intro
      |with_reducible show Af _ _ 93 _ _ _
       have D:=h.g y;have E:=h.g C;refine(h.call (Iw hG x.names (by omega)) (by(try simp only[jC,jA,jB,jK,jN,jP,List.length_flatMap] at V⊢)<;>omega)).mono ?_;rintro _ U ⟨rfl,h⟩;try simp(disch:=omega)only[go_sem,D,E,h.g y,h.g C,hk,J,L,M,O,S,Ao,Ck,Cl,Cm,Bg]
      |with_reducible show Af _ _ 122 _ _ _
       have D:=h.g y;have E:=h.g C;refine(h.call (Du hG x.type o2 f1.fitx) (by(try simp only[jC,jA,jB,jK,jN,jP,List.length_flatMap] at V⊢)<;>omega)).mono ?_;rintro _ U ⟨rfl,h⟩;try simp(disch:=omega)only[go_sem,D,E,h.g y,h.g C,hk,J,L,M,O,S,Ao,Ck,Cl,Cm,Bg]
      |with_reducible show Af _ _ 123 _ _ _
       have D:=h.g y;have E:=h.g C;refine(h.call (Kf hG x.e o3 f2) (by(try simp only[jC,jA,jB,jK,jN,jP,List.length_flatMap] at V⊢)<;>omega)).mono ?_;rintro _ U ⟨rfl,h⟩;try simp(disch:=omega)only[go_sem,D,E,h.g y,h.g C,hk,J,L,M,O,S,Ao,Ck,Cl,Cm,Bg]
      |with_reducible show Af _ _ 92 _ _ _
       have D:=h.g y;have E:=h.g C;refine(h.put hG [Fk] ab (by(try simp only[jC,jA,jB,jK,jN,jP,List.length_flatMap] at V⊢)<;>omega)).mono ?_;rintro _ U ⟨rfl,h⟩;try simp(disch:=omega)only[go_sem,D,E,h.g y,h.g C,hk,J,L,M,O,S,Ao,Ck,Cl,Cm,Bg]
      |with_reducible show Af _ _ 92 _ _ _
       have D:=h.g y;have E:=h.g C;refine(h.putn hG (by(try simp only[jC,jA,jB,jK,jN,jP,List.length_flatMap] at V⊢)<;>omega)).mono ?_;rintro _ U ⟨rfl,h⟩;try simp(disch:=omega)only[go_sem,D,E,h.g y,h.g C,hk,J,L,M,O,S,Ao,Ck,Cl,Cm,Bg]
      |refine⟨k+1,_,Ri.refl _,(hI _ _ _).2 ?_,by omega⟩
       simp(disch:=omega)only[go_sem,J,L,M,O,S,al];(repeat' apply And.intro)<;>(try first | rfl | assumption | omega);rw[ad];have hz:=(h.hw.less h.hs).less ac;simpa [Jp,hmo] using hz
      |intro qa Y;dsimp only at Y
       have D:=h.g y;have E:=h.g C;obtain⟨Bw,U,ew,h,W,ab⟩:=h.new Y (.cells [.str [58]] 9);rw[ew];replace y:=W _ _ y;replace C:=W _ _ C;replace Z:=W _ _ Z;replace aa:=W _ _ aa;try simp(disch:=omega)only[go_sem,D,E,h.g y,h.g C,hk,J,L,M,O,S,Ao,Ck,Cl,Cm,Bg]
    ·have hmo:Iu x.mode= [Ah Tl]:=by rw[Iu,if_pos hk]
     refine Aj (by kernel_rfl) pL1 (by kernel_rfl) ?_;simp(disch:=omega)only[go_sem,g7,gm,hk,J,L,M,O,S,Ao,Ck,Cl,Cm,Bg]
     repeat'
      first
      | with_reducible apply And.intro
      |with_reducible show Af _ _ 93 _ _ _
       have D:=h.g y;have E:=h.g C;refine(h.call (Iw hG x.names (by omega)) (by(try simp only[jC,jA,jB,jK,jN,jP,List.length_flatMap] at V⊢)<;>omega)).mono ?_;rintro _ U ⟨rfl,h⟩;try simp(disch:=omega)only[go_sem,D,E,h.g y,h.g C,hk,J,L,M,O,S,Ao,Ck,Cl,Cm,Bg]
      |with_reducible show Af _ _ 122 _ _ _
       have D:=h.g y;have E:=h.g C;refine(h.call (Du hG x.type o2 f1.fitx) (by(try simp only[jC,jA,jB,jK,jN,jP,List.length_flatMap] at V⊢)<;>omega)).mono ?_;rintro _ U ⟨rfl,h⟩;try simp(disch:=omega)only[go_sem,D,E,h.g y,h.g C,hk,J,L,M,O,S,Ao,Ck,Cl,Cm,Bg]
      |with_reducible show Af _ _ 123 _ _ _
       have D:=h.g y;have E:=h.g C;refine(h.call (Kf hG x.e o3 f2) (by(try simp only[jC,jA,jB,jK,jN,jP,List.length_flatMap] at V⊢)<;>omega)).mono ?_;rintro _ U ⟨rfl,h⟩;try simp(disch:=omega)only[go_sem,D,E,h.g y,h.g C,hk,J,L,M,O,S,Ao,Ck,Cl,Cm,Bg]
      |with_reducible show Af _ _ 92 _ _ _
       have D:=h.g y;have E:=h.g C;refine(h.put hG [Fk] ab (by(try simp only[jC,jA,jB,jK,jN,jP,List.length_flatMap] at V⊢)<;>omega)).mono ?_;rintro _ U ⟨rfl,h⟩;try simp(disch:=omega)only[go_sem,D,E,h.g y,h.g C,hk,J,L,M,O,S,Ao,Ck,Cl,Cm,Bg]
      |with_reducible show Af _ _ 92 _ _ _
       have D:=h.g y;have E:=h.g C;refine(h.put hG [Tl] Z (by(try simp only[jC,jA,jB,jK,jN,jP,List.length_flatMap] at V⊢)<;>omega)).mono ?_;rintro _ U ⟨rfl,h⟩;try simp(disch:=omega)only[go_sem,D,E,h.g y,h.g C,hk,J,L,M,O,S,Ao,Ck,Cl,Cm,Bg]
      |refine⟨k+1,_,Ri.refl _,(hI _ _ _).2 ?_,by omega⟩
       simp(disch:=omega)only[go_sem,J,L,M,O,S,al];(repeat' apply And.intro)<;>(try first | rfl | assumption | omega);rw[ad];have hz:=(h.hw.less h.hs).less ac;simpa [Jp,hmo] using hz
      |intro qa Y;dsimp only at Y
       have D:=h.g y;have E:=h.g C;obtain⟨Bw,U,ew,h,W,ab⟩:=h.new Y (.cells [.str [58]] 9);rw[ew];replace y:=W _ _ y;replace C:=W _ _ C;replace Z:=W _ _ Z;replace aa:=W _ _ aa;try simp(disch:=omega)only[go_sem,D,E,h.g y,h.g C,hk,J,L,M,O,S,Ao,Ck,Cl,Cm,Bg]
      |refine⟨_,rfl, ?_⟩
       try simp(disch:=omega)only[go_sem,D,E,h.g y,h.g C,hk,J,L,M,O,S,Ao,Ck,Cl,Cm,Bg]
    ·have hmo:Iu x.mode= [Ah wIn,Ah Tl]:=by rw[Iu,if_neg (by omega),if_pos hk]
     refine Aj (by kernel_rfl) pL1 (by kernel_rfl) ?_;simp(disch:=omega)only[go_sem,g7,gm,hk,J,L,M,O,S,Ao,Ck,Cl,Cm,Bg]
     repeat'
      first
      | with_reducible apply And.intro
      |with_reducible show Af _ _ 93 _ _ _
       have D:=h.g y;have E:=h.g C;refine(h.call (Iw hG x.names (by omega)) (by(try simp only[jC,jA,jB,jK,jN,jP,List.length_flatMap] at V⊢)<;>omega)).mono ?_;rintro _ U ⟨rfl,h⟩;try simp(disch:=omega)only[go_sem,D,E,h.g y,h.g C,hk,J,L,M,O,S,Ao,Ck,Cl,Cm,Bg]
      |with_reducible show Af _ _ 122 _ _ _
       have D:=h.g y;have E:=h.g C;refine(h.call (Du hG x.type o2 f1.fitx) (by(try simp only[jC,jA,jB,jK,jN,jP,List.length_flatMap] at V⊢)<;>omega)).mono ?_;rintro _ U ⟨rfl,h⟩;try simp(disch:=omega)only[go_sem,D,E,h.g y,h.g C,hk,J,L,M,O,S,Ao,Ck,Cl,Cm,Bg]
      |with_reducible show Af _ _ 123 _ _ _
       have D:=h.g y;have E:=h.g C;refine(h.call (Kf hG x.e o3 f2) (by(try simp only[jC,jA,jB,jK,jN,jP,List.length_flatMap] at V⊢)<;>omega)).mono ?_;rintro _ U ⟨rfl,h⟩;try simp(disch:=omega)only[go_sem,D,E,h.g y,h.g C,hk,J,L,M,O,S,Ao,Ck,Cl,Cm,Bg]
      |with_reducible show Af _ _ 92 _ _ _
       have D:=h.g y;have E:=h.g C;refine(h.put hG [Fk] ab (by(try simp only[jC,jA,jB,jK,jN,jP,List.length_flatMap] at V⊢)<;>omega)).mono ?_;rintro _ U ⟨rfl,h⟩;try simp(disch:=omega)only[go_sem,D,E,h.g y,h.g C,hk,J,L,M,O,S,Ao,Ck,Cl,Cm,Bg]
      |with_reducible show Af _ _ 92 _ _ _
       have D:=h.g y;have E:=h.g C;refine(h.put hG [wIn,Tl] aa (by(try simp only[jC,jA,jB,jK,jN,jP,List.length_flatMap] at V⊢)<;>omega)).mono ?_;rintro _ U ⟨rfl,h⟩;try simp(disch:=omega)only[go_sem,D,E,h.g y,h.g C,hk,J,L,M,O,S,Ao,Ck,Cl,Cm,Bg]
      |refine⟨k+1,_,Ri.refl _,(hI _ _ _).2 ?_,by omega⟩
       simp(disch:=omega)only[go_sem,J,L,M,O,S,al];(repeat' apply And.intro)<;>(try first | rfl | assumption | omega);rw[ad];have hz:=(h.hw.less h.hs).less ac;simpa [Jp,hmo] using hz
      |intro qa Y;dsimp only at Y
       have D:=h.g y;have E:=h.g C;obtain⟨Bw,U,ew,h,W,ab⟩:=h.new Y (.cells [.str [58]] 9);rw[ew];replace y:=W _ _ y;replace C:=W _ _ C;replace Z:=W _ _ Z;replace aa:=W _ _ aa;try simp(disch:=omega)only[go_sem,D,E,h.g y,h.g C,hk,J,L,M,O,S,Ao,Ck,Cl,Cm,Bg]
      |refine⟨_,rfl, ?_⟩
       try simp(disch:=omega)only[go_sem,D,E,h.g y,h.g C,hk,J,L,M,O,S,Ao,Ck,Cl,Cm,Bg]
  ·have:k=l.length:=by omega
   subst this;have a1: ¬(l.length:Int)<(l.length:Int):=by omega
   rw[List.take_length] at ak;have hs:=sm;obtain⟨v,bb,bc⟩:=ak.cell aj;have a7:=ak.sub aj;simp(disch:=omega)only[go_sem,J,L,M,O,S,Hr,a1];simp(disch:=omega)only[go_sem,bb];exact Lt.fin (hs.trans a7) (Lt.tuple (.cons (fun w hw x hx=>Rel.lasts (Er hs w) _ _ (bc w hw x hx)) (Kq.keep (hs.trans a7) _))) ⟨rfl,rfl⟩
end
theorem Ca0 {α:Type} (f:α->α->Bool): ∀l m:List α,Cu1 f l m=eqF f l m
 | [],[]=>rfl
 | [],_::_=>rfl
 | _::_,[]=>rfl
 | x::l,y::m=>by rw[Cu1,eqF,Ca0 f l m]
theorem Fd9 (G:Nat->DVal) (H:Ac) (p:Par->Par->Bool) (l m:List Par) (g:FuncId) (hl:l.length<=1099511627776)
  (hp: ∀x∈l,∀y∈m,∀H,Af Tryz.prog G g ([]++ [.agg (Gj x), .agg (Gj y)]++ []) H (Au (.bool (p x y)) H)):
  Af Tryz.prog G 127 [.vslice (l.flatMap Gj) l.length, .vslice (m.flatMap Gj) m.length, .func (.func g) [] []] H (Au (.bool (eqF p l m)) H):=by
 refine Ab Tryz.func127 Tryz.call127 rfl (by kernel_rfl) ?_;by_cases aa:l.length=m.length
 ·have O:(l.length:Int)=(m.length:Int):=by omega
  simp(disch:=omega)only[go_sem,O];obtain⟨I,S⟩: ∃I:Nat->(Nat->DVal)->Ac->Prop,∀k env heap,I k env heap↔(env 0= .vslice (l.flatMap Gj) l.length/\env 1= .vslice (m.flatMap Gj) m.length/\env 2= .func (.func g) [] []/\env 15= .vslice (l.flatMap Gj) l.length/\env 16=dI m.length/\env 17=dI k/\k<=l.length/\eqF p l m=eqF p (l.drop k) (m.drop k)/\Sub H heap):=⟨_,fun _ _ _=>Iff.rfl⟩;refine Dn5.run I (fun k=>l.length-k) 0 ((S _ _ _).2 ?_) ?_
  ·simp(disch:=omega)only[go_sem];(repeat' apply And.intro)<;>(try first | rfl | assumption | omega);exact Sub.refl _
  ·intro k env heap hi;obtain⟨h,e1,C,D,E,J,hk,L,ab⟩:=(S _ _ _).1 hi;have hfl:=Ax Ao l;have U:=Ax Ao m;by_cases V:k<l.length
   ·have M:(k:Int)<(m.length:Int):=by omega
    have ac:(k:Int)<(l.length:Int):=by omega
    have W:k<m.length:=by omega
    have X:=Cu Ao l k V;have Y:=Cu Ao m k W;have ae:IntKind.i64.wrap ((k:Int)+1)=((k+1:Nat):Int):=by rw[IntKind.wrap_i64];omega
    simp(disch:=omega)only[go_sem,h,e1,C,D,E,J,M,ac,X,Y,hfl,U,jD];intro r8 ad;dsimp only at ad;simp(disch:=omega)only[go_sem,h,e1,C,D,E,J,M,ac,X,Y,hfl,U,jD];intro r9 Z;dsimp only at Z;obtain⟨m2,m1,ag⟩:=Av.1 Z;simp(disch:=omega)only[go_sem,h,e1,C,D,E,J,m1,m2,X,Y,hfl,U,jD];refine(hp l[k] (List.getElem_mem V) m[k] (List.getElem_mem W) _).mono ?_;rintro _ H1 ⟨rfl,rfl⟩;rw[An1 V W] at L;have af:=(ab.new ad (some (DObj.cells (Gj l[k]) 136))).new Z (some (DObj.cells (Gj m[k]) 136));cases hb:p l[k] m[k] with
    | true=>
     rw[hb,jS] at L;simp(disch:=omega)only[go_sem,h,e1,C,D,E,J];refine⟨k+1,_,Ri.refl _,(S _ _ _).2 ?_,by omega⟩;simp(disch:=omega)only[go_sem,h,e1,C,D,E,J,ae];(repeat' apply And.intro)<;>(try first | rfl | assumption | omega)
    | false=>
     rw[hb,jT] at L;simp(disch:=omega)only[go_sem,h,e1,C,D,E,J];exact Es.sub af (Es.refl ⟨by rw[L],rfl⟩)
   ·have:k=l.length:=by omega
    subst this;have M: ¬(l.length:Int)<(m.length:Int):=by omega
    simp(disch:=omega)only[go_sem,h,e1,C,D,E,J,M];refine Es.sub ab (Es.refl ⟨?_,rfl⟩);rw[L,List.drop_length,aa,List.drop_length];rfl
 ·have O: ¬(l.length:Int)=(m.length:Int):=by omega
  simp(disch:=omega)only[go_sem,O];exact Es.refl ⟨by rw[Ce7 aa],rfl⟩
section
variable (G:Nat->DVal) (H:Ac)
theorem n40 {l:List (List UInt8)} {n:Nat} (h:Bp0 n l) (y:n<=1048576):l.length<=1099511627776:=by have:=h.1;omega
theorem l40 {α:Type} {f:Nat->α->Prop} {l:List α} {n:Nat} (h:Mr f n l) (y:n<=1048576):l.length<=1099511627776:=by have:=h.1;omega
theorem Fe0 (a b:Par) (ha:Yi 1048576 a) (hb:Yi 1048576 b):Af Tryz.prog G 128 ([]++ [.agg (Gj a), .agg (Gj b)]++ []) H (Au (.bool (Sc a b)) H):=by
 obtain⟨W,X,Y⟩:=ha;refine Ab Tryz.func128 Tryz.call128 rfl (by kernel_rfl) ?_;simp(disch:=omega)only[go_sem,DVal.cells,jG,jH];intro I L;dsimp only at L;obtain⟨C,D⟩: ∃K',K'=upd H I (some (.cells (Gj a) 136)):=⟨_,rfl⟩;rw[<-D];have M:C I=some (.cells (Gj a) 136):=by rw[D];exact Aa _ _ _
 have O:Sub H C:=by rw[D];exact(Sub.refl _).new L _
 simp(disch:=omega)only[go_sem,DVal.cells,jG,jH];intro S U;dsimp only at U;obtain⟨K,E⟩: ∃K',K'=upd C S (some (.cells (Gj b) 136)):=⟨_,rfl⟩;rw[<-E];have V:K S=some (.cells (Gj b) 136):=by rw[E];exact Aa _ _ _
 have J:Sub C K:=by rw[E];exact(Sub.refl _).new U _
 have h:K I=some (.cells (Gj a) 136):=J _ _ M;have y:=V;have t:Sub H K:=O.trans J;clear J O V M E D;simp(disch:=omega)only[go_sem,h,y,Ao,Ck,Cl,Cm,Bg];refine Af.monoR (Cu6 G K a.names b.names (n40 W (by omega)) (n40 hb.1 (by omega))) ?_;cases h1:decide (a.names=b.names)
 ·simp(disch:=omega)only[go_sem,h,y,Ao,Ck,Cl,Cm,Bg];exact Es.sub t (.refl ⟨by simp [Sc, *],rfl⟩)
 simp(disch:=omega)only[go_sem,h,y,Ao,Ck,Cl,Cm,Bg];by_cases h2:a.mode=b.mode
 ·simp(disch:=omega)only[go_sem,h,y,h2,Ao,Ck,Cl,Cm,Bg];refine Af.monoR (Kx G K a.type b.type (Ap3 X (by omega))) ?_;cases h3:Hq a.type b.type
  ·simp(disch:=omega)only[go_sem,h,y,Ao,Ck,Cl,Cm,Bg];exact Es.sub t (.refl ⟨by simp [Sc, *],rfl⟩)
  simp(disch:=omega)only[go_sem,h,y,Ao,Ck,Cl,Cm,Bg];refine Af.monoR (Kx G K a.e b.e (Ap3 Y (by omega))) ?_;cases h4:Hq a.e b.e
  ·simp(disch:=omega)only[go_sem,h,y,Ao,Ck,Cl,Cm,Bg];exact Es.sub t (.refl ⟨by simp [Sc, *],rfl⟩)
  simp(disch:=omega)only[go_sem,h,y,Ao,Ck,Cl,Cm,Bg];exact Es.sub t (.refl ⟨by simp [Sc, *],rfl⟩)
 ·simp(disch:=omega)only[go_sem,h,y,h2,Ao,Ck,Cl,Cm,Bg];exact Es.sub t (.refl ⟨by simp [Sc,h2],rfl⟩)
theorem Bd0 (a b:List Par) (ha:Mr Yi 1048576 a) (hb:Mr Yi 1048576 b):Af Tryz.prog G 29 [Hr a,Hr b] H (Au (.bool (Cu1 Sc a b)) H):=by
 refine Ab Tryz.func29 Tryz.call29 rfl (by kernel_rfl) ?_;simp(disch:=omega)only[go_sem,Hr];refine Af.monoR (Fd9 G H Sc a b 128 (l40 ha (by omega)) fun x hx y h K=>Fe0 G K x y (ha.2 x hx) (hb.2 y h)) ?_;simp(disch:=omega)only[go_sem];exact Es.refl ⟨by rw[Ca0],rfl⟩
end
section
variable {G:Nat->DVal}
theorem Es.nzA {R:DEnd->Ac->Prop} {cs:List DVal} {H H':Ac} (h:Sub H H') (y:R (.ret (.agg (cs.map nz))) H):Es R (.agg cs) H':=
 Es.sub h (Es.le (fun w H x hx=>by
  simp only[Rel] at hx⊢
  obtain⟨xs,rfl,hx⟩:=hx;exact⟨xs,rfl,Ch4 w H _ _ hx⟩) (.refl y))
theorem Mq (G:Nat->DVal) (H:Ac) (s:List UInt8) (hs:s.length<=1000):Af Tryz.prog G 55 [.str s] H (Au (Bh (Ar s).1) H):=by
 refine Ab Tryz.func55 Tryz.call55 rfl (by kernel_rfl) ?_;simp(disch:=omega)only[go_sem];refine Af.monoR (Ao9 G H s (by omega)) ?_;simp(disch:=omega)only[go_sem];exact Es.refl ⟨rfl,rfl⟩
theorem Nw (G:Nat->DVal) (H:Ac) (s:List UInt8):Af Tryz.prog G 87 [.str s] H (Au (dE (.mk 3 0 0 s [] [] 0 0 0)) H):=by
 refine Ab Tryz.func87 Tryz.call87 rfl (by kernel_rfl) ?_;simp(disch:=omega)only[go_sem];intro q hq;dsimp only at hq;simp(disch:=omega)only[go_sem];exact Es.nzA ((Sub.refl H).new hq _) ⟨by rw[dE,Xf];rfl,rfl⟩
theorem Sh (G:Nat->DVal) (H:Ac) (n:Int):Af Tryz.prog G 88 [.int .i64 n] H (Au (dE (.mk 1 0 n [] [] [] 0 0 0)) H):=by
 refine Ab Tryz.func88 Tryz.call88 rfl (by kernel_rfl) ?_;simp(disch:=omega)only[go_sem];intro q hq;dsimp only at hq;simp(disch:=omega)only[go_sem];exact Es.nzA ((Sub.refl H).new hq _) ⟨by rw[dE,Xf];rfl,rfl⟩
def Dk9 (l:List Tok):Bool:=decide (l.length<=400)&&l.all fun t=>decide (t.text.length<=1000)
theorem Si {l:List Tok} (h:Dk9 l=true):l.length<=500000/\Cb l:=by
 rw[Dk9,jF,decide_eq_true_eq,List.all_eq_true] at h;exact⟨by omega,Gh6 fun t ht=>by have:=of_decide_eq_true (h.2 t ht);omega⟩
def Fe1 (s:List UInt8) (n kind:Int) (text:List UInt8):Bool:=
 decide (s.length<=1000)&&Dk9 (Ar s).1&&(decide ((Gf (Ar s).1).2.1=n)&&decide ((Gf (Ar s).1).2.2=0)&&decide ((Gf (Ar s).1).1.kind=kind)&&Eo (Gf (Ar s).1).1&&
  (decide ((Lj (Gf (Ar s).1).1 0).length<=1000)&&((Lj (Gf (Ar s).1).1 0).all fun y=>decide (y.l.length<=1000))&&decide ((Rl (Lj (Gf (Ar s).1).1 0)).1=text)&&decide ((Rl (Lj (Gf (Ar s).1).1 0)).2=0)))
theorem Gi4 (t:Typ):(Cs t)[0]? =some (.int .u8 t.kind):=rfl
theorem Va (hG:GX G) (H:Ac) (s:List UInt8) (n kind:Int) (text:List UInt8) (h:Fe1 s n kind text=true):Af Tryz.prog G 86 [.str s,dI n, .int .u8 kind, .str text] H (Au (.bool true) H):=by
 simp only[Fe1,jF,decide_eq_true_eq] at h;obtain⟨⟨h0,h1⟩,⟨⟨⟨h2,h3⟩,h4⟩,h5⟩,⟨⟨h6,h7⟩,h8⟩,h9⟩:=h;obtain⟨hl,C⟩:=Si h1;obtain⟨x,hx⟩: ∃x,Gf (Ar s).1=x:=⟨_,rfl⟩;rw[hx] at h2 h3 h4 h5 h6 h7 h8 h9;obtain⟨t,n',e⟩:=x;dsimp only at h2 h3 h4 h5 h6 h7 h8 h9;subst h2 h3;have D:Wg 1048576 t:=by
  cases hr:Ap5 (Ar s).1 0 with
  | ok y k=>
   rw[Gf,hr,Ie] at hx;split at hx
   ·cases hx;exact Ds4 C hl (Nat.zero_le _) t k hr
   ·cases hx
  | fail k=>rw[Gf,hr] at hx;cases hx
  | long=>rw[Gf,hr] at hx;cases hx
 refine Ab Tryz.func86 Tryz.call86 rfl (by kernel_rfl) ?_;simp(disch:=omega)only[go_sem];refine Af.monoR (Mq G H s h0) ?_;simp(disch:=omega)only[go_sem];refine Af.monoR (Br1 hG H hl C) ?_;rw[hx];simp(disch:=omega)only[go_sem,Hv,Cj];intro q hq;dsimp only at hq;simp(disch:=omega)only[go_sem,Cj,Nk,jH,jL];refine Af.monoR (Bc9 hG _ t 0 D) ?_;rw[Dt1,h5,if_pos rfl];simp(disch:=omega)only[go_sem];refine Af.monoR (Cu0 G _ (Lj t 0) (by omega) (fun y E=>by have:=of_decide_eq_true (List.all_eq_true.1 h7 y E);omega)) ?_;simp(disch:=omega)only[go_sem,Cj,Gi4,h4,h8,h9];exact Es.sub ((Sub.refl H).new hq _) (.refl ⟨rfl,rfl⟩)
theorem Af.nz2 {P:Program} {f:FuncId} {args:List DVal} {H:Ac} {R:DEnd->Ac->Prop} (h:Af P G f (args.map Dl.nz2) H R):Af P G f args H R:=
 Af.pre (fun w hw=>⟨hw,fun _ h=>h,fun x hx=>by
  simp only[Rel] at hx⊢
  obtain⟨xs,rfl,hx⟩:=hx;exact⟨xs,rfl,Ci9 w H _ _ hx⟩⟩) h
theorem Lt.part {H H':Ac} {e:TypeId} {size r n lo:Nat} {cs C cs':List DVal} (hr:H r=none) (D:H' r=some (.cells C e)) (E:C.take (n*size)=cs) (hl:cs.length=n*size) (hs:Kq H' cs H cs'):Lt H' (.oslice size r 0 n lo) H (.vslice cs' n):=fun w hw x hx=>by
 simp only[Rel] at hx⊢
 obtain⟨o,cap,rfl,h1,h2,h3,h4⟩:=hx;refine⟨_,cap,rfl,h2, ?_⟩;by_cases h0:cs= []
 ·subst h0;have:=hs w hw [] (by simp [Az]);cases cs' with
  | nil=>exact .inl rfl
  | cons c cs'=>simp [Az] at this
 ·obtain⟨I,J,hh⟩:=hw.holds D;have ho:o=0:=by
   rcases h3 with h3 | h3
   ·exfalso;have:n=0:=by omega
    subst this;rw[Nat.zero_mul] at hl;exact h0 (List.length_eq_zero_iff.1 hl)
   ·exact h3
  subst ho;have h5:=J.take (n*size);rw[E] at h5;exact .inr ⟨r,0,I.take (n*size),rfl, .inr ⟨hr,fun i y h=>by
   rw[List.getElem?_take] at h;split at h
   ·simpa using hh i y h
   ·cases h⟩,hs w hw _ h5⟩
def nm0 (s:List UInt8):Ex:= .mk 3 0 0 s [] [] 0 0 0
def nr0 (n:Int):Ex:= .mk 1 0 n [] [] [] 0 0 0
def tkI:List UInt8:= [73,110,116,101,103,101,114,32,114,97,110,103,101,32,49,32,46,46,32,49,48]
def tkD:List UInt8:= [84,32,114,97,110,103,101,32,49,32,46,46,32,78,41]
def tkE:List UInt8:= [84,32,40,49,41]
def tkP:List UInt8:= [65,32,58,32,105,110,32,111,117,116,32,84,59,32,66,44,32,67,32,58,32,84,32,58,61,32,49,41]
def tkQ:List UInt8:= [65,32,58,32,105,110,32,111,117,116,32,84]
def Fe2:Ind:=⟨nm0 [73,110,116,101,103,101,114],nr0 1,nr0 10,ex0⟩
def Fe3:Dis:=⟨nm0 [84],nr0 1,nm0 [78]⟩
def Cx2:List Par:= [⟨[[65]],3,nm0 [84],ex0,0⟩,⟨[[66],[67]],1,nm0 [84],nr0 1,0⟩]
def Vl:Par:=⟨[[65]],3,nm0 [84],ex0,0⟩
def Ei5:Ex:= .mk 5 0 0 [] [nm0 [80]] [] 0 0 0
theorem Br4 (s:List UInt8) (hs:s.length<=1000):Dn 1048576 (nm0 s):=⟨by simp [nm0,Fh,Ls,Fl],by simp only[nm0,okE,okL,Ph];exact⟨by omega,trivial,trivial⟩⟩
theorem Fe4 (n:Int):Dn 1048576 (nr0 n):=⟨by simp [nr0,Fh,Ls,Fl],by simp [nr0,okE,okL,Ph]⟩
theorem Ei6:Dn 1048576 Ei5:=⟨by simp [Ei5,nm0,Fh,Ls,Fl],by simp [Ei5,nm0,okE,okL,Ph]⟩
theorem Br5:Yi 1048576 Vl:=⟨⟨by decide,by simp [Vl]⟩,Br4 _ (by decide),Co⟩
theorem Cx3:Mr Yi 1048576 [Vl]:=⟨by decide,fun x hx=>by rw[List.mem_singleton.1 hx];exact Br5⟩
theorem Dl0:Mr Yi 1048576 Cx2:=⟨by decide,fun x hx=>by
 rcases List.mem_cons.1 hx with rfl | hx
 ·exact Br5
 ·rw[List.mem_singleton.1 hx];exact⟨⟨by decide,by simp⟩,Br4 _ (by decide),Fe4 1⟩⟩
theorem Dl1 {α:Type} {r:Re α} {fine:α->Bool} {z x:α} {n:Int} (h:Ie r fine z=(x,n,0)): ∃k,r= .ok x k:=by
 cases r with
 | ok y k=>
  rw[Ie] at h;split at h
  ·cases h;exact⟨k,rfl⟩
  ·cases h
 | fail k=>cases h
 | long=>cases h
set_option maxHeartbeats 8000000 in
theorem Cx4 (hG:GX G) (H:Ac):Af Tryz.prog G 19 [] H (Au (.bool true) H):=by
 have U:=fun K=>Va hG K [40,82,101,100,44,32,71,114,101,101,110,41,59] 5 1 [40,82,101,100,44,32,71,114,101,101,110,41,10] (by kernel_rfl);have V:=fun K=>Va hG K [108,105,109,105,116,101,100,32,112,114,105,118,97,116,101,59] 2 7 [108,105,109,105,116,101,100,32,112,114,105,118,97,116,101,10] (by kernel_rfl);have W:=fun K=>Va hG K [110,117,108,108,32,114,101,99,111,114,100] 2 5 [110,117,108,108,32,114,101,99,111,114,100,10] (by kernel_rfl);have X:=fun K=>Va hG K [114,101,99,111,114,100,32,65,32,58,32,84,59,32,99,97,115,101,32,68,32,105,115,32,119,104,101,110,32,49,32,61,62,32,110,117,108,108,59,32,101,110,100,32,99,97,115,101,59,32,101,110,100,32,114,101,99,111,114,100,59] 18 5 [114,101,99,111,114,100,10,32,32,65,32,58,32,84,59,10,32,32,99,97,115,101,32,68,32,105,115,10,32,32,32,32,119,104,101,110,32,49,32,61,62,10,32,32,32,32,32,32,110,117,108,108,59,10,32,32,101,110,100,32,99,97,115,101,59,10,101,110,100,32,114,101,99,111,114,100,10] (by kernel_rfl);have L:=Si (l:=(Ar tkI).1) (by kernel_rfl);have M:=Si (l:=(Ar tkD).1) (by kernel_rfl);have xE:=Si (l:=(Ar tkE).1) (by kernel_rfl);have O:=Si (l:=(Ar tkP).1) (by kernel_rfl);have Y:=fun K=>Mq G K tkI (by decide);have Z:=fun K=>Mq G K tkD (by decide);have tE:=fun K=>Mq G K tkE (by decide);have tP:=fun K=>Mq G K tkP (by decide);have S:=fun K=>Mq G K tkQ (by decide);have D:=fun K=>Cw8 hG K L.1 L.2;have E:=fun K=>Br0 hG K M.1 M.2;have I:=fun K=>Br0 hG K xE.1 xE.2;have J:=fun K=>Aq7 hG K O.1 O.2;have eI:Aa6 (Ar tkI).1=((Aa6 (Ar tkI).1).1,5,0):=by kernel_rfl
 have y:=fun K=>Ch1 G K (Aa6 (Ar tkI).1).1 Fe2 (by obtain⟨k,hk⟩:=Dl1 (r:=Wh _ 0) (fine:=Cr) (z:=Tz) eI;exact Ad9 L.2 L.1 (Nat.zero_le _) _ k hk);rw[show Xo (Aa6 (Ar tkI).1).1 Fe2=true by kernel_rfl] at y;rw[eI] at D;generalize (Aa6 (Ar tkI).1).1=i at D y;have eD:Tp (Ar tkD).1=((Tp (Ar tkD).1).1,5,0):=by kernel_rfl
 have C:=fun K=>Ch2 G K (Tp (Ar tkD).1).1 Fe3 (by obtain⟨k,hk⟩:=Dl1 (r:=Bc8 _ 0) (fine:=Ib) (z:=Ua) eD;exact Ci2 M.2 M.1 _ k hk);rw[show Ad7 (Tp (Ar tkD).1).1 Fe3=true by kernel_rfl] at C;rw[eD] at E;generalize (Tp (Ar tkD).1).1=d at E C;have eE:Tp (Ar tkE).1=((Tp (Ar tkE).1).1,4,40):=by kernel_rfl
 rw[eE] at I;generalize (Tp (Ar tkE).1).1=d2 at I;have eP:Mo (Ar tkP).1=((Mo (Ar tkP).1).1,13,0):=by kernel_rfl
 have sP:=fun K=>Bd0 G K (Mo (Ar tkP).1).1 Cx2 (by obtain⟨k,hk⟩:=Dl1 (r:=Bp5 _ 0) (fine:=Ii) (z:= []) eP;exact Cw0 O.2 O.1 (Nat.zero_le _) _ k hk) Dl0;rw[show Cu1 Sc (Mo (Ar tkP).1).1 Cx2=true by kernel_rfl] at sP;rw[eP] at J;generalize (Mo (Ar tkP).1).1=pp at J sP;have wT:=fun K=>Ar1 hG K [Vl] Cx3;have sQ:=fun K=>De7 G K (Br3 [Vl]).1 (Ar tkQ).1 (by decide+kernel);rw[show Yc (Br3 [Vl]).1 (Ar tkQ).1=true by kernel_rfl] at sQ;rw[show(Br3 [Vl]).2=0 by kernel_rfl] at wT;generalize (Br3 [Vl]).1=mq at sQ wT;have m1:=fun K=>Mn hG K (nm0 [80]) (Br4 _ (by decide));rw[show Hu (nm0 [80])=true by kernel_rfl] at m1;have m2:=fun K=>Mn hG K Ei5 Ei6;rw[show Hu Ei5=false by kernel_rfl] at m2;have m3:=fun K=>Tn hG K [] Fs;rw[show Ii []=true from rfl] at m3;rw[show Df Fe2=dEx (.mk 3 0 0 [73,110,116,101,103,101,114] [] [] 0 0 0)++(dEx (.mk 1 0 1 [] [] [] 0 0 0)++(dEx (.mk 1 0 10 [] [] [] 0 0 0)++dEx ex0)) from rfl,Pp] at y;rw[show Dz Fe3=dEx (.mk 3 0 0 [84] [] [] 0 0 0)++(dEx (.mk 1 0 1 [] [] [] 0 0 0)++dEx (.mk 3 0 0 [78] [] [] 0 0 0)) from rfl] at C;simp only[Hv,tkI,tkD,tkE,tkP,tkQ] at*
 refine Ab Tryz.func19 Tryz.call19 rfl (by kernel_rfl) ?_
 repeat' first
  | (with_reducible refine Af.monoR (U _) ?_)
  | (with_reducible refine Af.monoR (V _) ?_)
  | (with_reducible refine Af.monoR (W _) ?_)
  | (with_reducible refine Af.monoR (X _) ?_)
  | (with_reducible refine Af.monoR (Y _) ?_)
  | (with_reducible refine Af.monoR (Z _) ?_)
  | (with_reducible refine Af.monoR (tE _) ?_)
  | (with_reducible refine Af.monoR (tP _) ?_)
  | (with_reducible refine Af.monoR (S _) ?_)
  | (with_reducible refine Af.monoR (D _) ?_)
  | (with_reducible refine Af.monoR (E _) ?_)
  | (with_reducible refine Af.monoR (I _) ?_)
  | (with_reducible refine Af.monoR (J _) ?_)
  | (with_reducible refine Af.monoR (Nw G _ _) ?_)
  | (with_reducible refine Af.monoR (Sh G _ _) ?_)
  | ((with_reducible show Af _ _ 37 _ _ _);refine Af.nz2 ?_;simp only[jN,jP,nz2,List.map_append,Km,Lg,nz];refine Af.monoR (y _) ?_)
  | ((with_reducible show Af _ _ 33 _ _ _);refine Af.nz2 ?_;simp only[jN,jP,nz2,List.map_append,Kn,Lg,nz];refine Af.monoR (C _) ?_)
  | with_reducible refine And.intro ?_ ?_
  | ((with_reducible show Ff _ _ _ _ _);intro q hq;dsimp only at hq;(try simp only[Av] at hq);(repeat (have h:=hq.1;have hq:=hq.2)))
  | simp(disch:=omega)only[go_sem, *,On,Oo,dE,Cn,List.take_append,List.drop_append,Ij,Iv,Gb,Gr,Gc,Gs,jC,Ad,Al,Aw,Bo,Ec,Ed,List.all_append,List.all_cons,List.all_nil,jO,jH,jG,jA,jB,jE,jM,jJ,jR,jL,List.take_nil,jI]
 refine Aj (by kernel_rfl) (.take 0 (.take 1 (.take 2 (.take 3 (.take 4 (.take 5 (.take 6 (.take 7 (.go 8 [7] (.go 9 [7] (.go 10 [7] (.take 11 (.go 12 [] (.take 13 (.take 14 .done))))))))))))))) (by kernel_rfl) ?_
 repeat' first
  | (with_reducible refine Af.monoR (U _) ?_)
  | (with_reducible refine Af.monoR (V _) ?_)
  | (with_reducible refine Af.monoR (W _) ?_)
  | (with_reducible refine Af.monoR (X _) ?_)
  | (with_reducible refine Af.monoR (Y _) ?_)
  | (with_reducible refine Af.monoR (Z _) ?_)
  | (with_reducible refine Af.monoR (tE _) ?_)
  | (with_reducible refine Af.monoR (tP _) ?_)
  | (with_reducible refine Af.monoR (S _) ?_)
  | (with_reducible refine Af.monoR (D _) ?_)
  | (with_reducible refine Af.monoR (E _) ?_)
  | (with_reducible refine Af.monoR (I _) ?_)
  | (with_reducible refine Af.monoR (J _) ?_)
  | (with_reducible refine Af.monoR (Nw G _ _) ?_)
  | (with_reducible refine Af.monoR (Sh G _ _) ?_)
  | ((with_reducible show Af _ _ 37 _ _ _);refine Af.nz2 ?_;simp only[jN,jP,nz2,List.map_append,Km,Lg,nz];refine Af.monoR (y _) ?_)
  | ((with_reducible show Af _ _ 33 _ _ _);refine Af.nz2 ?_;simp only[jN,jP,nz2,List.map_append,Kn,Lg,nz];refine Af.monoR (C _) ?_)
  | with_reducible refine And.intro ?_ ?_
  | ((with_reducible show Ff _ _ _ _ _);intro q hq;dsimp only at hq;(try simp only[Av] at hq);(repeat (have h:=hq.1;have hq:=hq.2)))
  | simp(disch:=omega)only[go_sem, *,On,Oo,dE,Cn,List.take_append,List.drop_append,Ij,Iv,Gb,Gr,Gc,Gs,jC,Ad,Al,Aw,Bo,Ec,Ed,List.all_append,List.all_cons,List.all_nil,jO,jH,jG,jA,jB,jE,jM,jJ,jR,jL,List.take_nil,jI]
 refine Aj (by kernel_rfl) (.take 0 (.take 1 (.take 2 (.take 3 (.take 4 (.take 5 (.take 6 (.take 7 (.take 8 (.take 9 (.take 10 (.go 11 [10] (.go 12 [10] (.go 13 [10] (.take 14 (.go 15 [] (.take 16 (.take 17 .done)))))))))))))))))) (by kernel_rfl) ?_
 repeat' first
  | (with_reducible refine Af.monoR (U _) ?_)
  | (with_reducible refine Af.monoR (V _) ?_)
  | (with_reducible refine Af.monoR (W _) ?_)
  | (with_reducible refine Af.monoR (X _) ?_)
  | (with_reducible refine Af.monoR (Y _) ?_)
  | (with_reducible refine Af.monoR (Z _) ?_)
  | (with_reducible refine Af.monoR (tE _) ?_)
  | (with_reducible refine Af.monoR (tP _) ?_)
  | (with_reducible refine Af.monoR (S _) ?_)
  | (with_reducible refine Af.monoR (D _) ?_)
  | (with_reducible refine Af.monoR (E _) ?_)
  | (with_reducible refine Af.monoR (I _) ?_)
  | (with_reducible refine Af.monoR (J _) ?_)
  | (with_reducible refine Af.monoR (Nw G _ _) ?_)
  | (with_reducible refine Af.monoR (Sh G _ _) ?_)
  | ((with_reducible show Af _ _ 37 _ _ _);refine Af.nz2 ?_;simp only[jN,jP,nz2,List.map_append,Km,Lg,nz];refine Af.monoR (y _) ?_)
  | ((with_reducible show Af _ _ 33 _ _ _);refine Af.nz2 ?_;simp only[jN,jP,nz2,List.map_append,Kn,Lg,nz];refine Af.monoR (C _) ?_)
  | with_reducible refine And.intro ?_ ?_
  | ((with_reducible show Ff _ _ _ _ _);intro q hq;dsimp only at hq;(try simp only[Av] at hq);(repeat (have h:=hq.1;have hq:=hq.2)))
  | simp(disch:=omega)only[go_sem, *,On,Oo,dE,Cn,List.take_append,List.drop_append,Ij,Iv,Gb,Gr,Gc,Gs,jC,Ad,Al,Aw,Bo,Ec,Ed,List.all_append,List.all_cons,List.all_nil,jO,jH,jG,jA,jB,jE,jM,jJ,jR,jL,List.take_nil,jI]
 intro r6 hq;dsimp only at hq;have al:=hq
 (try simp only[Av] at hq)
 (repeat (have h:=hq.1;have hq:=hq.2));have aa:=hq;simp(disch:=omega)only[go_sem,Cn,List.take_append,List.drop_append,Ij,Iv,Gb,Gr,Gc,Gs,jC,Ad,Al,Aw,Bo,Ec,Ed,List.all_append,List.all_cons,List.all_nil,jO,jH,jG,jA,jB,jE,jM,jJ,jR,jL,List.take_nil,jI];refine Af.monoR (Nw G _ _) ?_;simp(disch:=omega)only[go_sem,Cn,List.take_append,List.drop_append,Ij,Iv,Gb,Gr,Gc,Gs,jC,Ad,Al,Aw,Bo,Ec,Ed,List.all_append,List.all_cons,List.all_nil,jO,jH,jG,jA,jB,jE,jM,jJ,jR,jL,List.take_nil,jI,dE];intro r7 hq;dsimp only at hq;have ab:=hq
 (try simp only[Av] at hq)
 (repeat (have h:=hq.1;have hq:=hq.2));have ag:=hq;simp(disch:=omega)only[go_sem,Cn,List.take_append,List.drop_append,Ij,Iv,Gb,Gr,Gc,Gs,jC,Ad,Al,Aw,Bo,Ec,Ed,List.all_append,List.all_cons,List.all_nil,jO,jH,jG,jA,jB,jE,jM,jJ,jR,jL,List.take_nil,jI];refine Af.monoR (Nw G _ _) ?_;simp(disch:=omega)only[go_sem,Cn,List.take_append,List.drop_append,Ij,Iv,Gb,Gr,Gc,Gs,jC,Ad,Al,Aw,Bo,Ec,Ed,List.all_append,List.all_cons,List.all_nil,jO,jH,jG,jA,jB,jE,jM,jJ,jR,jL,List.take_nil,jI,dE];refine Af.monoR (Sh G _ _) ?_;simp(disch:=omega)only[go_sem,Cn,List.take_append,List.drop_append,Ij,Iv,Gb,Gr,Gc,Gs,jC,Ad,Al,Aw,Bo,Ec,Ed,List.all_append,List.all_cons,List.all_nil,jO,jH,jG,jA,jB,jE,jM,jJ,jR,jL,List.take_nil,jI,dE];intro r8 hq;dsimp only at hq;have ac:=hq
 (try simp only[Av] at hq)
 (repeat (have h:=hq.1;have hq:=hq.2));have ad:=hq;simp(disch:=omega)only[go_sem,Cn,List.take_append,List.drop_append,Ij,Iv,Gb,Gr,Gc,Gs,jC,Ad,Al,Aw,Bo,Ec,Ed,List.all_append,List.all_cons,List.all_nil,jO,jH,jG,jA,jB,jE,jM,jJ,jR,jL,List.take_nil,jI,dE];have ah:r7≠r8:=Ae ac (Aa _ _ _);have ae:r6≠r8:=Ae ac (Ag (Aa _ _ _) (Ae ab (Aa _ _ _)));have af:r6≠r7:=Ae ab (Aa _ _ _);refine Af.monoR (Kq.lent (args':= [Hr pp,Hr Cx2]) (H:=H) (.cons (Lt.keep (by repeat (first | exact Sub.refl _ | refine Sub.up ?_ (by assumption) _)) _) (.cons ?_ .nil)) (sP h0) rfl) ?_
 ·refine Lt.cells (e:=136) (by repeat (first | exact Sub.refl _ | refine Sub.up ?_ (by assumption) _)) ad (Aa _ _ _) (by simp [Ad,Cc]) ?_;rw[show Cx2.flatMap Gj=dW [[65]]:: .int .u8 3::(dEx (.mk 3 0 0 [84] [] [] 0 0 0)++(dEx ex0++(dI 0::dW [[66],[67]]:: .int .u8 1::(dEx (.mk 3 0 0 [84] [] [] 0 0 0)++(dEx (.mk 1 0 1 [] [] [] 0 0 0)++ [dI 0]))))) by simp [Cx2,Gj,nm0,nr0],Pp];refine Kq.cons (Lt.block (e:=9) (by repeat (first | exact Sub.refl _ | refine Sub.up ?_ (by assumption) _)) aa (Ag (Ag (Aa _ _ _) af) ae) rfl) ?_
  repeat' first
   | exact Kq.nil
   | refine Kq.cons (Lt.keep (by repeat (first | exact Sub.refl _ | refine Sub.up ?_ (by assumption) _)) _) ?_
   | refine Kq.cons (Lt.nil (by repeat (first | exact Sub.refl _ | refine Sub.up ?_ (by assumption) _))) ?_
   | refine Kq.append (Kq.keep (by repeat (first | exact Sub.refl _ | refine Sub.up ?_ (by assumption) _)) _) ?_
   | refine Kq.cons (Lt.block (e:=9) (by repeat (first | exact Sub.refl _ | refine Sub.up ?_ (by assumption) _)) ag (Ag (Aa _ _ _) ah) rfl) ?_
   | fail
 simp(disch:=omega)only[go_sem,Cn,List.take_append,List.drop_append,Ij,Iv,Gb,Gr,Gc,Gs,jC,Ad,Al,Aw,Bo,Ec,Ed,List.all_append,List.all_cons,List.all_nil,jO,jH,jG,jA,jB,jE,jM,jJ,jR,jL,List.take_nil,jI,dE];refine Kq.call (by repeat (first | exact Sub.refl _ | refine Sub.up ?_ (by assumption) _)) (.cons (Lt.part (e:=136) (cs:= .oslice 1 r6 0 1 1:: .int .u8 3::(dEx (.mk 3 0 0 [84] [] [] 0 0 0)++ [.int .u8 0, .int .u8 0, .int .i64 0, .str [], .nilSlice, .nilSlice, .int .i64 0, .int .i64 0, .int .i64 0, .int .i64 0])) ad (Aa _ _ _) (by simp [List.take_append,Ad,Ij]) (by simp [Ad]) ?_) .nil) (Af.monoR (wT H) ?_)
 ·rw[show [Vl].flatMap Gj=dW [[65]]:: .int .u8 3::(dEx (.mk 3 0 0 [84] [] [] 0 0 0)++(dEx ex0++ [dI 0])) by simp [Vl,Gj,nm0],Pp];refine Kq.cons (Lt.block (e:=9) (by repeat (first | exact Sub.refl _ | refine Sub.up ?_ (by assumption) _)) aa (Ag (Ag (Aa _ _ _) af) ae) rfl) ?_
  repeat' first
   | exact Kq.nil
   | refine Kq.cons (Lt.keep (by repeat (first | exact Sub.refl _ | refine Sub.up ?_ (by assumption) _)) _) ?_
   | refine Kq.cons (Lt.nil (by repeat (first | exact Sub.refl _ | refine Sub.up ?_ (by assumption) _))) ?_
   | refine Kq.append (Kq.keep (by repeat (first | exact Sub.refl _ | refine Sub.up ?_ (by assumption) _)) _) ?_
   | fail
 simp(disch:=omega)only[go_sem,Cn,List.take_append,List.drop_append,Ij,Iv,Gb,Gr,Gc,Gs,jC,Ad,Al,Aw,Bo,Ec,Ed,List.all_append,List.all_cons,List.all_nil,jO,jH,jG,jA,jB,jE,jM,jJ,jR,jL,List.take_nil,jI,dE];refine Af.monoR (Nw G _ _) ?_;simp(disch:=omega)only[go_sem,Cn,List.take_append,List.drop_append,Ij,Iv,Gb,Gr,Gc,Gs,jC,Ad,Al,Aw,Bo,Ec,Ed,List.all_append,List.all_cons,List.all_nil,jO,jH,jG,jA,jB,jE,jM,jJ,jR,jL,List.take_nil,jI,dE];intro r9 hq;dsimp only at hq;have am:=hq
 (try simp only[Av] at hq)
 (repeat (have h:=hq.1;have hq:=hq.2));have ai:=hq;simp(disch:=omega)only[go_sem,Cn,List.take_append,List.drop_append,Ij,Iv,Gb,Gr,Gc,Gs,jC,Ad,Al,Aw,Bo,Ec,Ed,List.all_append,List.all_cons,List.all_nil,jO,jH,jG,jA,jB,jE,jM,jJ,jR,jL,List.take_nil,jI,dE];intro ra hq;dsimp only at hq;have aj:=hq
 (try simp only[Av] at hq)
 (repeat (have h:=hq.1;have hq:=hq.2));have ao:=hq;have ak:r9≠ra:=Ae aj (Aa _ _ _)
 repeat' first
  | (with_reducible refine Af.monoR (S _) ?_)
  | (with_reducible refine Af.monoR (sQ _) ?_)
  | (with_reducible refine Af.monoR (Nw G _ _) ?_)
  | ((with_reducible show Af _ _ 89 [.agg (dEx _)] _ _);refine Af.monoR (m1 _) ?_)
  | ((with_reducible show Af _ _ 28 _ _ _);refine Af.nz2 ?_;refine Af.monoR (m3 _) ?_)
  | ((with_reducible show Af _ _ 89 [.agg (_::_)] _ _);refine Af.monoR (Kq.lent (args':= [.agg (dEx Ei5)]) (H:=H) (.cons (Lt.agg (Lt.ex (l:= [nm0 [80]]) (a:= []) (by repeat (first | exact Sub.refl _ | refine Sub.up ?_ (by assumption) _)) (by rw[show dXs [nm0 [80]]= .vslice (dEx (nm0 [80])) 1 by rw[dXs,List.flatMap_singleton];rfl];exact Lt.block (e:=27) (by repeat (first | exact Sub.refl _ | refine Sub.up ?_ (by assumption) _)) ai (Ag (Aa _ _ _) ak) (by rw[Ad])) (Lt.as0 (by repeat (first | exact Sub.refl _ | refine Sub.up ?_ (by assumption) _))))) .nil) (m2 h0) rfl) ?_)
  | simp(disch:=omega)only[go_sem, *,Cn,List.take_append,List.drop_append,Ij,Iv,Gb,Gr,Gc,Gs,jC,Ad,Al,Aw,Bo,Ec,Ed,List.all_append,List.all_cons,List.all_nil,jO,jH,jG,jA,jB,jE,jM,jJ,jR,jL,List.take_nil,jI,dE,nm0]
  | ((with_reducible show Es _ _ _);exact Es.sub (by repeat (first | exact Sub.refl _ | refine Sub.up ?_ (by assumption) _)) (.refl ⟨rfl,rfl⟩))
  | fail
end
end Go.Dl
-- Chapter 4: FormLimits: the plain law: ho
namespace Go.Dl
open Go
set_option maxRecDepth 100000
def Cj1:Tok:=⟨3,0,[],1⟩
def Fe5:Tok:=⟨3,0,[],2⟩
theorem Ei7:Gw Cj1= [49]:=by simp [Gw,Cj1,Fe5,Lib.itoa,Lib.decDigits_one]
theorem Ei8:Gw Fe5= [50]:=by simp [Gw,Cj1,Fe5,Lib.itoa,Lib.decDigits_one]
def txt (t:Tok):List UInt8:=if t=Cj1 then [49] else if t=Fe5 then [50] else Gw t
theorem Dl2 (t:Tok):txt t=Gw t:=by
 unfold txt;split
 ·rename_i h;rw[h,Ei7]
 ·split
  ·rename_i h;rw[h,Ei8]
  ·rfl
def Xw:List (Tok×Bool)->List UInt8
 | []=> []
 | p::l=>txt p.1++((if p.2 then [32] else [])++Xw l)
def Fe6 (t:Tok):List UInt8->Bool
 | []=>true
 | c::_=>if t.kind=4 then t.text.all fun a=>!decide ((a,c)∈Rr) else !Ea c
def Tt:List (Tok×Bool)->Bool
 | []=>true
 | p::l=>Vc p.1&&(txt p.1).all (fun c=>decide (c≠45))&&Fe6 p.1 ((if p.2 then [32] else [])++Xw l)&&Tt l
theorem Ft6 {t:Tok} {r:List UInt8} (h:Fe6 t r=true):At6 t r:=by
 cases r with
 | nil=>exact .inl rfl
 | cons c r=>
  refine .inr ⟨c,r,rfl, ?_⟩;rw[Fe6] at h;by_cases k:t.kind=4
  ·rw[if_pos k] at h⊢
   intro a ha;rw[ha] at h;simpa using h
  ·rw[if_neg k] at h⊢
   simpa using h
def Rf (l:List Tok):Bool:=decide (l.length<=400)&&l.all fun t=>decide (t.text.length<=1000)
theorem Sj (l:List Tok):Rf (l.map stT)=Rf l:=by
 rw[Rf,Rf,jK,List.all_map];rfl
theorem Dl3 {t:Tok} {r:List UInt8} (y:Vc t=true) (C:(Gw t).all (fun c=>decide (c≠45))=true) (hr:At6 t r):Gv (Gw t++r)=(Do8 t,true)::Gv r:=by
 have hf:=Dd6 y hr;obtain⟨D,h1,_⟩:=Ac7 y;cases e:Gw t with
 | nil=>rw[e] at h1;simp at h1
 | cons c w=>
  rw[e] at hf D C;have E:c≠32:=fun h=>by have:=(D c (by simp)).1;rw[h] at this;exact absurd this (by decide)
  have I:c≠45:=by simpa using (List.all_eq_true.1 C) c (by simp)
  rw[jI,Az1 E (Et8 _ I),<-jI,hf,if_neg (by simp)];simp
theorem Ei9 (r:List UInt8):Gv (32::r)=Gv r:=by
 have e:Fv (32::r)=Fv r:=rfl;rw[Nr,e,<-Nr]
theorem Br6: ∀l:List (Tok×Bool),Tt l=true->Gv (Xw l)=l.map fun p=>(Do8 p.1,true)
 | [],_=>rfl
 | p::l,h=>by
  simp only[Tt,jF] at h;obtain⟨⟨⟨h1,h2⟩,h3⟩,h4⟩:=h;rw[Dl2] at h2;rw[Xw,Dl2,Dl3 h1 h2 (Ft6 h3),jN,<-Br6 l h4];cases p.2
  ·rfl
  ·rw[show(if true=true then [32] else [])++Xw l=32::Xw l from rfl,Ei9]
theorem Fe7: ∀l:List (Tok×Bool),Tt l=true->(10:UInt8)∉Xw l
 | [],_=>by simp [Xw]
 | p::l,h=>by
  simp only[Tt,jF] at h;obtain⟨⟨⟨h1,h2⟩,h3⟩,h4⟩:=h;have:=Fe7 l h4;rw[Xw,Dl2];simp only[List.mem_append,not_or];refine⟨fun hm=>absurd ((Ac7 h1).1 _ hm).1 (by decide), ?_,this⟩;cases p.2<;>simp
theorem Gd {l:List (Tok×Bool)} {s:List UInt8} {ts:List Tok} (h:Xw l=s/\s.length<=8000/\Tt l=true/\(l.map fun p=>stT p.1)=ts):(Ar s).1.map stT=ts:=by
 obtain⟨h1,h0,h2,h3⟩:=h;have:=Cp1 (l:=l.map fun p=>Do8 p.1) (Fe7 l h2) (by rw[h1];exact h0) (by rw[Br6 l h2,List.map_map];rfl);rw[<-h1,this,<-h3];simp only[List.map_map];rfl
section
variable {l:List Tok} {k:Nat}
theorem Br7 {p:Par} (h1:p.names≠ []) (h2:Hu p.type=true) (h3:Ge p.e=true) (M:1<=p.mode) (O:p.mode<=3) (h:Pre l k (Jp p)) (C:nof wF (tk l (k+(Jp p).length))):Gvs stP (Ai4 l k) (stP p) (k+(Jp p).length):=by
 have D:Jp p=Cp p.names++(Ah Fk::(Iu p.mode++(Am p.type++Jx p.e))):=rfl;have E:k+(Jp p).length=k+(Cp p.names).length+1+(Iu p.mode).length+(Am p.type).length+(Jx p.e).length:=by rw[D];simp only[jC,jA];omega
 rw[E] at C⊢
 rw[D] at h;have ha:=h.right;have hb:=ha.tail.right;have hc:=hb.right;rw[Ai4];refine(Rb p.names h1 h.left (ha.not (by decide+kernel))).then fun n I=> ?_
 subst I;rw[Ek ha];obtain⟨s,ts,hts⟩:=Dr7 h2;have hbb:Pre l (k+(Cp p.names).length+1+(Iu p.mode).length) (Ci s::ts):=by have:=hb.left;rw[hts] at this;exact this
 have J:Uw l (k+(Cp p.names).length+1)=(p.mode,k+(Cp p.names).length+1+(Iu p.mode).length):=by
  have hi:=hbb.not (s:=wIn) (Pb (.inl rfl));have ho:=hbb.not (s:=Tl) (Pb (.inl rfl));have y:=ha.tail.left;have L:p.mode=1\/p.mode=2\/p.mode=3:=by omega
  rcases L with c | c | c
  ·have:Iu p.mode= []:=by rw[c];rfl
   rw[this,jB,Nat.add_zero] at hi ho;rw[Uw,hi,ho,this,c];rfl
  ·have:Iu p.mode= [Ah Tl]:=by rw[c];rfl
   rw[this] at y;rw[Uw,y.not (s:=wIn) (by decide+kernel),y.word,this,c];rfl
  ·have:Iu p.mode= [Ah wIn,Ah Tl]:=by rw[c];rfl
   rw[this] at y;rw[Uw,y.word,y.tail.word,this,c];rfl
 rw[J];dsimp only;refine(Tq h2 hb.left ?_).then fun t ht=> ?_
 ·cases c:noE p.e with
  | true=>
   have:Jx p.e= []:=by rw[Jx,c];rfl
   rw[this,jB,Nat.add_zero] at C;exact Ai5 C (by decide+kernel)
  | false=>
   have:Jx p.e=Ah Kl::Am p.e:=by rw[Jx,c];rfl
   rw[this] at hc;exact hc.not (by decide+kernel)
 ·refine(Ux h3 hc C).then fun e he=> ?_
  exact .mk _ _ (by rw[stP,stP,ht,he])
theorem Dl4 {c:Cmp} (h1:c.names≠ []) (h2:Cr c.sub=true) (h3:Ge c.e=true) (h:Pre l k (Pj c)):Gvs Mp (Ax4 l k) (Mp c) (k+(Pj c).length):=by
 have y:Pj c=Cp c.names++(Ah Fk::(Mm c.sub++(Jx c.e++ [Ah Dg]))):=rfl;have C:k+(Pj c).length=k+(Cp c.names).length+1+(Mm c.sub).length+(Jx c.e).length+1:=by rw[y];simp only[jC,jA,jB];omega
 rw[C];rw[y] at h;have ha:=h.right;have hb:=ha.tail.right;have hc:=hb.right;rw[Ax4];refine(Rb c.names h1 h.left (ha.not (by decide+kernel))).then fun n D=> ?_
 subst D;rw[Ek ha];refine(Bz5 h2 ha.tail.left ?_).then fun s hs=> ?_
 ·cases cc:noE c.e with
  | true=>
   have:Jx c.e= []:=by rw[Jx,cc];rfl
   rw[this] at hb;exact hb.nof (t:=Ah Dg) (by decide+kernel)
  | false=>
   have:Jx c.e=Ah Kl::Am c.e:=by rw[Jx,cc];rfl
   rw[this] at hb;exact hb.nof (t:=Ah Kl) (by decide+kernel)
 ·refine(Ux h3 hb.left (hc.nof (by decide+kernel))).then fun e he=> ?_
  rw[Ek hc];exact .mk _ _ (by rw[Mp,Mp,hs,he])
theorem Aj5 {t:Typ} (h1:t.comps.all Hd=true) (h2:(t.var= [])↔(t.arms.length=0)) (X:t.arms.all Kd=true) (hk:t.kind=5) (J:Yh t=true) (hb:Aa3 t=true) (hi:Aa2 t.sub=true) (C:Yg t.disc=true) (hl:t.limited=false) (h:Pre l k (Bq3 t)):Gvs Ap9 (Bu4 l (k+1)) (Ap9 t) (k+(Bq3 t).length):=by
 have hz: ∀y,noE y=true->stE y=stE ex0:=fun y c=>Gp4.1 c;have L:Bq3 t=Ah Cw::((if t.comps.isEmpty then [] else Je t.comps)++(Aa9 t.var t.arms++ [Ah Ml,Ah Cw])):=rfl;have Y:k+(Bq3 t).length=k+1+(if t.comps.isEmpty then [] else Je t.comps).length+(Aa9 t.var t.arms).length+1+1:=by rw[L];simp only[jC,jA,jB];omega
 rw[Y];rw[L] at h;have ha:=h.tail.right;have D:=ha.right;have hst:Ap9 t=⟨5,[],ex0,ex0,Tz,Ua,t.comps.map Mp,t.var,t.arms.map Xs,false⟩:=by
  simp only[Aa2,Yg,Aa3,Yh,jF,decide_eq_true_eq,List.length_eq_zero_iff] at hi C hb J;rw[Ap9,stI,stD,hk,J,hl,hz _ hb.1,hz _ hb.2,hz _ hi.1.1.1,hz _ hi.1.1.2,hz _ hi.1.2,hz _ hi.2,hz _ C.1.1,hz _ C.1.2,hz _ C.2];rfl
 have ab:tk l (k+1+(if t.comps.isEmpty then [] else Je t.comps).length)=tk l (k+1+(if t.comps.isEmpty then [] else Je t.comps).length):=rfl;have Z: ∀ts,Pre l (k+1+(if t.comps.isEmpty then [] else Je t.comps).length) ts->ts=Aa9 t.var t.arms++ [Ah Ml,Ah Cw]->(tk l (k+1+(if t.comps.isEmpty then [] else Je t.comps).length)).kind≠1/\isW l (k+1+(if t.comps.isEmpty then [] else Je t.comps).length) [Ez]=false:=fun ts hp e=>by
  subst e;by_cases c:t.var= []
  ·rw[Aa9,if_pos c] at hp;have M:Pre l _ (Ah Ml:: [Ah Cw]):=hp;exact⟨by rw[M.kind];decide+kernel,M.not (by decide+kernel)⟩
  ·rw[Aa9,if_neg c] at hp;exact⟨by rw[hp.kind];decide+kernel,hp.not (by decide+kernel)⟩
 obtain⟨k1,E⟩:=Z _ ha rfl;rw[Bu4];have g1:Gvs (List.map Mp) (if(tk l (k+1)).kind=1\/isW l (k+1) [Ez]=true then Qz l (k+1) else .ok [] (k+1)) (t.comps.map Mp) (k+1+(if t.comps.isEmpty then [] else Je t.comps).length):=by
  have hc:=h.tail.left;cases hcs:t.comps with
  | nil=>
   rw[hcs] at k1 E;change (tk l (k+1)).kind≠1 at k1;change isW l (k+1) [Ez]=false at E;rw[if_neg (by rw[E];simp [k1])];exact .mk _ _ rfl
  | cons c r=>
   rw[hcs] at h1 k1;have O:Pre l (k+1) (Je (c::r)):=by rw[hcs] at hc;exact hc
   have S:Pre l (k+1) (Pj c):=by
    have:Pre l (k+1) (Pj c++r.flatMap Pj):=O;exact this.left
   obtain⟨s,ts,e2⟩:=Ch8 (List.all_eq_true.1 h1 c (by simp));rw[e2] at S;rw[if_pos (.inl S.kind)];exact Ai8 h1 O k1
 refine g1.then fun m aa=> ?_
 have g2:Gvs (fun x:List UInt8×List Arm=>(x.1,x.2.map Xs)) (if isW l (k+1+(if t.comps.isEmpty then [] else Je t.comps).length) [It] then(Ol l (k+1+(if t.comps.isEmpty then [] else Je t.comps).length+1)).then fun v i=>Dx l wIs i fun i=>(Bp7 l i).then fun a i=>Dx l Ml i fun i=>Dx l It i fun i=>Dx l Dg i fun i=> .ok (v,a) i else .ok ([],[]) (k+1+(if t.comps.isEmpty then [] else Je t.comps).length))
   (t.var,t.arms.map Xs) (k+1+(if t.comps.isEmpty then [] else Je t.comps).length+(Aa9 t.var t.arms).length):=by
  obtain⟨q,hq⟩: ∃q,q=k+1+(if t.comps.isEmpty then [] else Je t.comps).length:=⟨_,rfl⟩;rw[<-hq] at ha D⊢
  by_cases c:t.var= []
  ·have I:t.arms= []:=List.length_eq_zero_iff.1 (h2.1 c);have hp:Pre l q [Ah Ml,Ah Cw]:=by rw[Aa9,if_pos c] at ha;exact ha
   rw[hp.not (by decide+kernel),if_neg (by simp),c,I,Aa9,if_pos rfl];exact .mk _ _ rfl
  ·have I:t.arms≠ []:=fun e=>c (h2.2 (by rw[e];rfl));have e1:Aa9 t.var t.arms=Ah It::Ci t.var::Ah wIs::(t.arms.flatMap Ai6++ [Ah Ml,Ah It,Ah Dg]):=by rw[Aa9,if_neg c]
   have hp:=ha.left;rw[e1] at hp⊢
   have hr:=hp.tail.tail.tail.right;rw[if_pos hp.word,Aa8 hp.tail,show q+(Ah It::Ci t.var::Ah wIs::(t.arms.flatMap Ai6++ [Ah Ml,Ah It,Ah Dg])).length=q+1+1+1+(t.arms.flatMap Ai6).length+1+1+1 by simp only[jC,jA,jB];omega];dsimp only[Re.then];rw[Ek hp.tail.tail];refine(Dj4 I X hp.tail.tail.tail.left (by rw[hr.kind];decide+kernel) (hr.not (by decide+kernel))).then fun a hA=> ?_
   rw[Ek hr,Ek hr.tail,Ek hr.tail.tail];exact .mk _ _ (by rw[hA])
 refine g2.then fun va U=> ?_
 rw[Ek D,Ek D.tail];have V:=congrArg Prod.fst U;have W:=congrArg Prod.snd U;dsimp only at V W;refine .mk _ _ ?_;rw[hst,Ap9,V,W,aa];rfl
end
def Ft7:Ex:= .mk 3 0 0 [84] [] [] 0 0 0
def Ft8:Ex:= .mk 1 0 1 [] [] [] 0 0 0
def nms (n:Nat):List (List UInt8):=List.replicate n [120]
def Br8 (n:Nat):Par:=⟨nms n,1,Ft7,ex0,0⟩
def Ej0:Asp:=⟨[120],Ft8⟩
def Uc (n:Nat):Cmp:=⟨nms n,⟨Ft7,ex0,ex0,ex0⟩,ex0,0⟩
def rep {α:Type} (n:Nat) (l:List α):List α:=(List.replicate n l).flatten
def Ca1 (n:Nat):Typ:= { El with kind:=1,names:=nms n }
def Dl5 (n:Nat):Typ:= { El with kind:=5,comps:=List.replicate n (Uc 1) }
def Dl6 (n:Nat):Typ:= { El with kind:=5,var:= [120],arms:=List.replicate n ⟨[.mk 1 [Ft8]],[]⟩ }
def Cx5 (n:Nat):Typ:= { El with kind:=5,var:= [120],arms:= [⟨[.mk 1 [Ft8]],List.replicate n (Uc 1)⟩,⟨[.mk 1 [.mk 1 0 2 [] [] [] 0 0 0]],[]⟩] }
def tx1 (n:Nat):List UInt8:=([40]++(Lib.repeatL [120,44,32] (n-1)++ [120]))++ [41]
def it1 (n:Nat):List (Tok×Bool):= [(Ah Bi,false)]++rep (n-1) [(Ci [120],false),(Ah Dh,true)]++ [(Ci [120],false),(Ah Bt,false)]
theorem Ft9: ∀i:Fin 70,(Xw (it1 (i.1+1))=tx1 (i.1+1)/\(tx1 (i.1+1)).length<=8000/\Tt (it1 (i.1+1))=true/\((it1 (i.1+1)).map fun p=>stT p.1)=Ae3 (Ca1 (i.1+1)))/\Rf ((it1 (i.1+1)).map fun p=>stT p.1)=true/\Eo (Ca1 (i.1+1))=decide (i.1+1<=64):=by decide+kernel
def tx2 (n:Nat):List UInt8:=(Lib.repeatL [120,44,32] (n-1)++ [120])++ [32,58,32,84]
def it2 (n:Nat):List (Tok×Bool):=rep (n-1) [(Ci [120],false),(Ah Dh,true)]++ [(Ci [120],true),(Ah Fk,true),(Ci [84],false)]
theorem Fu0: ∀i:Fin 70,(Xw (it2 (i.1+1))=tx2 (i.1+1)/\(tx2 (i.1+1)).length<=8000/\Tt (it2 (i.1+1))=true/\((it2 (i.1+1)).map fun p=>stT p.1)=Oh [Br8 (i.1+1)])/\Rf ((it2 (i.1+1)).map fun p=>stT p.1)=true/\Ii [Br8 (i.1+1)]=decide (i.1+1<=8):=by decide+kernel
def tx3 (n:Nat):List UInt8:=Lib.repeatL [120,32,58,32,84,59,32] (n-1)++ [120,32,58,32,84]
def it3 (n:Nat):List (Tok×Bool):=rep (n-1) [(Ci [120],true),(Ah Fk,true),(Ci [84],false),(Ah Dg,true)]++ [(Ci [120],true),(Ah Fk,true),(Ci [84],false)]
theorem Fu1: ∀i:Fin 70,(Xw (it3 (i.1+1))=tx3 (i.1+1)/\(tx3 (i.1+1)).length<=8000/\Tt (it3 (i.1+1))=true/\((it3 (i.1+1)).map fun p=>stT p.1)=Oh (List.replicate (i.1+1) (Br8 1)))/\Rf ((it3 (i.1+1)).map fun p=>stT p.1)=true/\Ii (List.replicate (i.1+1) (Br8 1))=decide (i.1+1<=8):=by decide+kernel
def tx4 (n:Nat):List UInt8:=Lib.repeatL [120,32,61,62,32,49,44,32] (n-1)++ [120,32,61,62,32,49]
def it4 (n:Nat):List (Tok×Bool):=rep (n-1) [(Ci [120],true),(Ah Bn,true),(Cj1,false),(Ah Dh,true)]++ [(Ci [120],true),(Ah Bn,true),(Cj1,false)]
theorem Fu2: ∀i:Fin 70,(Xw (it4 (i.1+1))=tx4 (i.1+1)/\(tx4 (i.1+1)).length<=8000/\Tt (it4 (i.1+1))=true/\((it4 (i.1+1)).map fun p=>stT p.1)=Fy1 (List.replicate (i.1+1) Ej0))/\Rf ((it4 (i.1+1)).map fun p=>stT p.1)=true/\Pc (List.replicate (i.1+1) Ej0)=decide (i.1+1<=8):=by decide+kernel
def tx5 (n:Nat):List UInt8:=(Lib.repeatL [120,44,32] (n-1)++ [120])++ [32,58,32,84,59]
def it5 (n:Nat):List (Tok×Bool):=rep (n-1) [(Ci [120],false),(Ah Dh,true)]++ [(Ci [120],true),(Ah Fk,true),(Ci [84],false),(Ah Dg,false)]
theorem Fu3: ∀i:Fin 70,(Xw (it5 (i.1+1))=tx5 (i.1+1)/\(tx5 (i.1+1)).length<=8000/\Tt (it5 (i.1+1))=true/\((it5 (i.1+1)).map fun p=>stT p.1)=Je [Uc (i.1+1)])/\Rf ((it5 (i.1+1)).map fun p=>stT p.1)=true/\Mk [Uc (i.1+1)]=decide (i.1+1<=8):=by decide+kernel
def tx6 (n:Nat):List UInt8:=Lib.repeatL [120,32,58,32,84,59] n
def it6 (n:Nat):List (Tok×Bool):=rep n [(Ci [120],true),(Ah Fk,true),(Ci [84],false),(Ah Dg,false)]
theorem Fu4: ∀i:Fin 70,(Xw (it6 (i.1+1))=tx6 (i.1+1)/\(tx6 (i.1+1)).length<=8000/\Tt (it6 (i.1+1))=true/\((it6 (i.1+1)).map fun p=>stT p.1)=Je (List.replicate (i.1+1) (Uc 1)))/\Rf ((it6 (i.1+1)).map fun p=>stT p.1)=true/\Mk (List.replicate (i.1+1) (Uc 1))=decide (i.1+1<=32):=by decide+kernel
def tx7 (n:Nat):List UInt8:=([114,101,99,111,114,100,32]++Lib.repeatL [120,32,58,32,84,59] n)++ [32,101,110,100,32,114,101,99,111,114,100]
def it7 (n:Nat):List (Tok×Bool):= [(Ah Cw,true)]++rep (n-1) [(Ci [120],true),(Ah Fk,true),(Ci [84],false),(Ah Dg,false)]++ [(Ci [120],true),(Ah Fk,true),(Ci [84],false),(Ah Dg,true),(Ah Ml,true),(Ah Cw,false)]
theorem Fu5: ∀i:Fin 70,(Xw (it7 (i.1+1))=tx7 (i.1+1)/\(tx7 (i.1+1)).length<=8000/\Tt (it7 (i.1+1))=true/\((it7 (i.1+1)).map fun p=>stT p.1)=Ae3 (Dl5 (i.1+1)))/\Rf ((it7 (i.1+1)).map fun p=>stT p.1)=true/\Eo (Dl5 (i.1+1))=decide (i.1+1<=32):=by decide+kernel
def tx8 (n:Nat):List UInt8:=([114,101,99,111,114,100,32,99,97,115,101,32,120,32,105,115,32]++Lib.repeatL [119,104,101,110,32,49,32,61,62,32,110,117,108,108,59] n)++ [32,101,110,100,32,99,97,115,101,59,32,101,110,100,32,114,101,99,111,114,100]
def it8 (n:Nat):List (Tok×Bool):= [(Ah Cw,true),(Ah It,true),(Ci [120],true),(Ah wIs,true)]++rep (n-1) [(Ah Ku,true),(Cj1,true),(Ah Bn,true),(Ah Ez,false),(Ah Dg,false)]++ [(Ah Ku,true),(Cj1,true),(Ah Bn,true),(Ah Ez,false),(Ah Dg,true),(Ah Ml,true),(Ah It,false),(Ah Dg,true),(Ah Ml,true),(Ah Cw,false)]
theorem Fu6: ∀i:Fin 70,(Xw (it8 (i.1+1))=tx8 (i.1+1)/\(tx8 (i.1+1)).length<=8000/\Tt (it8 (i.1+1))=true/\((it8 (i.1+1)).map fun p=>stT p.1)=Ae3 (Dl6 (i.1+1)))/\Rf ((it8 (i.1+1)).map fun p=>stT p.1)=true/\Eo (Dl6 (i.1+1))=decide (i.1+1<=16):=by decide+kernel
def tx9 (n:Nat):List UInt8:=([114,101,99,111,114,100,32,99,97,115,101,32,120,32,105,115,32,119,104,101,110,32,49,32,61,62,32]++Lib.repeatL [120,32,58,32,84,59] n)++ [32,119,104,101,110,32,50,32,61,62,32,110,117,108,108,59,32,101,110,100,32,99,97,115,101,59,32,101,110,100,32,114,101,99,111,114,100]
def it9 (n:Nat):List (Tok×Bool):= [(Ah Cw,true),(Ah It,true),(Ci [120],true),(Ah wIs,true),(Ah Ku,true),(Cj1,true),(Ah Bn,true)]++rep (n-1) [(Ci [120],true),(Ah Fk,true),(Ci [84],false),(Ah Dg,false)]++ [(Ci [120],true),(Ah Fk,true),(Ci [84],false),(Ah Dg,true),(Ah Ku,true),(Fe5,true),(Ah Bn,true),(Ah Ez,false),(Ah Dg,true),(Ah Ml,true),(Ah It,false),(Ah Dg,true),(Ah Ml,true),(Ah Cw,false)]
theorem Fu7: ∀i:Fin 70,(Xw (it9 (i.1+1))=tx9 (i.1+1)/\(tx9 (i.1+1)).length<=8000/\Tt (it9 (i.1+1))=true/\((it9 (i.1+1)).map fun p=>stT p.1)=Ae3 (Cx5 (i.1+1)))/\Rf ((it9 (i.1+1)).map fun p=>stT p.1)=true/\Eo (Cx5 (i.1+1))=decide (i.1+1<=32):=by decide+kernel
def Rn (len n most:Nat):Int×Int:=if n<=most then((len:Int),0) else(0,3)
theorem Aj6 {α γ:Type} {st:α->γ} {r:Re α} {c:α} {len n C:Nat} {fine:α->Bool} {z:α} (h:Gvs st r (st c) (0+len)) (hf: ∀x y,st x=st y->fine x=fine y) (hm:fine c=decide (n<=C)):(Ie r fine z).2=Rn len n C:=by
 obtain⟨x,rfl,hx⟩:=h;rw[Ie,hf x c hx,hm,Rn];by_cases h:n<=C
 ·rw[decide_eq_true h,if_pos rfl,if_pos h,Nat.zero_add]
 ·rw[decide_eq_false h,if_neg (by simp),if_neg h]
theorem Cj2 {n:Nat} (h:1<=n):nms n≠ []:=by
 obtain⟨m,rfl⟩: ∃m,n=m+1:=⟨n-1,by omega⟩;exact fun e=>by cases e
theorem Dl7 {α:Type} {n:Nat} (h:1<=n) (x:α):List.replicate n x≠ []:=by
 obtain⟨m,rfl⟩: ∃m,n=m+1:=⟨n-1,by omega⟩;exact fun e=>by cases e
theorem Fu8:Yf Ej0=true:=by decide+kernel
theorem Fu9:Hd (Uc 1)=true:=by decide+kernel
theorem Br9 (n:Nat):(List.replicate n (Uc 1)).all Hd=true:=by
 rw[List.all_eq_true];intro x hx;rw[(List.mem_replicate.1 hx).2];exact Fu9
section
variable {l ts:List Tok} {n:Nat}
theorem Xx (h:l.map stT=ts):Pre l 0 ts:=⟨Nat.zero_le _,by rw[h,jJ];exact List.prefix_rfl⟩
theorem Ab7 (h:l.map stT=ts):l.length=ts.length:=by rw[<-h,jK]
theorem Fe8 (h:l.map stT=ts):tk l (0+ts.length)=Am3:=Bl3 (by rw[Ab7 h];omega)
theorem Cj3 (h:l.map stT=ts) (W:List (List UInt8)):nof W (tk l (0+ts.length)):=by rw[Fe8 h];exact Gn3 W
theorem Dl8 (h:l.map stT=ts) {s:List UInt8}:isW l (0+ts.length) [s]=false:=Ai5 (Cj3 h [s]) (by simp)
theorem Gr7 (h1:1<=n) (h:l.map stT=Ae3 (Ca1 n)) (hm:Eo (Ca1 n)=decide (n<=64)):(Gf l).2=Rn l.length n 64:=by
 rw[Ab7 h];refine Aj6 (st:=Ap9) (c:=Ca1 n) ?_ (fun _ _=>Bb6) hm;have e:Ae3 (Ca1 n)=Ah Bi::(Cp (nms n)++ [Ah Bt]):=rfl;have hp:=Xx h;rw[e] at hp⊢
 have ha:=hp.tail.right;rw[Ap5,if_pos hp.word,show 0+(Ah Bi::(Cp (nms n)++ [Ah Bt])).length=0+1+(Cp (nms n)).length+1 by simp;omega];refine(Rb (nms n) (Cj2 h1) hp.tail.left (ha.not (by decide+kernel))).then fun x hx=> ?_
 subst hx;rw[Ek ha];exact .mk _ _ rfl
theorem Gr8 (h1:1<=n) (h:l.map stT=Oh [Br8 n]) (hm:Ii [Br8 n]=decide (n<=8)):(Mo l).2=Rn l.length n 8:=by
 rw[Ab7 h];refine Aj6 (st:=List.map stP) (c:= [Br8 n]) ?_ (fun _ _=>Aq2) hm;exact Ad8 (one:=Ai4 _) (g:=Jp) (st:=stP) (stb:=stP) Dg wF (fun t e=>e▸(by decide+kernel)) [Br8 n] (by simp) (fun b hb j hj hn=>by
  obtain rfl:=List.mem_singleton.1 hb;exact Br7 (Cj2 h1) (show Hu Ft7=true by decide+kernel) (show Ge ex0=true by decide+kernel) (show(1:Int)<=1 by decide) (show(1:Int)<=3 by decide) hj hn) (Xx h) (Cj3 h _) (Dl8 h)
theorem Gr9 (h1:1<=n) (h:l.map stT=Oh (List.replicate n (Br8 1))) (hm:Ii (List.replicate n (Br8 1))=decide (n<=8)):(Mo l).2=Rn l.length n 8:=by
 rw[Ab7 h];refine Aj6 (st:=List.map stP) (c:=List.replicate n (Br8 1)) ?_ (fun _ _=>Aq2) hm;exact Ad8 (one:=Ai4 _) (g:=Jp) (st:=stP) (stb:=stP) Dg wF (fun t e=>e▸(by decide+kernel)) _ (Dl7 h1 _) (fun b hb j hj hn=>by
  rw[(List.mem_replicate.1 hb).2] at hj hn⊢
  exact Br7 (by decide) (by decide+kernel) (by decide+kernel) (by decide) (by decide) hj hn) (Xx h) (Cj3 h _) (Dl8 h)
theorem Gs0 (h1:1<=n) (h:l.map stT=Fy1 (List.replicate n Ej0)) (hm:Pc (List.replicate n Ej0)=decide (n<=8)):(Wi l).2=Rn l.length n 8:=by
 rw[Ab7 h];refine Aj6 (st:=List.map Ap8) (c:=List.replicate n Ej0) ?_ (fun _ _=>Ci0) hm;exact Ad8 (one:=Bp6 _) (g:=Eg7) (st:=Ap8) (stb:=Ap8) Dh wF (fun t e=>e▸(by decide+kernel)) _ (Dl7 h1 _) (fun b hb j hj hn=>by
  rw[(List.mem_replicate.1 hb).2] at hj hn⊢
  exact Eh3 Fu8 hj hn) (Xx h) (Cj3 h _) (Dl8 h)
theorem Gs1 (h1:1<=n) (h:l.map stT=Je [Uc n]) (hm:Mk [Uc n]=decide (n<=8)):(Ra l).2=Rn l.length n 8:=by
 rw[Ab7 h];refine Aj6 (st:=List.map Mp) (c:= [Uc n]) ?_ (fun _ _=>Aq3) hm;have hp:=Xx h;have e:Je [Uc n]= [Uc n].flatMap Pj:=rfl;rw[e] at hp h⊢
 obtain⟨s,ts,C⟩:=Cv6 (Cj2 h1);have y:Pj (Uc n)=Ci s::(ts++(Ah Fk::(Mm (Uc n).sub++(Jx (Uc n).e++ [Ah Dg])))):=by rw[Pj,show(Uc n).names=nms n from rfl,C];rfl
 have hst: ∀j,Pre l j (Pj (Uc n))->(tk l j).kind=1:=fun j hj=>by rw[y] at hj;exact hj.kind
 have D:Pre l 0 (Pj (Uc n)):=by rw[List.flatMap_cons] at hp;exact hp.left
 have hc2:=D;rw[y] at hc2;rw[Qz,hc2.not (s:=Ez) (Pb (.inl rfl)),if_neg (by simp)];exact Ai7 (one:=Ax4 l) (more:=byN l) (g:=Pj) (st:=Mp) (stb:=Mp) (fun _=>True) [Uc n] (by simp) (fun b hb=>by obtain rfl:=List.mem_singleton.1 hb;rw[y];simp) (fun b hb j hj=>by
  obtain rfl:=List.mem_singleton.1 hb;exact⟨by rw[byN,if_pos (hst j hj)],trivial,fun _=>Dl4 (Cj2 h1) (show Cr ⟨Ft7,ex0,ex0,ex0⟩=true by decide+kernel) (show Ge ex0=true by decide+kernel) hj⟩) hp trivial (by rw[byN,Fe8 h];rfl)
theorem Gs2 (h1:1<=n) (h:l.map stT=Je (List.replicate n (Uc 1))) (hm:Mk (List.replicate n (Uc 1))=decide (n<=32)):(Ra l).2=Rn l.length n 32:=by
 rw[Ab7 h];exact Aj6 (st:=List.map Mp) (Ai8 (Br9 n) (Xx h) (by rw[Fe8 h];decide)) (fun _ _=>Aq3) hm
theorem Cj4 {t:Typ} {y:Nat} (h:l.map stT=Ae3 t) (hk:Ae3 t=Bq3 t) (C:(Ap5 l 0)=Bu4 l (0+1)) (hm:Eo t=decide (n<=y)) (g:Gvs Ap9 (Bu4 l (0+1)) (Ap9 t) (0+(Bq3 t).length)):(Gf l).2=Rn l.length n y:=by
 rw[Ab7 h,hk];exact Aj6 (st:=Ap9) (c:=t) (by rw[C];exact g) (fun _ _=>Bb6) hm
theorem Bs0 {us:List Tok} (h:Pre l 0 (Ah Cw::us)):Ap5 l 0=Bu4 l (0+1):=by
 rw[Ap5,h.not (s:=Bi) (by decide+kernel),h.not (s:=Ht) (by decide+kernel),h.not (s:=Tm) (by decide+kernel),h.word];rfl
theorem Fe9 (t:Typ) (h:t.kind=5) (y:t.comps= []->t.var≠ []):Ae3 t=Bq3 t:=by
 unfold Ae3;simp [h];intro a b;exact absurd b (y a)
theorem noB:(noE ex0&&noE ex0)=true:=by decide+kernel
theorem noI:Aa2 Tz=true:=by decide+kernel
theorem noD:Yg Ua=true:=by decide+kernel
theorem Gs3 (h1:1<=n) (h:l.map stT=Ae3 (Dl5 n)) (hm:Eo (Dl5 n)=decide (n<=32)):(Gf l).2=Rn l.length n 32:=by
 have hr:Ae3 (Dl5 n)=Bq3 (Dl5 n):=Fe9 _ rfl fun e=>absurd e (Dl7 h1 _);have hp:=Xx h;rw[hr] at hp;exact Cj4 h hr (Bs0 hp) hm (Aj5 (Br9 n) (by simp [Dl5,El]) rfl rfl rfl noB noI noD rfl hp)
theorem Gs4 (h1:1<=n) (h:l.map stT=Ae3 (Dl6 n)) (hm:Eo (Dl6 n)=decide (n<=16)):(Gf l).2=Rn l.length n 16:=by
 have hr:Ae3 (Dl6 n)=Bq3 (Dl6 n):=Fe9 _ rfl fun _ e=>by cases e
 have hp:=Xx h;rw[hr] at hp;exact Cj4 h hr (Bs0 hp) hm (Aj5 rfl (by simp [Dl6,El];omega) (by
  rw[List.all_eq_true];intro x hx;rw[(List.mem_replicate.1 hx).2];decide+kernel) rfl rfl noB noI noD rfl hp)
theorem Gs5 (h1:1<=n) (h:l.map stT=Ae3 (Cx5 n)) (hm:Eo (Cx5 n)=decide (n<=32)):(Gf l).2=Rn l.length n 32:=by
 have hr:Ae3 (Cx5 n)=Bq3 (Cx5 n):=Fe9 _ rfl fun _ e=>by cases e
 have hp:=Xx h;rw[hr] at hp;exact Cj4 h hr (Bs0 hp) hm (Aj5 rfl (by simp [Cx5,El]) (by
  rw[List.all_eq_true];intro x hx;simp only[Cx5,List.mem_cons,List.not_mem_nil,or_false] at hx;rcases hx with rfl | rfl
  ·rw[Kd,Br9];exact(show(true&&Kp [.mk 1 [Ft8]])=true by decide+kernel)
  ·decide+kernel) rfl rfl noB noI noD rfl hp)
end
theorem Gi5 {n:Nat} (h1:1<=n) (h2:n<=70):(tx1 n).length<=8000/\Rf (Ar (tx1 n)).1=true/\(Gf (Ar (tx1 n)).1).2=Rn (Ar (tx1 n)).1.length n 64:=by
 obtain⟨i,rfl⟩: ∃i,n=i+1:=⟨n-1,by omega⟩;obtain⟨h,hx,hm⟩:=Ft9 ⟨i,by omega⟩;refine⟨h.2.1, ?_,Gr7 h1 (Gd h) hm⟩;rw[<-Sj,Gd ⟨h.1,h.2.1,h.2.2.1,rfl⟩];exact hx
theorem Gi6 {n:Nat} (h1:1<=n) (h2:n<=70):(tx2 n).length<=8000/\Rf (Ar (tx2 n)).1=true/\(Mo (Ar (tx2 n)).1).2=Rn (Ar (tx2 n)).1.length n 8:=by
 obtain⟨i,rfl⟩: ∃i,n=i+1:=⟨n-1,by omega⟩;obtain⟨h,hx,hm⟩:=Fu0 ⟨i,by omega⟩;refine⟨h.2.1, ?_,Gr8 h1 (Gd h) hm⟩;rw[<-Sj,Gd ⟨h.1,h.2.1,h.2.2.1,rfl⟩];exact hx
theorem Gi7 {n:Nat} (h1:1<=n) (h2:n<=70):(tx3 n).length<=8000/\Rf (Ar (tx3 n)).1=true/\(Mo (Ar (tx3 n)).1).2=Rn (Ar (tx3 n)).1.length n 8:=by
 obtain⟨i,rfl⟩: ∃i,n=i+1:=⟨n-1,by omega⟩;obtain⟨h,hx,hm⟩:=Fu1 ⟨i,by omega⟩;refine⟨h.2.1, ?_,Gr9 h1 (Gd h) hm⟩;rw[<-Sj,Gd ⟨h.1,h.2.1,h.2.2.1,rfl⟩];exact hx
theorem Gi8 {n:Nat} (h1:1<=n) (h2:n<=70):(tx4 n).length<=8000/\Rf (Ar (tx4 n)).1=true/\(Wi (Ar (tx4 n)).1).2=Rn (Ar (tx4 n)).1.length n 8:=by
 obtain⟨i,rfl⟩: ∃i,n=i+1:=⟨n-1,by omega⟩;obtain⟨h,hx,hm⟩:=Fu2 ⟨i,by omega⟩;refine⟨h.2.1, ?_,Gs0 h1 (Gd h) hm⟩;rw[<-Sj,Gd ⟨h.1,h.2.1,h.2.2.1,rfl⟩];exact hx
theorem Gi9 {n:Nat} (h1:1<=n) (h2:n<=70):(tx5 n).length<=8000/\Rf (Ar (tx5 n)).1=true/\(Ra (Ar (tx5 n)).1).2=Rn (Ar (tx5 n)).1.length n 8:=by
 obtain⟨i,rfl⟩: ∃i,n=i+1:=⟨n-1,by omega⟩;obtain⟨h,hx,hm⟩:=Fu3 ⟨i,by omega⟩;refine⟨h.2.1, ?_,Gs1 h1 (Gd h) hm⟩;rw[<-Sj,Gd ⟨h.1,h.2.1,h.2.2.1,rfl⟩];exact hx
theorem Gj0 {n:Nat} (h1:1<=n) (h2:n<=70):(tx6 n).length<=8000/\Rf (Ar (tx6 n)).1=true/\(Ra (Ar (tx6 n)).1).2=Rn (Ar (tx6 n)).1.length n 32:=by
 obtain⟨i,rfl⟩: ∃i,n=i+1:=⟨n-1,by omega⟩;obtain⟨h,hx,hm⟩:=Fu4 ⟨i,by omega⟩;refine⟨h.2.1, ?_,Gs2 h1 (Gd h) hm⟩;rw[<-Sj,Gd ⟨h.1,h.2.1,h.2.2.1,rfl⟩];exact hx
theorem Gj1 {n:Nat} (h1:1<=n) (h2:n<=70):(tx7 n).length<=8000/\Rf (Ar (tx7 n)).1=true/\(Gf (Ar (tx7 n)).1).2=Rn (Ar (tx7 n)).1.length n 32:=by
 obtain⟨i,rfl⟩: ∃i,n=i+1:=⟨n-1,by omega⟩;obtain⟨h,hx,hm⟩:=Fu5 ⟨i,by omega⟩;refine⟨h.2.1, ?_,Gs3 h1 (Gd h) hm⟩;rw[<-Sj,Gd ⟨h.1,h.2.1,h.2.2.1,rfl⟩];exact hx
theorem Gj2 {n:Nat} (h1:1<=n) (h2:n<=70):(tx8 n).length<=8000/\Rf (Ar (tx8 n)).1=true/\(Gf (Ar (tx8 n)).1).2=Rn (Ar (tx8 n)).1.length n 16:=by
 obtain⟨i,rfl⟩: ∃i,n=i+1:=⟨n-1,by omega⟩;obtain⟨h,hx,hm⟩:=Fu6 ⟨i,by omega⟩;refine⟨h.2.1, ?_,Gs4 h1 (Gd h) hm⟩;rw[<-Sj,Gd ⟨h.1,h.2.1,h.2.2.1,rfl⟩];exact hx
theorem Gj3 {n:Nat} (h1:1<=n) (h2:n<=70):(tx9 n).length<=8000/\Rf (Ar (tx9 n)).1=true/\(Gf (Ar (tx9 n)).1).2=Rn (Ar (tx9 n)).1.length n 32:=by
 obtain⟨i,rfl⟩: ∃i,n=i+1:=⟨n-1,by omega⟩;obtain⟨h,hx,hm⟩:=Fu7 ⟨i,by omega⟩;refine⟨h.2.1, ?_,Gs5 h1 (Gd h) hm⟩;rw[<-Sj,Gd ⟨h.1,h.2.1,h.2.2.1,rfl⟩];exact hx
end Go.Dl
-- Chapter 4: FormLimits.
namespace Go.Dl
open Go Go.Proofs
set_option maxRecDepth 100000
section
variable {G:Nat->DVal}
theorem Md (G:Nat->DVal) (H:Ac) (s:List UInt8) (c:Nat) (h:c<=1000) (hs:s.length<=1000):Af Tryz.prog G 49 [.str s,dI c] H (Au (.str (Lib.repeatL s c)) H):=by
 refine⟨Tryz.call49,fun vs w hv y hg=> ?_⟩;simp only[Az,Rel] at hv;obtain⟨_,_,rfl,rfl,_,_,rfl,rfl,rfl⟩:=hv;have hm:s.length*c<=1000*1000:=Nat.mul_le_mul hs h;refine(Tryz.strings_Repeat ⟨⟨s⟩⟩ c w (by omega) (by show s.length*c<=_;omega)).mono fun e w' ⟨he,hw⟩=> ?_;subst he;obtain⟨k1,C⟩:=(Quiet.below hw).ext y;exact⟨_,H,⟨rfl,rfl⟩, .ret _ _ (by simp [Rel]),k1,C⟩
theorem Gk (G:Nat->DVal) (H:Ac) (s:List UInt8) (hs:s.length<=8000):Af Tryz.prog G 55 [.str s] H (Au (Bh (Ar s).1) H):=by
 refine Ab Tryz.func55 Tryz.call55 rfl (by kernel_rfl) ?_;simp(disch:=omega)only[go_sem];refine Af.monoR (Ao9 G H s (by omega)) ?_;simp(disch:=omega)only[go_sem];exact Es.refl ⟨rfl,rfl⟩
theorem Ar2 (l:List Tok) (n h:Nat) {f:FuncId} {H:Ac} {r:Nat} (hr:H r=some (.cells [dI n] 3)) (hf:Af Tryz.prog G f [Bh l] H (Au (.tuple [dI (Rn l.length n h).1,dI (Rn l.length n h).2]) H)):Af Tryz.prog G 50 [Bh l, .func (.func f) [] [],dI h, .optr r 0] H (Au (.bool true) H):=by
 refine Ab Tryz.func50 Tryz.call50 rfl (by kernel_rfl) ?_;simp(disch:=omega)only[go_sem];refine Af.monoR hf ?_;by_cases c:n<=h
 ·have c':(n:Int)<=(h:Int):=by omega
  rw[Rn,if_pos c];simp(disch:=omega)only[go_sem,hr,c',Bh];exact Es.refl ⟨rfl,rfl⟩
 ·have c': ¬(n:Int)<=(h:Int):=by omega
  have y:(h:Int)<(n:Int):=by omega
  rw[Rn,if_neg c];simp(disch:=omega)only[go_sem,hr,c',y,Bh];exact Es.refl ⟨rfl,rfl⟩
theorem Fv0 (hG:GX G) (l:List Tok) (H:Ac) (hx:Rf l=true):Af Tryz.prog G 51 [Bh l] H (Au (.tuple [dI (Gf l).2.1,dI (Gf l).2.2]) H):=by
 have hx:Dk9 l=true:=hx;obtain⟨hl,h⟩:=Si hx;refine Ab Tryz.func51 Tryz.call51 rfl (by kernel_rfl) ?_;simp(disch:=omega)only[go_sem];refine Af.monoR (Br1 hG H hl h) ?_;obtain⟨t,k,e⟩:=Gf l;have h1:=Cj t;have h2:=Cu2 t;simp(disch:=omega)only[go_sem,Hv,h1,h2];intro r hr;dsimp only at hr;simp(disch:=omega)only[go_sem,h1,h2];exact Es.sub ((Sub.refl H).new hr _) (.refl ⟨rfl,rfl⟩)
theorem Go9 (hG:GX G) (l:List Tok) (H:Ac) (hx:Rf l=true):Af Tryz.prog G 52 [Bh l] H (Au (.tuple [dI (Mo l).2.1,dI (Mo l).2.2]) H):=by
 have hx:Dk9 l=true:=hx;obtain⟨hl,h⟩:=Si hx;refine Ab Tryz.func52 Tryz.call52 rfl (by kernel_rfl) ?_;simp(disch:=omega)only[go_sem];refine Af.monoR (Aq7 hG H hl h) ?_;obtain⟨t,k,e⟩:=Mo l;simp(disch:=omega)only[go_sem,Hv,Hr];exact Es.refl ⟨rfl,rfl⟩
theorem Gs6 (hG:GX G) (l:List Tok) (H:Ac) (hx:Rf l=true):Af Tryz.prog G 53 [Bh l] H (Au (.tuple [dI (Wi l).2.1,dI (Wi l).2.2]) H):=by
 have hx:Dk9 l=true:=hx;obtain⟨hl,h⟩:=Si hx;refine Ab Tryz.func53 Tryz.call53 rfl (by kernel_rfl) ?_;simp(disch:=omega)only[go_sem];refine Af.monoR (Bu6 hG H hl h) ?_;obtain⟨t,k,e⟩:=Wi l;simp(disch:=omega)only[go_sem,Hv,Lz];exact Es.refl ⟨rfl,rfl⟩
theorem Gp0 (hG:GX G) (l:List Tok) (H:Ac) (hx:Rf l=true):Af Tryz.prog G 54 [Bh l] H (Au (.tuple [dI (Ra l).2.1,dI (Ra l).2.2]) H):=by
 have hx:Dk9 l=true:=hx;obtain⟨hl,h⟩:=Si hx;refine Ab Tryz.func54 Tryz.call54 rfl (by kernel_rfl) ?_;simp(disch:=omega)only[go_sem];refine Af.monoR (Cw9 hG H hl h) ?_;obtain⟨t,k,e⟩:=Ra l;simp(disch:=omega)only[go_sem,Hv,Ct];exact Es.refl ⟨rfl,rfl⟩
set_option maxHeartbeats 8000000 in
theorem Bd1 (hG:GX G) (H:Ac) (o:Nat) (X:o<256):Af Tryz.prog G 6 [.int .u8 o] H (Au (.bool true) H):=by
 obtain⟨n,hn⟩: ∃n,n=1+o%70:=⟨_,rfl⟩;have U:IntKind.i64.wrap (o:Int)=o:=by rw[IntKind.wrap_i64];omega
 have V:IntKind.i64.wrap (1+(o:Int).tmod 70)=n:=by rw[Int.tmod_eq_emod_of_nonneg (by omega),IntKind.wrap_i64];omega
 have y:IntKind.i64.wrap ((n:Int)-1)=((n-1:Nat):Int):=by rw[IntKind.wrap_i64];omega
 have h1:1<=n:=by omega
 have h7:n<=70:=by omega
 refine Ab Tryz.func6 Tryz.call6 rfl (by kernel_rfl) ?_;simp(disch:=omega)only[go_sem,U,V];intro r hr;dsimp only at hr;simp(disch:=omega)only[go_sem,U,V,y];obtain⟨K,C⟩: ∃K,K=upd H r (some (.cells [dI n] 3)):=⟨_,rfl⟩;have h:K r=some (.cells [dI n] 3):=by rw[C];exact Aa _ _ _
 have W:Sub H K:=by rw[C];exact(Sub.refl H).new hr _
 rw[<-C];refine Af.monoR (Md G K [120,44,32] (n-1) (by omega) (by decide)) ?_;simp(disch:=omega)only[go_sem,h,y];have D:=Gi5 h1 h7
 repeat (refine⟨by simp only[jC,jA,jB,Lib.repeatL_length];omega, ?_⟩)
 refine Af.monoR (Gk G K (tx1 n) D.1) ?_;simp(disch:=omega)only[go_sem,h,y];refine Af.monoR (Ar2 (Ar (tx1 n)).1 n 64 h (by rw[<-D.2.2];exact Fv0 hG _ K D.2.1)) ?_;simp(disch:=omega)only[go_sem,h,y];have E:=Gi6 h1 h7
 repeat (refine⟨by simp only[jC,jA,jB,Lib.repeatL_length];omega, ?_⟩)
 refine Af.monoR (Gk G K (tx2 n) E.1) ?_;simp(disch:=omega)only[go_sem,h,y];refine Af.monoR (Ar2 (Ar (tx2 n)).1 n 8 h (by rw[<-E.2.2];exact Go9 hG _ K E.2.1)) ?_;simp(disch:=omega)only[go_sem,h,y];refine Af.monoR (Md G K [120,32,58,32,84,59,32] (n-1) (by omega) (by decide)) ?_;simp(disch:=omega)only[go_sem,h,y];have I:=Gi7 h1 h7
 repeat (refine⟨by simp only[jC,jA,jB,Lib.repeatL_length];omega, ?_⟩)
 refine Af.monoR (Gk G K (tx3 n) I.1) ?_;simp(disch:=omega)only[go_sem,h,y];refine Af.monoR (Ar2 (Ar (tx3 n)).1 n 8 h (by rw[<-I.2.2];exact Go9 hG _ K I.2.1)) ?_;simp(disch:=omega)only[go_sem,h,y];refine Af.monoR (Md G K [120,32,61,62,32,49,44,32] (n-1) (by omega) (by decide)) ?_;simp(disch:=omega)only[go_sem,h,y];have J:=Gi8 h1 h7
 repeat (refine⟨by simp only[jC,jA,jB,Lib.repeatL_length];omega, ?_⟩)
 refine Af.monoR (Gk G K (tx4 n) J.1) ?_;simp(disch:=omega)only[go_sem,h,y];refine Af.monoR (Ar2 (Ar (tx4 n)).1 n 8 h (by rw[<-J.2.2];exact Gs6 hG _ K J.2.1)) ?_;simp(disch:=omega)only[go_sem,h,y];have z5:=Gi9 h1 h7
 repeat (refine⟨by simp only[jC,jA,jB,Lib.repeatL_length];omega, ?_⟩)
 refine Af.monoR (Gk G K (tx5 n) z5.1) ?_;simp(disch:=omega)only[go_sem,h,y];refine Af.monoR (Ar2 (Ar (tx5 n)).1 n 8 h (by rw[<-z5.2.2];exact Gp0 hG _ K z5.2.1)) ?_;simp(disch:=omega)only[go_sem,h,y];refine Af.monoR (Md G K [120,32,58,32,84,59] n (by omega) (by decide)) ?_;simp(disch:=omega)only[go_sem,h,y];have L:=Gj0 h1 h7
 repeat (refine⟨by simp only[jC,jA,jB,Lib.repeatL_length];omega, ?_⟩)
 refine Af.monoR (Gk G K (tx6 n) L.1) ?_;simp(disch:=omega)only[go_sem,h,y];refine Af.monoR (Ar2 (Ar (tx6 n)).1 n 32 h (by rw[<-L.2.2];exact Gp0 hG _ K L.2.1)) ?_;simp(disch:=omega)only[go_sem,h,y];refine Af.monoR (Md G K [120,32,58,32,84,59] n (by omega) (by decide)) ?_;simp(disch:=omega)only[go_sem,h,y];have M:=Gj1 h1 h7
 repeat (refine⟨by simp only[jC,jA,jB,Lib.repeatL_length];omega, ?_⟩)
 refine Af.monoR (Gk G K (tx7 n) M.1) ?_;simp(disch:=omega)only[go_sem,h,y];refine Af.monoR (Ar2 (Ar (tx7 n)).1 n 32 h (by rw[<-M.2.2];exact Fv0 hG _ K M.2.1)) ?_;simp(disch:=omega)only[go_sem,h,y];refine Af.monoR (Md G K [119,104,101,110,32,49,32,61,62,32,110,117,108,108,59] n (by omega) (by decide)) ?_;simp(disch:=omega)only[go_sem,h,y];have O:=Gj2 h1 h7
 repeat (refine⟨by simp only[jC,jA,jB,Lib.repeatL_length];omega, ?_⟩)
 refine Af.monoR (Gk G K (tx8 n) O.1) ?_;simp(disch:=omega)only[go_sem,h,y];refine Af.monoR (Ar2 (Ar (tx8 n)).1 n 16 h (by rw[<-O.2.2];exact Fv0 hG _ K O.2.1)) ?_;simp(disch:=omega)only[go_sem,h,y];refine Af.monoR (Md G K [120,32,58,32,84,59] n (by omega) (by decide)) ?_;simp(disch:=omega)only[go_sem,h,y];have S:=Gj3 h1 h7
 repeat (refine⟨by simp only[jC,jA,jB,Lib.repeatL_length];omega, ?_⟩)
 refine Af.monoR (Gk G K (tx9 n) S.1) ?_;simp(disch:=omega)only[go_sem,h,y];refine Af.monoR (Ar2 (Ar (tx9 n)).1 n 32 h (by rw[<-S.2.2];exact Fv0 hG _ K S.2.1)) ?_;simp(disch:=omega)only[go_sem,h,y];refine Af.monoR (Cx4 hG K) ?_;simp(disch:=omega)only[go_sem];exact Es.sub W (.refl ⟨rfl,rfl⟩)
end
end Go.Dl
-- THE READING, PART 1: what was read of th
namespace Go.Dl
open Go
section
variable {H:Type} {enc:TypeId×Value->H} {P:Program} {w w':World}
def Aj7 (w w':World):Prop:= ∀b,b<w.heap.size->w'.heap[b]? =w.heap[b]?
theorem Aj7.cell (h:Aj7 w w') {a:Addr} {x:Value} (y:w.cell? a=some x):w'.cell? a=some x:=by
 have C:a.block<w.heap.size:=by
  unfold World.cell? at y;rcases Nat.lt_or_ge a.block w.heap.size with hl | hl
  ·exact hl
  ·simp [Array.getElem?_eq_none hl] at y
 unfold World.cell? at y⊢
 rw[h _ C];exact y
theorem Qf {α β:Type} {f g:α->Option β}: ∀ {l:List α} {r:List β},l.mapM f=some r->(∀x∈l,∀y,f x=some y->y∈r->g x=some y)->l.mapM g=some r
 | [],r,h,_=>by simpa using h
 | x::l,r,h,hg=>by
  rw[List.mapM_cons] at h⊢
  simp only[Option.bind_eq_bind,Option.bind_eq_some_iff,Option.pure_def,Option.some.injEq] at h⊢
  obtain⟨y,C,ys,D,rfl⟩:=h;exact⟨y,hg x (by simp) y C (by simp),ys,Qf D (fun z hz u hu hm=>hg z (by simp [hz]) u hu (by simp [hm])),rfl⟩
theorem Aj7.cells (h:Aj7 w w') {base:Nat} {a:Addr} {n:Nat} {cs:List Value} (C:w.cells? base a n=some cs):w'.cells? base a n=some cs:=by
 unfold World.cells? at C⊢
 split at C
 ·rename_i hb;rw[if_pos hb];exact Qf C fun i _ y D _=>h.cell D
 ·cases C
structure Closed (P:Program) (T:TypeId->Prop):Prop where
 ptr: ∀t e,T t->P.underlying t=some (.pointer e)->T e
 slice: ∀t e,T t->P.underlying t=some (.slice e)->0<P.cellsOf e/\T e
 struct: ∀t fs,T t->P.underlying t=some (.struct fs)-> ∀f∈fs.toList,T f.type
 array: ∀t n e,T t->P.underlying t=some (.array n e)->T e
 iface: ∀t m,T t->P.underlying t≠some (.interface m)
 map: ∀t k e,T t->P.underlying t=some (.map k e)->T e
def Dt2 (P:Program) (ts:List TypeId):Bool:=ts.all fun t=>match P.underlying t with
 | some (.pointer e)=>ts.contains e
 | some (.slice e)=>decide (0<P.cellsOf e)&&ts.contains e
 | some (.struct fs)=>fs.toList.all fun f=>ts.contains f.type
 | some (.array _ e)=>ts.contains e
 | some (.interface _)=>false
 | some (.map _ e)=>ts.contains e
 | _=>true
theorem Ej1 {P:Program} {ts:List TypeId} (h:Dt2 P ts=true):Closed P (· ∈ts):=by
 unfold Dt2 at h;rw[List.all_eq_true] at h;refine⟨fun t e ht hu=> ?_,fun t e ht hu=> ?_,fun t fs ht hu=> ?_,fun t n e ht hu=> ?_,fun t m ht hu=> ?_,fun t k e ht hu=> ?_⟩;all_goals have h1:=h t ht;rw[hu] at h1
 ·simpa using h1
 ·simpa using h1
 ·intro f hf;simpa using List.all_eq_true.1 h1 f hf
 ·simpa using h1
 ·cases h1
 ·simpa using h1
theorem Ca2 (h:Aj7 w w') {T:TypeId->Prop} (E:Closed P T) {base:Nat} {J:Nat->Bool} {held:Bool}:
  ∀(Fm:Nat) (t:TypeId) (cs:List Value) (d:DataW H) (L:List MemPlace),T t->DataW.trod enc P w base (fun _=>true) held Fm t cs=some (d,L)->(∀p∈L,J p.block=true)->
   DataW.trod enc P w' base J held Fm t cs=some (d,L)
 | 0,_,_,_,_,_,hh,_=>by simp [DataW.trod] at hh
 | Fm+1,t,cs,d,L,ht,hh,hp=>by
  have ih:= @Ca2 h T E base J held Fm;unfold DataW.trod at hh⊢
  split at hh<;>(try (first | exact hh | (simp at hh;done)))
  ·-- pointer
   rename_i e a hu
   simp only[Option.map_eq_some_iff,Option.bind_eq_some_iff,Prod.mk.injEq] at hh⊢
   obtain⟨x,⟨c,hc,hx⟩,rfl,rfl⟩:=hh;exact⟨x,⟨c,h.cells hc,ih _ _ x.1 x.2 (E.ptr _ _ ht hu) hx fun p D=>hp p (by simp [D])⟩,rfl,rfl⟩
  ·-- slice
   rename_i e a len cap hu
   dsimp only at hh⊢
   split at hh
   ·rename_i hc
    rw[if_pos hc];simp only[Option.bind_eq_some_iff,Option.map_eq_some_iff,if_true,Prod.mk.injEq] at hh⊢
    obtain⟨O,he,rest,hr,rfl,rfl⟩:=hh;have hp1: ∀y∈O,∀p∈y.2,J p.block=true:=fun y C p D=>hp p (by
     simp only[List.mem_append,List.mem_flatMap];exact .inr ⟨y, .inl C,D⟩)
    have hp2: ∀y∈rest,∀p∈y.2,J p.block=true:=fun y C p D=>hp p (by
     simp only[List.mem_append,List.mem_flatMap];exact .inr ⟨y, .inr C,D⟩)
    refine⟨O,Qf he (fun i _ y C I=> ?_),rest, ?_,rfl,rfl⟩
    ·simp only[Option.bind_eq_some_iff] at C⊢
     obtain⟨c,M,hc2⟩:=C;exact⟨c,h.cells M,ih _ _ y.1 y.2 (E.slice _ _ ht hu).2 hc2 (hp1 y I)⟩
    ·have S:(List.range (cap-len)).mapM (fun j=>(w'.cells? base (a.add ((len+j)*P.cellsOf e)) (P.cellsOf e)).bind (DataW.trod enc P w' base J held Fm e))=some rest:=by
      refine Qf hr (fun i _ y C I=> ?_);simp only[Option.bind_eq_some_iff] at C⊢
      obtain⟨c,M,hc2⟩:=C;exact⟨c,h.cells M,ih _ _ y.1 y.2 (E.slice _ _ ht hu).2 hc2 (hp2 y I)⟩
     by_cases hsp:J a.block=true
     ·rw[if_pos hsp];exact S
     ·rw[if_neg hsp];have U:=(E.slice t e ht hu).1;have V:rest.length=0:=by
       rcases Nat.eq_zero_or_pos rest.length with h0 | h0
       ·exact h0
       ·exfalso;refine hsp (hp (.cell a.block a.off) ?_);refine List.mem_append_left _ ?_;unfold MemPlace.row;refine List.mem_map.2 ⟨0,List.mem_range.2 (Nat.mul_pos (by omega) U),by simp⟩
      rw[List.eq_nil_of_length_eq_zero V]
   ·cases hh
  ·-- struct
   rename_i fs hu
   split at hh
   ·rename_i hl
    rw[if_pos hl];simp only[Option.map_eq_some_iff,Prod.mk.injEq] at hh⊢
    obtain⟨xs,hx,rfl,rfl⟩:=hh;exact⟨xs,Qf hx (fun f hf y C I=>ih _ _ y.1 y.2 (E.struct _ _ ht hu f hf) C fun p D=>hp p (List.mem_flatMap.2 ⟨y,I,D⟩)),rfl,rfl⟩
   ·cases hh
  ·-- array
   rename_i hu
   split at hh
   ·rename_i hl
    rw[if_pos hl];simp only[Option.map_eq_some_iff,Prod.mk.injEq] at hh⊢
    obtain⟨xs,hx,rfl,rfl⟩:=hh;exact⟨xs,Qf hx (fun f hf y C I=>ih _ _ y.1 y.2 (E.array _ _ _ ht hu) C fun p D=>hp p (List.mem_flatMap.2 ⟨y,I,D⟩)),rfl,rfl⟩
   ·cases hh
  ·-- interface
   rename_i hu
   exact(E.iface _ _ ht hu).elim
  ·-- map
   rename_i k e b hu
   split at hh
   ·rename_i es Z hb
    have W:b<w.heap.size:=(Array.getElem?_eq_some_iff.1 hb).1;rw[h b W,hb];dsimp only at hh⊢
    split at hh
    ·rename_i hc
     rw[if_pos hc];simp only[Option.bind_eq_some_iff] at hh⊢
     obtain⟨entries,he,hr⟩:=hh;split at hr
     ·rename_i X
      simp only[Option.some.injEq,Prod.mk.injEq] at hr;obtain⟨rfl,rfl⟩:=hr;refine⟨entries,Qf he (fun x _ y C I=> ?_),by rw[if_pos X]⟩;simp only[Option.bind_eq_some_iff] at C⊢
      obtain⟨key,hk,C⟩:=C;refine⟨key,hk, ?_⟩;split at C
      ·rename_i hf
       rw[if_pos hf];simp only[Option.map_eq_some_iff] at C⊢
       obtain⟨z,Y,rfl⟩:=C;exact⟨z,ih _ _ z.1 z.2 (E.map _ _ _ ht hu) Y fun p D=>hp p (by
        simp only[List.mem_cons,List.mem_flatMap];exact .inr ⟨_,I,D⟩),rfl⟩
      ·cases C
     ·cases hr
    ·cases hh
   ·cases hh
theorem Trod.keep (h:Aj7 w w') {T:TypeId->Prop} (D:Closed P T) {base:Nat} {C:Nat->Bool} {held:Bool} {t:TypeId} {v:Value} {d:DataW H} {y:List MemPlace}
  (E:T t) (hh:DataW.Trod enc P w base (fun _=>true) held t v d y) (hp: ∀p∈y,C p.block=true):DataW.Trod enc P w' base C held t v d y:=by
 obtain⟨Fm,hh⟩:=hh;exact⟨Fm,Ca2 h D Fm _ _ _ _ E hh hp⟩
theorem TrodAll.keep (h:Aj7 w w') {T:TypeId->Prop} (D:Closed P T) {base:Nat} {E:Nat->Bool} {held:Bool}:
  ∀ {ts:List TypeId} {vs:List Value} {y:List (DataW H)} {C:List MemPlace},(∀t∈ts,T t)->DataW.TrodAll enc P w base (fun _=>true) held ts vs y C->(∀p∈C,E p.block=true)->DataW.TrodAll enc P w' base E held ts vs y C
 | [],[],[],_,_,hh,_=>hh
 | [],[],_::_,_,_,hh,_=>hh.elim
 | [],_::_,_,_,_,hh,_=>hh.elim
 | _::_,[],_,_,_,hh,_=>hh.elim
 | _::_,_::_,[],_,_,hh,_=>hh.elim
 | t::ts,v::vs,d::y,_,ht,⟨p,q,h1,h2,rfl⟩,hp=>
  ⟨p,q,Trod.keep h D (ht t (by simp)) h1 (fun x hx=>hp x (by simp [hx])),TrodAll.keep h D (fun u hu=>ht u (by simp [hu])) h2 (fun x hx=>hp x (by simp [hx])),rfl⟩
end
end Go.Dl
-- THE READING, PART 2: what was read of th
namespace Go.Dl
open Go Go.RowKit Go.Deep
def Fy5 (P:Program) (H:Type) (w:World) (t:TypeId) (α:Type) (f:α->List DVal) (g:α->DataW H->Prop):Prop:=
 ∀(enc:TypeId×Value->H) base sp held Fm cs d ps,DataW.trod enc P w base sp held Fm t cs=some (d,ps)-> ∃x,g x d/\Az w (fun _=>none) (f x) cs
section
variable {P:Program} {H:Type} {w:World}
theorem Bs1 {α β:Type} {f:α->Option β}: ∀ {l:List α} {r:List β},l.mapM f=some r->r.length=l.length/\ ∀(i:Nat) (x:α),l[i]? =some x-> ∃y,r[i]? =some y/\f x=some y
 | [],r,h=>by simp at h;subst h;simp
 | x::l,r,h=>by
  rw[List.mapM_cons] at h;simp only[Option.bind_eq_bind,Option.bind_eq_some_iff,Option.pure_def,Option.some.injEq] at h;obtain⟨y,C,ys,D,rfl⟩:=h;obtain⟨h1,h2⟩:=Bs1 D;refine⟨by simp [h1],fun i z hz=> ?_⟩;cases i with
  | zero=>simp at hz;subst hz;exact⟨y,rfl,C⟩
  | succ i=>simp at hz;obtain⟨u,hu,hf⟩:=h2 i z hz;exact⟨u,by simpa using hu,hf⟩
theorem Ej2 {t:TypeId} {k:IntKind} (y:P.underlying t=some (.int k)):Fy5 P H w t Int (fun n=> [.int k n]) (fun n d=>(Lit.int k n).wf=true/\d= .lit (.int k n)):=by
 intro enc base C held Fm cs d ps h;cases Fm with
 | zero=>simp [DataW.trod] at h
 | succ Fm=>
  unfold DataW.trod at h;rw[y] at h;split at h<;>simp_all;obtain⟨⟨rfl,hw⟩,rfl,rfl⟩:=h;exact⟨_,⟨hw,rfl⟩,by simp [Az,Rel]⟩
end
end Go.Dl
-- THE READING, PART 3: a law's call at the
namespace Go.Dl
open Go Go.RowKit
section
variable {P:Program} {w:World}
theorem Ext.stands {w':World} {H':Ac} (h:Ext (fun _=>none) w H' w'):Aj7 w w':=fun b hb=>h.block b hb rfl
def Ff0 (W w':World):Prop:=W.keptBut w' (fun _=>False)/\(∀a,a.block<W.heap.size->w'.frozen? a=W.frozen? a)/\W.heap.size<=w'.heap.size
theorem Ff0.frame {W w':World} (h:Ff0 W w') (y:MemPlace->Prop):W.keptBut w' y:=World.keptBut_mono (fun _ f=>f.elim) h.1
theorem Ext.grown {w':World} {H':Ac} (h:Ext (fun _=>none) w H' w'):Ff0 w w':=by
 refine⟨⟨h.os,h.output,fun i hi=> ?_⟩,fun a ha=>h.fz a ha rfl,h.size⟩;rw[h.block i hi rfl];cases ho:w.heap[i]? with
 | none=>simp
 | some o=>cases o<;>simp
theorem Cj5 (w:World):Bj w (fun _=>none):=fun r o h=>by cases h
theorem Af.row {G:Nat->DVal} {f:FuncId} {args:List DVal} {vs:Array Value} (h:Af P G f args (fun _=>none) (fun e _=>e= .ret (.bool true))) (hv:Az w (fun _=>none) args vs.toList) (hG:GOk G w (fun _=>none)):
  Calls P f vs w fun e W'=>e= .returned (.bool true)/\Ff0 w W'/\Aj7 w W':=by
 have:=h.2 vs.toList w hv (Cj5 w) hG;simp only[Array.toArray_toList] at this;refine this.mono fun e w' ⟨e',H',he,hr,_,hE⟩=> ?_;subst he;cases hr with
 | ret d v hv=>simp only[Rel] at hv;subst hv;exact⟨rfl,hE.grown,hE.stands⟩
theorem Az.cons {y:Ac} {d:DVal} {v:Value} {C:List DVal} {vs:List Value} (h:Rel w y d v) (k:Az w y C vs):Az w y (d::C) (v::vs):=by
 simp only[Az];exact⟨v,vs,rfl,h,k⟩
theorem Az.one {C:Ac} {d:DVal} {v:Value} (h:Az w C [d] [v]):Rel w C d v:=by
 simp only[Az] at h;obtain⟨y,ys,h1,h2,_⟩:=h;cases h1;exact h2
end
end Go.Dl
namespace Go.ChangeShapes
open Go.WideShapes
section
variable {H:Type} {enc:TypeId×Value->H} {P:Program}
theorem Cx6 {f:Func} {s:ChangeSpec} {M fresh Z Fv8:Bool} {W y:World} {args:Array Value} {v:Value} {D E:List (DataW H)} {h I pv:List MemPlace}
  (L:DataW.Whole enc P f.params.toList s.vars M W args.toList D E h)
  (O: ∀(b:Nat) (C:Nat->Bool) (hd:Bool),DataW.TrodAll enc P y b C hd f.resultTypes.toList (v.resultList f.resultTypes.size) (s.fn H (D++E)).results [])
  (S: ∀C:Nat->Bool,(∀p∈h,C p.block=true)->DataW.TrodAll enc P y 0 C true f.params.toList args.toList (s.fn H (D++E)).args I)
  (U: ∀C:Nat->Bool,(∀p∈h,C p.block=true)->DataW.TrodVars enc P y C s.vars (s.fn H (D++E)).vars pv)
  (J:h=I++pv) (hk:W.keptBut y (· ∈h)) (aa: ∀a,a.block<W.heap.size->y.frozen? a=W.frozen? a)
  (ab: ∀(j:Nat) (t:TypeId) (r:Value),f.resultTypes[j]? =some t->(v.resultList f.resultTypes.size)[j]? =some r->Value.okWide P y .any 0 t r):
  s.post enc P f M fresh Z Fv8 W args v y:=by
 have V:=L.lt;have X: ∀p∈h,(fun b=>decide (b<W.heap.size)) p.block=true:=fun p hp=>by simpa using V p hp
 refine⟨D,E,h,[],I,pv,L,O _ _ _,S _ X,U _ X,World.keptBut_mono (fun p hp=>⟨hp, .inr (List.mem_append.1 (J▸hp))⟩) hk,fun _=> ?_⟩;obtain⟨_,_,_,_,_,hz,hn⟩:=L;refine⟨ab,_,_,([]++I)++pv,⟨[]++I,pv,trodAll_append (S _ (fun _ _=>rfl)) (O _ _ _),U _ (fun _ _=>rfl),rfl, ?_, ?_⟩, ?_⟩
 ·intro b off hp;have Y:MemPlace.cell b off∈h:=by rw[J];simpa using hp
  exact(aa _ (V _ Y)).trans (hz b off Y)
 ·intro ha;have:=hn ha;rw[J] at this;simpa using this
 ·intro p hp _;rw[J];simpa using hp
end
end Go.ChangeShapes
-- THE READING, PART 4: an argument, as the
namespace Go.Dl
open Go Go.RowKit
section
variable {P:Program} {H:Type} {w:World}
theorem Cj6 {r:Reach} {base:Nat} {t:TypeId} {v:Value} {d:TypeDesc} (y:P.underlying t=some d) (C:(∃e,d= .slice e)\/(∃k,d= .int k)\/d= .bool\/d= .string) (h:Value.okWide P w r base t v):v.cells= #[v]:=by
 unfold Value.okWide at h;rw[y] at h;cases v<;>first | rfl | skip
 rename_i xs
 rcases C with⟨e,rfl⟩ | ⟨k,rfl⟩ | rfl | rfl<;>(unfold Cell.okWide at h;rw[y] at h;simp [Cell.ok,y] at h)
theorem Dl9 {r:Reach} {base:Nat} {t:TypeId} {k:IntKind} {v:Value} (y:P.underlying t=some (.int k)) (h:Value.okWide P w r base t v):v.cells= #[v]:=Cj6 y (.inr (.inl ⟨_,rfl⟩)) h
theorem Gj4 {t:TypeId} {α:Type} {f:α->DVal} {g:α->DataW H->Prop} (hr:Fy5 P H w t α (fun x=> [f x]) g) {enc:TypeId×Value->H} {base:Nat} {y:Nat->Bool} {held:Bool} {v:Value} {d:DataW H} {C:List MemPlace}
  (h:DataW.Trod enc P w base y held t v d C) (hv:v.cells= #[v]): ∃x,g x d/\Rel w (fun _=>none) (f x) v:=by
 obtain⟨Fm,h⟩:=h;rw[hv] at h;obtain⟨x,hg,hx⟩:=hr _ _ _ _ _ _ _ _ h;exact⟨x,hg,hx.one⟩
end
end Go.Dl
-- THE READING, PART 5: the bound on what i
namespace Go.Dl
open Go Go.RowKit Go.Proofs.YtddbdpcgikmiaaaGreatDoor
section
variable {H:Type}
theorem Dm0 {l:List (DataW H)} (h:Rows.uptoSmall H l=true):Rows.uptoBulkAll l<=1048576:=of_decide_eq_true h
end
section
end
theorem Gj5 {k:IntKind} {n:Int} (h:(Lit.int k n).wf=true):k.min<=n/\n<=k.max:=by
 simpa [Lit.wf] using h
section
end
end Go.Dl
-- THE READING, PART G: the package's varia
namespace Go.Dl
open Go Go.RowKit
def Af2:DataW Unit->Bool
 | .lit (.bool _)=>true
 | .lit (.int _ _)=>true
 | .lit (.string _)=>true
 | .agg ds=>litsBs ds
 | _=>false
where litsBs:List (DataW Unit)->Bool
 | []=>true
 | d::ds=>Af2 d&&litsBs ds
def Ft:DataW Unit->List Value
 | .lit (.bool b)=> [.bool b]
 | .lit (.int k n)=> [.int k n]
 | .lit (.string s)=> [.string ⟨⟨s⟩⟩]
 | .agg ds=>litCellss ds
 | _=> []
where litCellss:List (DataW Unit)->List Value
 | []=> []
 | d::ds=>Ft d++litCellss ds
theorem Bs2 {h:List (DataW Unit)}:Af2.litsBs h=true↔ ∀d∈h,Af2 d=true:=by
 induction h with
 | nil=>simp [Af2.litsBs]
 | cons d h ih=>simp [Af2.litsBs,ih]
theorem Ar3 (h:List (DataW Unit)):Ft.litCellss h=h.flatMap Ft:=by
 induction h with
 | nil=>rfl
 | cons d h ih=>simp [Ft.litCellss,ih]
theorem Dm1 {α:Type} (cs:List α) (off size:Nat->Nat): ∀(n:Nat),(∀j,j<n->off (j+1)=off j+size j)->off 0=0->off n<=cs.length->(List.range n).flatMap (fun j=>(cs.drop (off j)).take (size j))=cs.take (off n)
 | 0,_,h0,_=>by simp [h0]
 | n+1,h,h0,hn=>by
  have hs:=h n (by omega);rw[List.range_succ,List.flatMap_append,Dm1 cs off size n (fun j hj=>h j (by omega)) h0 (by omega),hs];simp only[List.flatMap_cons,List.flatMap_nil,jH];rw[List.take_add]
theorem Bs3 {α β:Type} (xs:List α) (g:α->List β) (f:Nat->List β) (n:Nat) (y:xs.length=n) (h: ∀(j:Nat) (x:α),xs[j]? =some x->f j=g x):(List.range n).flatMap f=xs.flatMap g:=by
 rw[List.flatMap_def,List.flatMap_def];congr 1;apply List.ext_getElem?;intro j;simp only[List.getElem?_map];by_cases hj:j<n
 ·rw[List.getElem?_eq_getElem (by omega:j<xs.length),List.getElem?_range hj];simp only[Option.map_some];rw[h j xs[j] (List.getElem?_eq_getElem (by omega))]
 ·rw[List.getElem?_eq_none (by omega:xs.length<=j),List.getElem?_eq_none (by simp;omega)];rfl
section
variable {P:Program} {w:World}
theorem Ax8 (hl:laidOutB P=true) {base:Nat} {U:Nat->Bool}: ∀(Fm:Nat) (t:TypeId) (cs:List Value) (d:DataW Unit) (V:List MemPlace),isVar P t=true->Af2 d=true->
  DataW.trod (fun _=>()) P w base U false Fm t cs=some (d,V)->cs=Ft d
 | 0,_,_,_,_,_,_,h=>by simp [DataW.trod] at h
 | Fm+1,t,cs,d,V,hv,hd,h=>by
  have ih:= @Ax8 hl base U Fm;have X:t<P.types.size:=by simp only[isVar,jF,decide_eq_true_eq] at hv;exact hv.1
  have D:=rowFine_of_laidOut hl X;simp only[rowFine,hv,Bool.not_true,Bool.false_or] at D;unfold DataW.trod at h;split at h<;>(try (simp at h;done))
  ·simp only[Option.some.injEq,Prod.mk.injEq] at h;obtain⟨rfl,rfl⟩:=h;rfl
  ·split at h
   ·rename_i hk
    obtain⟨rfl,_⟩:=hk;simp only[Option.some.injEq,Prod.mk.injEq] at h;obtain⟨rfl,rfl⟩:=h;rfl
   ·cases h
  ·split at h
   ·simp only[Option.some.injEq,Prod.mk.injEq] at h;obtain⟨rfl,rfl⟩:=h;cases hd
   ·cases h
  ·split at h
   ·simp only[Option.some.injEq,Prod.mk.injEq] at h;obtain⟨rfl,rfl⟩:=h;simp [Ft]
   ·cases h
  ·simp only[Option.some.injEq,Prod.mk.injEq] at h;obtain⟨rfl,rfl⟩:=h;cases hd
  ·simp only[Option.map_eq_some_iff,Prod.mk.injEq] at h;obtain⟨_,_,rfl,_⟩:=h;cases hd
  ·simp only[Option.some.injEq,Prod.mk.injEq] at h;obtain⟨rfl,rfl⟩:=h;cases hd
  ·dsimp only at h;split at h
   ·simp only[Option.bind_eq_some_iff,Option.map_eq_some_iff,Prod.mk.injEq] at h;obtain⟨_,_,_,_,rfl,_⟩:=h;cases hd
   ·cases h
  ·rename_i cs _ _ fs hu
   rw[hu] at D;simp only[jF,beq_iff_eq,List.all_eq_true] at D;obtain⟨⟨hf,E⟩,Y⟩:=D;split at h
   ·rename_i I
    simp only[Option.map_eq_some_iff,Prod.mk.injEq] at h;obtain⟨xs,hx,rfl,rfl⟩:=h;obtain⟨L,O⟩:=Bs1 hx;simp only[Af2,Bs2] at hd;have key: ∀(j:Nat) (f:Field) (x:DataW Unit×List MemPlace),fs.toList[j]? =some f->xs[j]? =some x->(cs.drop f.offset).take (P.cellsOf f.type)=Ft x.1:=by
     intro j f x W C;obtain⟨y,J,S⟩:=O j f W;rw[C] at J;cases J;exact ih _ _ x.1 x.2 (hf f (List.mem_of_getElem? W)) (hd _ (List.mem_map.2 ⟨x,List.mem_of_getElem? C,rfl⟩)) S
    have hp:=Dm1 cs (fun j=>((fs.toList.take j).map fun f=>P.cellsOf f.type).sum) (fun j=>(fs.toList[j]?).elim 0 fun f=>P.cellsOf f.type) fs.toList.length (fun j hj=>by
     rw[List.take_succ_eq_append_getElem hj];simp [List.getElem?_eq_getElem hj]) (by simp) (by rw[List.take_length,I,E];omega)
    simp only[List.take_length,<-E,<-I] at hp;rw[<-hp];simp only[Ft,Ar3,List.flatMap_map];refine Bs3 xs _ _ _ L fun j x C=> ?_;have Z:j<xs.length:=(List.getElem?_eq_some_iff.1 C).1;have M:j<fs.toList.length:=by omega
    have h1:=Y j (List.mem_range.2 M);rw[List.getElem?_eq_getElem M] at h1;simp only[beq_iff_eq] at h1;have h2:=key j fs.toList[j] x (List.getElem?_eq_getElem M) C;rw[h1] at h2;simp only[List.getElem?_eq_getElem M,Option.elim_some];exact h2
   ·cases h
  ·rename_i cs _ _ n e hu
   rw[hu] at D;simp only[jF,beq_iff_eq] at D;obtain⟨hf,E⟩:=D;split at h
   ·rename_i I
    simp only[Option.map_eq_some_iff,Prod.mk.injEq] at h;obtain⟨xs,hx,rfl,rfl⟩:=h;obtain⟨L,O⟩:=Bs1 hx;rw[List.length_range] at L;simp only[Af2,Bs2] at hd;have hp:=Dm1 cs (fun j=>j*P.cellsOf e) (fun _=>P.cellsOf e) n (fun j _=>Nat.succ_mul j _) (by simp) (by rw[I,E];exact Nat.le_refl _);rw[List.take_of_length_le (by rw[I,E];exact Nat.le_refl _)] at hp;rw[<-hp];simp only[Ft,Ar3,List.flatMap_map];refine Bs3 xs _ _ _ L fun j x C=> ?_;have Z:j<xs.length:=(List.getElem?_eq_some_iff.1 C).1;obtain⟨y,J,S⟩:=O j j (by rw[List.getElem?_range (by omega)]);rw[C] at J;cases J;exact ih _ _ _ _ hf (hd _ (List.mem_map.2 ⟨x,List.mem_of_getElem? C,rfl⟩)) S
   ·cases h
  ·simp only[Option.some.injEq,Prod.mk.injEq] at h;obtain⟨rfl,rfl⟩:=h;cases hd
  ·split at h
   ·rename_i e;cases e
   ·simp only[Option.map_eq_some_iff,Prod.mk.injEq] at h;obtain⟨_,_,rfl,_⟩:=h;cases hd
   ·cases h
  ·simp only[Option.some.injEq,Prod.mk.injEq] at h;obtain⟨rfl,rfl⟩:=h;cases hd
  ·split at h
   ·dsimp only at h;split at h
    ·simp only[Option.bind_eq_some_iff] at h;obtain⟨_,_,h⟩:=h;split at h
     ·simp only[Option.some.injEq,Prod.mk.injEq] at h;obtain⟨rfl,rfl⟩:=h;cases hd
     ·cases h
    ·cases h
   ·cases h
  ·simp only[Option.some.injEq,Prod.mk.injEq] at h;obtain⟨rfl,rfl⟩:=h;cases hd
  ·simp only[Option.some.injEq,Prod.mk.injEq] at h;obtain⟨rfl,rfl⟩:=h;cases hd
  ·simp only[Option.some.injEq,Prod.mk.injEq] at h;obtain⟨rfl,rfl⟩:=h;cases hd
theorem Cj7: ∀ {laid:List (String×DataW Unit)} {n:String} {d:DataW Unit},laidMet P laid w->(n,d)∈laid->
  ∃g t cs Fm p,P.globalNamed n=some g/\(P.globals[g]?).map (·.type)=some t/\w.var? P n=some cs/\DataW.trod (fun _=>()) P w 0 (fun _=>true) false Fm t cs.toList=some (d,p)/\
   ∀u v,w.cell? ⟨g,0,none⟩=some (.iface u v)->0<cs.size->Value.okWide P w .any 0 u v
 | [],_,_,_,hm=>by cases hm
 | x::laid,n,d,h,hm=>by
  rcases List.mem_cons.1 hm with rfl | hm
  ·obtain⟨ps,⟨g,t,cs,Fm,p,q,h1,h2,h3,h4,h5,h6⟩,_,h8⟩:=h;refine⟨g,t,cs,Fm,p,h1,h2,h3,h4,fun u v hc hz=>(h8 g 0 ?_).2 u v hc⟩;rw[h6];refine List.mem_append_left _ (List.mem_append_left _ ?_);unfold MemPlace.row;exact List.mem_map.2 ⟨0,List.mem_range.2 hz,by simp⟩
  ·exact Cj7 h.tail hm
def Gp1 (v:Value):Prop:=(∃b,v= .bool b)\/(∃k n,v= .int k n)\/ ∃s:List UInt8,v= .string ⟨⟨s⟩⟩
mutual
theorem Cx7: ∀(d:DataW Unit),Af2 d=true-> ∀v∈Ft d,Gp1 v
 | .lit (.bool b),_,v,hv=>by simp [Ft] at hv;exact .inl ⟨b,hv⟩
 | .lit (.int k n),_,v,hv=>by simp [Ft] at hv;exact .inr (.inl ⟨k,n,hv⟩)
 | .lit (.string s),_,v,hv=>by simp [Ft] at hv;exact .inr (.inr ⟨s,hv⟩)
 | .agg ds,h,v,hv=>Ca3 ds (by simpa [Af2] using h) v (by simpa [Ft] using hv)
 | .lit (.float _ _),h,_,_=>by cases h
 | .nil,h,_,_=>by cases h
 | .ptr _,h,_,_=>by cases h
 | .slice _ _,h,_,_=>by cases h
 | .iface _ _,h,_,_=>by cases h
 | .map _,h,_,_=>by cases h
 | .held _,h,_,_=>by cases h
theorem Ca3: ∀(y:List (DataW Unit)),Af2.litsBs y=true-> ∀v∈Ft.litCellss y,Gp1 v
 | [],_,v,hv=>by simp [Ft.litCellss] at hv
 | d::y,h,v,hv=>by
  simp only[Af2.litsBs,jF] at h
  simp only[Ft.litCellss,List.mem_append] at hv
  rcases hv with hv | hv
  ·exact Cx7 d h.1 v hv
  ·exact Ca3 y h.2 v hv
end
theorem Ff1 {y:Ac}: ∀(d:DataW Unit),Af2 d=true->Az w y (Ix (Ft d)) (Ft d):=by
 have all: ∀(vs:List Value),(∀v∈vs,(∃b,v= .bool b)\/(∃k n,v= .int k n)\/ ∃s:List UInt8,v= .string ⟨⟨s⟩⟩)->Az w y (Ix vs) vs:=by
  intro vs
  induction vs with
  | nil=>intro _;simp [Ix,Az]
  | cons v vs ih=>
   intro h;simp only[Ix,Az];refine⟨v,vs,rfl, ?_,ih fun x hx=>h x (by simp [hx])⟩;rcases h v (by simp) with⟨b,rfl⟩ | ⟨k,n,rfl⟩ | ⟨s,rfl⟩<;>simp [Fe,Rel]
 exact fun d h=>all _ (Cx7 d h)
theorem Ff2 {laid:List (String×DataW Unit)} {n:String} {d:DataW Unit} {g:Nat} (hl:laidOutB P=true) (h:laidMet P laid w) (hm:(n,d)∈laid) (y:Af2 d=true) (C:P.globalNamed n=some g)
  (D:isVar P (((P.globals[g]?).map (·.type)).getD 0)=true):Rel w (fun _=>none) (.vptr (Ix (Ft d)) 0) (.pointer (some ⟨g,0,none⟩)):=by
 obtain⟨E,t,cs,Fm,p,h1,h2,h3,h4,_⟩:=Cj7 h hm;rw[C] at h1;cases h1;rw[h2] at D;have hc:=Ax8 hl Fm t cs.toList d p D y h4;simp only[Rel];refine⟨g,0,cs.toList,rfl, ?_,by rw[hc];exact Ff1 d y⟩;refine .inr ⟨rfl,fun i x hx=> ?_⟩;have:=World.var?_cell C h3 i;rw[Nat.zero_add,this];simpa using hx
end
def Wk:List MemPlace->Nat->Bool
 | [],_=>true
 | .cell b off::l,m=>decide (off<1024)&&!(m.testBit (b*1024+off))&&Wk l (m ||| 1<<<(b*1024+off))
 | .map _::_,_=>false
theorem Dt3 {m k n:Nat} (h:(m ||| 1<<<k).testBit n=false):m.testBit n=false/\n≠k:=by
 rw[Nat.testBit_or,Bool.or_eq_false_iff] at h;refine⟨h.1,fun e=> ?_⟩;subst e;have:=h.2;rw[Nat.testBit_shiftLeft] at this;simp at this
theorem Ar4: ∀(l:List MemPlace) (m:Nat),Wk l m=true->l.Nodup/\ ∀p∈l,∃b off,p= .cell b off/\off<1024/\m.testBit (b*1024+off)=false
 | [],_,_=>⟨List.nodup_nil,fun p hp=>by cases hp⟩
 | .map _::_,_,h=>by simp [Wk] at h
 | .cell b off::l,m,h=>by
  simp only[Wk,jF,decide_eq_true_eq,Bool.not_eq_true'] at h;obtain⟨⟨h1,h2⟩,h3⟩:=h;obtain⟨k1,y⟩:=Ar4 l _ h3;refine⟨List.nodup_cons.2 ⟨fun hm=> ?_,k1⟩,fun p hp=> ?_⟩
  ·obtain⟨b',C,e,_,h5⟩:=y _ hm;cases e;exact(Dt3 h5).2 rfl
  ·rcases List.mem_cons.1 hp with rfl | hp
   ·exact⟨b,off,rfl,h1,h2⟩
   ·obtain⟨b',C,e,h4,h5⟩:=y _ hp;exact⟨b',C,e,h4,(Dt3 h5).1⟩
theorem Cj8 {P:Program} {w:World} {l:List (String×DataW Unit)} (Fm:Nat) (h:(DataW.laidRun P w Fm (l.map (·.1))).map (·.1)=some l)
  (hr:(DataW.laidRun P w Fm (l.map (·.1))).map (fun x=>Wk x.2 0&&laidRowsB P w x.2)=some true):laidMet P l w:=by
 cases hx:DataW.laidRun P w Fm (l.map (·.1)) with
 | none=>simp [hx] at h
 | some x=>
  obtain⟨l',ps⟩:=x;simp only[hx,Option.map_some,Option.some.injEq] at h hr;subst h;simp only[jF] at hr;exact laidMet_of_run Fm hx (decide_eq_true (Ar4 _ _ hr.1).1) hr.2
end Go.Dl
-- Chapter 3: the reading of the package's 
namespace Go.Dl
open Go Go.RowKit Go.Proofs Go.Proofs.YtddbdpcgikmiaaaGreatDoor
set_option maxRecDepth 100000
theorem Dt4:laidOutB Tryz.prog=true:=by kernel_rfl
theorem Dm2 {P:Program} {w:World} {laid:List (String×DataW Unit)} {n:String} {d:DataW Unit} {g:Nat} (hl:laidOutB P=true) (h:laidMet P laid w) (hm:(n,d)∈laid) (D:Af2 d=true) (y:P.globalNamed n=some g)
  (C:isVar P (((P.globals[g]?).map (·.type)).getD 0)=true):Pk w.heap[g]? =some (Ft d).length:=by
 obtain⟨E,t,cs,Fm,p,h1,h2,h3,h4,_⟩:=Cj7 h hm;rw[y] at h1;cases h1;rw[h2] at C;have hc:=Ax8 hl Fm t cs.toList d p C D h4;unfold World.var? at h3;rw[y] at h3;simp only[Option.bind_some] at h3;split at h3
 ·rename_i c t' fz ho
  cases h3;rw[ho];simp only[Pk,Option.some.injEq];rw[<-hc,Array.length_toList]
 ·cases h3
theorem Af3: ∀l:List Value,(Ix l).length=l.length
 | []=>rfl
 | _::l=>by simp [Ix,Af3 l]
theorem Fv1:Ix (Ft Rows.laid_strings_asciiSpace)=Lib.asciiSpaceTab.map fun z=>DVal.int .u8 z:=by kernel_rfl
section
end
noncomputable def Gp2 (h:Array Obj) (g:Nat) (cs:Array Value):Array Obj:=h.modify g fun
 | .cells _ t frozen=> .cells cs t frozen
 | o=>o
theorem Gp3 {laid:List (String×DataW Unit)} {W:World} (h:laidMetH Tryz.prog laid W) (hs:W.ShapedOpen Tryz.prog) (hh:(laid.filter fun x=>x.2.handleName?.isSome)= [])
  (y:("strings.asciiSpace",Rows.laid_strings_asciiSpace)∈laid): ∃G,GX G/\GOk G W (fun _=>none):=by
 have C:laidMet Tryz.prog laid W:=by
  unfold laidMetH at h;rw[hh] at h;exact h
 have D:=Ff2 Dt4 C y (by kernel_rfl) (show Tryz.prog.globalNamed "strings.asciiSpace" =some 1 by kernel_rfl) (by kernel_rfl);have E:=Dm2 Dt4 C y (by kernel_rfl) (show Tryz.prog.globalNamed "strings.asciiSpace" =some 1 by kernel_rfl) (by kernel_rfl);refine⟨fun g=>if g=1 then .vptr (Ix (Ft Rows.laid_strings_asciiSpace)) 0 else .optr g 0,⟨by simp [Fv1]⟩,⟨fun g=> ?_,fun g cs e=> ?_⟩⟩
 ·show Rel W _ (if g=_ then _ else _) _;split
  ·rename_i e;subst e;exact D
  ·simp [Rel]
 ·change (if g=_ then _ else _)=_ at e;split at e
  ·rename_i e';subst e';cases e;rw[E,Af3]
  ·cases e
noncomputable def Cj9 (os:Os):World:=
 let N:=(World.settled Tryz.prog os).heap.size
 let w0:=World.holding Tryz.prog os ⟨#[.cells #[.slice (some ⟨N+1,0,none⟩) 7 7, .slice none 0 0, .int .i64 2] 344,
  .cells (#[9,13,1,32,133,101,160,5760,5600,8192,8202,1,8232,8233,1,8239,8287,48,12288,12288,1].map (Value.int .u16)) 347], #[],[]⟩
 let h9:=Gp2 w0.heap 1 (Ft Rows.laid_strings_asciiSpace).toArray
 let ha:=Gp2 h9 2 #[.pointer (some ⟨N,0,none⟩)]
 { w0 with heap:=ha }
section
end
end Go.Dl
