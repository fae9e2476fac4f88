/- The data level and the contracts of the functions that are reached (part 11). -/
import Derived.Test.YtlahodmjhbpfiaaGreatDoorPuj
set_option linter.unusedSimpArgs false
set_option linter.unusedVariables false
set_option linter.unusedSectionVars false
-- Chapter 4: the function ParamTokens of package shape (printed by gen_tj.py).
namespace Go.Dl
open Go Go.Proofs
set_option maxRecDepth 100000
theorem St.putn {G:Nat->DVal} {B0 B K:Ab} {r:Nat} {ts:List Tok} (h:St B0 B r ts K) (hG:GX G) (hlen:ts.length<=1000000000):Ae Tryz.prog G 114 [.optr r 0, .nilSlice] K (fun e K'=>e= .ret (.optr r 0)/\St B0 B r ts K'):=by
 have h1:=Yr hG [] B r ts K h.hr (by simpa using hlen) h.hw;refine(Px.call (Sub.refl K) (.cons (.keep (Sub.refl K) _) (.cons (Qg.nil (Sub.refl K)) .nil)) h1).mono ?_;rintro e H' ⟨h2,h3⟩;exact⟨h2,by simpa using h3,h.hr,h.hs⟩
section
variable {G:Nat->DVal}
theorem Ey4 {l:List Par} (hm:l.all Fm=true) {n:Nat} (hn:Ms l<=n):l.length<=n:=by
 have key: ∀l:List Par,(∀x∈l,Fm x=true)->l.length<=Ms l:=by
  intro l
  induction l with
  | nil=>intro _;exact Nat.le_refl _
  | cons x l ih=>
   intro h;have h1:=ih fun y hy=>h y (List.mem_cons_of_mem _ hy);have h2:=(Na (h x (List.mem_cons_self ..))).1;rw[Fb,jF,jF,decide_eq_true_eq] at h2;have h3:=h2.1.2;have e:Ms (x::l)=x.names.length+Ms l:=by simp [Ms]
   rw[e,jA];omega
 exact Nat.le_trans (key l (List.all_eq_true.1 hm)) hn
theorem Cv5 {p:Par} (h:Fm p=true):p.mode=1\/p.mode=2\/p.mode=3:=by
 simp only[Fm,jF,decide_eq_true_eq] at h;obtain⟨⟨⟨-,h1⟩,h2⟩,-⟩:=h;omega
set_option maxHeartbeats 40000000 in
theorem Ah0 (hG:GX G) (H:Ab) (l:List Par) (hl:Hf Xr 1048576 l):Ae Tryz.prog G 29 [Cj l] H (Ba (.tuple [Aq (Ar0 l).1,dI (Ar0 l).2]) H):=by
 rw[Ar0];refine Aa Tryz.func29 Tryz.call29 rfl (by kernel_rfl) ?_;simp(disch:=omega)only[go_sem];refine Ae.monoR (Bb3 hG H l hl) ?_;cases hm:Hx l
 ·simp(disch:=omega)only[go_sem];exact Qg.fin (Sub.refl H) (Qg.tuple (.cons (Qg.nil (Sub.refl H)) (Px.keep (Sub.refl H) _))) ⟨rfl,rfl⟩
 have hm':=hm;rw[Hx,jF,decide_eq_true_eq] at hm';have hl8:=Ey4 hm'.1 hm'.2;have hma:=List.all_eq_true.1 hm'.1;simp(disch:=omega)only[go_sem];intro rm hrm;dsimp only at hrm;simp(disch:=omega)only[go_sem];intro m1 hm1;dsimp only at hm1;have n1:rm≠m1:=Am hm1 (Ac _ _ _);have n1':=n1.symm;simp(disch:=omega)only[go_sem,n1,n1'];intro m2 hm2;dsimp only at hm2;have n2:rm≠m2:=Am hm2 (Ac _ _ _);have n2':=n2.symm;have n3:m1≠m2:=Am hm2 (Ph (Ac _ _ _) n1');have n3':=n3.symm;simp(disch:=omega)only[go_sem,n1,n1',n2,n2',n3,n3'];intro rw hrw;dsimp only at hrw;have k1:H m1=none:=by rw[Em _ _ _ _ n1'] at hm1;exact hm1
 have k2:H m2=none:=by rw[Em _ _ _ _ n2',Em _ _ _ _ n3',Em _ _ _ _ n2'] at hm2;exact hm2
 obtain⟨Hm,hHm⟩: ∃X,X=upd (upd (upd (upd (upd H rm (some (.map []))) m1 (some (.cells [.str [111,117,116]] 9))) rm (some (.map [(.int .u8 2, .oslice 1 m1 0 1 1)]))) m2 (some (.cells [.str [105,110], .str [111,117,116]] 9))) rm (some (.map [(.int .u8 2, .oslice 1 m1 0 1 1),(.int .u8 3, .oslice 1 m2 0 2 2)])):=⟨_,rfl⟩;rw[<-hHm] at hrw;have sm:Sub H Hm:=by rw[hHm];exact(((((Sub.refl H).up hrm _).up k1 _).up hrm _).up k2 _).up hrm _
 have gmm:Hm rm=some (.map [(.int .u8 2, .oslice 1 m1 0 1 1),(.int .u8 3, .oslice 1 m2 0 2 2)]):=by rw[hHm];exact Ac _ _ _
 have gm2:Hm m2=some (.cells [.str [105,110], .str [111,117,116]] 9):=by rw[hHm];exact Ph (Ac _ _ _) n2'
 have gm1:Hm m1=some (.cells [.str [111,117,116]] 9):=by rw[hHm];exact Ph (Ph (Ph (Ac _ _ _) n1') n3) n1'
 have hw0:=SAt.start hrw;clear hm1 hm2;simp(disch:=omega)only[go_sem,n1,n1',n2,n2',n3,n3',Cj];rw[<-hHm];clear hHm;obtain⟨I,hI⟩: ∃I:Nat->(Nat->DVal)->Ab->Prop,∀k env heap,I k env heap↔(env 4= .omap rm/\env 5= .optr rw 0/\env 17=Cj l/\env 18=dI l.length/\env 19=dI k/\k<=l.length/\SAt Hm rw (Ji (l.take k)) heap):=⟨_,fun _ _ _=>Iff.rfl⟩;refine Dt1.run I (fun k=>l.length-k) 0 ((hI _ _ _).2 ?_) ?_
 ·simp(disch:=omega)only[go_sem,Cj];(repeat' apply And.intro)<;>(try first | rfl | assumption | omega)
 ·intro k env heap hi;obtain⟨e4,e5,e17,e18,e19,hk,hwk⟩:=(hI _ _ _).1 hi;have hfl:=Al An l;by_cases hlt:k<l.length
  ·have hlt':(k:Int)<(l.length:Int):=by omega
   have hw1:IntKind.i64.wrap ((k:Int)+1)=((k+1:Nat):Int):=by rw[IntKind.wrap_i64];omega
   have mx:=List.getElem_mem hlt;have hle:=Ag4 hma k hk;have Aw:=Bu An l k hlt;have htk0:k=0->Ji (l.take (k+1))=Kn l[k]:=by intro h;subst h;exact Am0 hlt
   have htk1:0<k->Ji (l.take (k+1))=Ji (l.take k)++Aj Ew::Kn l[k]:=fun h=>Ab4 hlt h;have hn0:k=0->Ji (l.take k)= []:=by intro h;subst h;rfl
   obtain⟨x,hx⟩: ∃x,x=l[k]:=⟨_,rfl⟩;rw[<-hx] at Aw mx htk0 htk1;obtain⟨o1,o2,o3⟩:=Na (hma x mx);have hmk:=Cv5 (hma x mx);obtain⟨f0,f1,f2⟩:=hl.2 x mx;have hml:=Hw o2;have hdl:=Su o3;have hnl:=Iy o1;simp(disch:=omega)only[go_sem,e4,e5,e17,e18,e19,Cj,hlt',Aw,hfl,jD];intro r7 hr7;dsimp only at hr7;have hw7:=hwk.frame hr7 (.cells (Lc x) 97);have z7:Hm r7=none:=(hwk.lo hr7).1;have n7:r7≠rw:=(hwk.lo hr7).2;obtain⟨B0,hX⟩: ∃X,X=upd Hm r7 (some (.cells (Lc x) 97)):=⟨_,rfl⟩;have b7:B0 r7=some (.cells (Lc x) 97):=by rw[hX];exact Ac _ _ _
   have sB0:Sub Hm B0:=by rw[hX];exact(Sub.refl _).up z7 _
   have rB0:B0 rw=none:=by rw[hX,Em _ _ _ _ n7.symm];exact hrw
   have bm:=sB0 _ _ gmm;have bm1:=sB0 _ _ gm1;have bm2:=sB0 _ _ gm2;obtain⟨K0,hX7⟩: ∃X,X=upd heap r7 (some (.cells (Lc x) 97)):=⟨_,rfl⟩;rw[<-hX,<-hX7] at hw7;clear hX;by_cases k0:k=0
   ·have k0': ¬(0:Int)<(k:Int):=by omega
    have htk:Ji (l.take (k+1))= []++Kn x:=htk0 k0;obtain⟨ts0,hts⟩: ∃ts0:List Tok,ts0= []:=⟨_,rfl⟩;rw[hn0 k0,<-hts] at hw7;rw[<-hts] at htk;have hlen:ts0.length<=100000:=by rw[hts];simp
    clear hts htk0 htk1 hn0;simp(disch:=omega)only[go_sem,e4,e5,e17,e18,e19,k0'];rw[<-hX7];clear hX7;have h:St B0 B0 rw ts0 K0:=⟨hw7,rB0,Sub.refl B0⟩;have g7:=h.g b7;have gm:=h.g bm;rcases hmk with hk | hk | hk
    ·have hmo:Gv x.mode= []:=by rw[Gv,if_neg (by omega),if_neg (by omega)]
     refine Ak (by kernel_rfl) pL1 (by kernel_rfl) ?_;simp(disch:=omega)only[go_sem,g7,gm,hk,e4,e5,e17,e18,e19,An,Ce,Cf,Cg,Bn]
     repeat'
      first
      | with_reducible apply And.intro
      |with_reducible show Ae _ _ 115 _ _ _
       have p7:=h.g b7;have pm:=h.g bm;refine(h.call (Ia hG x.names (by omega)) (by(try simp only[jC,jA,jB,jK,jN,jP,List.length_flatMap] at hlen⊢)<;>omega)).mono ?_;rintro _ Kw ⟨rfl,h⟩;try simp(disch:=omega)only[go_sem,p7,pm,h.g b7,h.g bm,hk,e4,e5,e17,e18,e19,An,Ce,Cf,Cg,Bn]
      |with_reducible show Ae _ _ 144 _ _ _
       have p7:=h.g b7;have pm:=h.g bm;refine(h.call (Dn hG x.type o2 f1.fitx) (by(try simp only[jC,jA,jB,jK,jN,jP,List.length_flatMap] at hlen⊢)<;>omega)).mono ?_;rintro _ Kw ⟨rfl,h⟩;try simp(disch:=omega)only[go_sem,p7,pm,h.g b7,h.g bm,hk,e4,e5,e17,e18,e19,An,Ce,Cf,Cg,Bn]
      |with_reducible show Ae _ _ 145 _ _ _
       have p7:=h.g b7;have pm:=h.g bm;refine(h.call (Jk hG x.e o3 f2) (by(try simp only[jC,jA,jB,jK,jN,jP,List.length_flatMap] at hlen⊢)<;>omega)).mono ?_;rintro _ Kw ⟨rfl,h⟩;try simp(disch:=omega)only[go_sem,p7,pm,h.g b7,h.g bm,hk,e4,e5,e17,e18,e19,An,Ce,Cf,Cg,Bn]
      |with_reducible show Ae _ _ 114 _ _ _
       have p7:=h.g b7;have pm:=h.g bm;refine(h.put hG [Dr] bqa (by(try simp only[jC,jA,jB,jK,jN,jP,List.length_flatMap] at hlen⊢)<;>omega)).mono ?_;rintro _ Kw ⟨rfl,h⟩;try simp(disch:=omega)only[go_sem,p7,pm,h.g b7,h.g bm,hk,e4,e5,e17,e18,e19,An,Ce,Cf,Cg,Bn]
      |with_reducible show Ae _ _ 114 _ _ _
       have p7:=h.g b7;have pm:=h.g bm;refine(h.putn hG (by(try simp only[jC,jA,jB,jK,jN,jP,List.length_flatMap] at hlen⊢)<;>omega)).mono ?_;rintro _ Kw ⟨rfl,h⟩;try simp(disch:=omega)only[go_sem,p7,pm,h.g b7,h.g bm,hk,e4,e5,e17,e18,e19,An,Ce,Cf,Cg,Bn]
      |refine⟨k+1,_,Ws.refl _,(hI _ _ _).2 ?_,by omega⟩
       simp(disch:=omega)only[go_sem,e4,e5,e17,e18,e19,hw1];(repeat' apply And.intro)<;>(try first | rfl | assumption | omega);rw[htk];have hz:=(h.hw.less h.hs).less sB0;simpa [Kn,hmo] using hz
      |intro qa hqa;dsimp only at hqa
       have p7:=h.g b7;have pm:=h.g bm;obtain⟨Bw,Kw,ew,h,sw,bqa⟩:=h.new hqa (.cells [.str [58]] 9);rw[ew];replace b7:=sw _ _ b7;replace bm:=sw _ _ bm;replace bm1:=sw _ _ bm1;replace bm2:=sw _ _ bm2;try simp(disch:=omega)only[go_sem,p7,pm,h.g b7,h.g bm,hk,e4,e5,e17,e18,e19,An,Ce,Cf,Cg,Bn]
    ·have hmo:Gv x.mode= [Aj Md]:=by rw[Gv,if_pos hk]
     refine Ak (by kernel_rfl) pL1 (by kernel_rfl) ?_;simp(disch:=omega)only[go_sem,g7,gm,hk,e4,e5,e17,e18,e19,An,Ce,Cf,Cg,Bn]
     repeat'
      first
      | with_reducible apply And.intro
      |with_reducible show Ae _ _ 115 _ _ _
       have p7:=h.g b7;have pm:=h.g bm;refine(h.call (Ia hG x.names (by omega)) (by(try simp only[jC,jA,jB,jK,jN,jP,List.length_flatMap] at hlen⊢)<;>omega)).mono ?_;rintro _ Kw ⟨rfl,h⟩;try simp(disch:=omega)only[go_sem,p7,pm,h.g b7,h.g bm,hk,e4,e5,e17,e18,e19,An,Ce,Cf,Cg,Bn]
      |with_reducible show Ae _ _ 144 _ _ _
       have p7:=h.g b7;have pm:=h.g bm;refine(h.call (Dn hG x.type o2 f1.fitx) (by(try simp only[jC,jA,jB,jK,jN,jP,List.length_flatMap] at hlen⊢)<;>omega)).mono ?_;rintro _ Kw ⟨rfl,h⟩;try simp(disch:=omega)only[go_sem,p7,pm,h.g b7,h.g bm,hk,e4,e5,e17,e18,e19,An,Ce,Cf,Cg,Bn]
      |with_reducible show Ae _ _ 145 _ _ _
       have p7:=h.g b7;have pm:=h.g bm;refine(h.call (Jk hG x.e o3 f2) (by(try simp only[jC,jA,jB,jK,jN,jP,List.length_flatMap] at hlen⊢)<;>omega)).mono ?_;rintro _ Kw ⟨rfl,h⟩;try simp(disch:=omega)only[go_sem,p7,pm,h.g b7,h.g bm,hk,e4,e5,e17,e18,e19,An,Ce,Cf,Cg,Bn]
      |with_reducible show Ae _ _ 114 _ _ _
       have p7:=h.g b7;have pm:=h.g bm;refine(h.put hG [Dr] bqa (by(try simp only[jC,jA,jB,jK,jN,jP,List.length_flatMap] at hlen⊢)<;>omega)).mono ?_;rintro _ Kw ⟨rfl,h⟩;try simp(disch:=omega)only[go_sem,p7,pm,h.g b7,h.g bm,hk,e4,e5,e17,e18,e19,An,Ce,Cf,Cg,Bn]
      |with_reducible show Ae _ _ 114 _ _ _
       have p7:=h.g b7;have pm:=h.g bm;refine(h.put hG [Md] bm1 (by(try simp only[jC,jA,jB,jK,jN,jP,List.length_flatMap] at hlen⊢)<;>omega)).mono ?_;rintro _ Kw ⟨rfl,h⟩;try simp(disch:=omega)only[go_sem,p7,pm,h.g b7,h.g bm,hk,e4,e5,e17,e18,e19,An,Ce,Cf,Cg,Bn]
      |refine⟨k+1,_,Ws.refl _,(hI _ _ _).2 ?_,by omega⟩
       simp(disch:=omega)only[go_sem,e4,e5,e17,e18,e19,hw1];(repeat' apply And.intro)<;>(try first | rfl | assumption | omega);rw[htk];have hz:=(h.hw.less h.hs).less sB0;simpa [Kn,hmo] using hz
      |intro qa hqa;dsimp only at hqa
       have p7:=h.g b7;have pm:=h.g bm;obtain⟨Bw,Kw,ew,h,sw,bqa⟩:=h.new hqa (.cells [.str [58]] 9);rw[ew];replace b7:=sw _ _ b7;replace bm:=sw _ _ bm;replace bm1:=sw _ _ bm1;replace bm2:=sw _ _ bm2;try simp(disch:=omega)only[go_sem,p7,pm,h.g b7,h.g bm,hk,e4,e5,e17,e18,e19,An,Ce,Cf,Cg,Bn]
      |refine⟨_,rfl, ?_⟩
       try simp(disch:=omega)only[go_sem,p7,pm,h.g b7,h.g bm,hk,e4,e5,e17,e18,e19,An,Ce,Cf,Cg,Bn]
    ·have hmo:Gv x.mode= [Aj wIn,Aj Md]:=by rw[Gv,if_neg (by omega),if_pos hk]
     refine Ak (by kernel_rfl) pL1 (by kernel_rfl) ?_;simp(disch:=omega)only[go_sem,g7,gm,hk,e4,e5,e17,e18,e19,An,Ce,Cf,Cg,Bn]
     repeat'
      first
      | with_reducible apply And.intro
      |with_reducible show Ae _ _ 115 _ _ _
       have p7:=h.g b7;have pm:=h.g bm;refine(h.call (Ia hG x.names (by omega)) (by(try simp only[jC,jA,jB,jK,jN,jP,List.length_flatMap] at hlen⊢)<;>omega)).mono ?_;rintro _ Kw ⟨rfl,h⟩;try simp(disch:=omega)only[go_sem,p7,pm,h.g b7,h.g bm,hk,e4,e5,e17,e18,e19,An,Ce,Cf,Cg,Bn]
      |with_reducible show Ae _ _ 144 _ _ _
       have p7:=h.g b7;have pm:=h.g bm;refine(h.call (Dn hG x.type o2 f1.fitx) (by(try simp only[jC,jA,jB,jK,jN,jP,List.length_flatMap] at hlen⊢)<;>omega)).mono ?_;rintro _ Kw ⟨rfl,h⟩;try simp(disch:=omega)only[go_sem,p7,pm,h.g b7,h.g bm,hk,e4,e5,e17,e18,e19,An,Ce,Cf,Cg,Bn]
      |with_reducible show Ae _ _ 145 _ _ _
       have p7:=h.g b7;have pm:=h.g bm;refine(h.call (Jk hG x.e o3 f2) (by(try simp only[jC,jA,jB,jK,jN,jP,List.length_flatMap] at hlen⊢)<;>omega)).mono ?_;rintro _ Kw ⟨rfl,h⟩;try simp(disch:=omega)only[go_sem,p7,pm,h.g b7,h.g bm,hk,e4,e5,e17,e18,e19,An,Ce,Cf,Cg,Bn]
      |with_reducible show Ae _ _ 114 _ _ _
       have p7:=h.g b7;have pm:=h.g bm;refine(h.put hG [Dr] bqa (by(try simp only[jC,jA,jB,jK,jN,jP,List.length_flatMap] at hlen⊢)<;>omega)).mono ?_;rintro _ Kw ⟨rfl,h⟩;try simp(disch:=omega)only[go_sem,p7,pm,h.g b7,h.g bm,hk,e4,e5,e17,e18,e19,An,Ce,Cf,Cg,Bn]
      |with_reducible show Ae _ _ 114 _ _ _
       have p7:=h.g b7;have pm:=h.g bm;refine(h.put hG [wIn,Md] bm2 (by(try simp only[jC,jA,jB,jK,jN,jP,List.length_flatMap] at hlen⊢)<;>omega)).mono ?_;rintro _ Kw ⟨rfl,h⟩;try simp(disch:=omega)only[go_sem,p7,pm,h.g b7,h.g bm,hk,e4,e5,e17,e18,e19,An,Ce,Cf,Cg,Bn]
      |refine⟨k+1,_,Ws.refl _,(hI _ _ _).2 ?_,by omega⟩
       simp(disch:=omega)only[go_sem,e4,e5,e17,e18,e19,hw1];(repeat' apply And.intro)<;>(try first | rfl | assumption | omega);rw[htk];have hz:=(h.hw.less h.hs).less sB0;simpa [Kn,hmo] using hz
      |intro qa hqa;dsimp only at hqa
       have p7:=h.g b7;have pm:=h.g bm;obtain⟨Bw,Kw,ew,h,sw,bqa⟩:=h.new hqa (.cells [.str [58]] 9);rw[ew];replace b7:=sw _ _ b7;replace bm:=sw _ _ bm;replace bm1:=sw _ _ bm1;replace bm2:=sw _ _ bm2;try simp(disch:=omega)only[go_sem,p7,pm,h.g b7,h.g bm,hk,e4,e5,e17,e18,e19,An,Ce,Cf,Cg,Bn]
      |refine⟨_,rfl, ?_⟩
       try simp(disch:=omega)only[go_sem,p7,pm,h.g b7,h.g bm,hk,e4,e5,e17,e18,e19,An,Ce,Cf,Cg,Bn]
   ·have k0':(0:Int)<(k:Int):=by omega
    have htk:Ji (l.take (k+1))=(Ji (l.take k)++ [Aj Ew])++Kn x:=by rw[htk1 (by omega)];simp
    simp(disch:=omega)only[go_sem,e4,e5,e17,e18,e19,k0'];rw[<-hX7];intro q0 hq0;dsimp only at hq0;simp(disch:=omega)only[go_sem,e4,e5,e17,e18,e19];refine(Wg hG Ew hq0 rB0 (by omega) hw7).mono ?_;rintro _ K0 ⟨rfl,hw7⟩;obtain⟨ts0,hts⟩: ∃ts0:List Tok,ts0=Ji (l.take k)++ [Aj Ew]:=⟨_,rfl⟩;rw[<-hts] at hw7 htk;have hlen:ts0.length<=100000:=by rw[hts,jC,jQ];omega
    clear hts htk0 htk1 hn0 hX7;simp(disch:=omega)only[go_sem,e4,e5,e17,e18,e19];have h:St B0 B0 rw ts0 K0:=⟨hw7,rB0,Sub.refl B0⟩;have g7:=h.g b7;have gm:=h.g bm;rcases hmk with hk | hk | hk
    ·have hmo:Gv x.mode= []:=by rw[Gv,if_neg (by omega),if_neg (by omega)]
     refine Ak (by kernel_rfl) pL1 (by kernel_rfl) ?_;simp(disch:=omega)only[go_sem,g7,gm,hk,e4,e5,e17,e18,e19,An,Ce,Cf,Cg,Bn]
     repeat'
      first
      | with_reducible apply And.intro
      |with_reducible show Ae _ _ 115 _ _ _
       have p7:=h.g b7;have pm:=h.g bm;refine(h.call (Ia hG x.names (by omega)) (by(try simp only[jC,jA,jB,jK,jN,jP,List.length_flatMap] at hlen⊢)<;>omega)).mono ?_;rintro _ Kw ⟨rfl,h⟩;try simp(disch:=omega)only[go_sem,p7,pm,h.g b7,h.g bm,hk,e4,e5,e17,e18,e19,An,Ce,Cf,Cg,Bn]
      |with_reducible show Ae _ _ 144 _ _ _
       have p7:=h.g b7;have pm:=h.g bm;refine(h.call (Dn hG x.type o2 f1.fitx) (by(try simp only[jC,jA,jB,jK,jN,jP,List.length_flatMap] at hlen⊢)<;>omega)).mono ?_;rintro _ Kw ⟨rfl,h⟩;try simp(disch:=omega)only[go_sem,p7,pm,h.g b7,h.g bm,hk,e4,e5,e17,e18,e19,An,Ce,Cf,Cg,Bn]
      |with_reducible show Ae _ _ 145 _ _ _
       have p7:=h.g b7;have pm:=h.g bm;refine(h.call (Jk hG x.e o3 f2) (by(try simp only[jC,jA,jB,jK,jN,jP,List.length_flatMap] at hlen⊢)<;>omega)).mono ?_;rintro _ Kw ⟨rfl,h⟩;try simp(disch:=omega)only[go_sem,p7,pm,h.g b7,h.g bm,hk,e4,e5,e17,e18,e19,An,Ce,Cf,Cg,Bn]
      |with_reducible show Ae _ _ 114 _ _ _
       have p7:=h.g b7;have pm:=h.g bm;refine(h.put hG [Dr] bqa (by(try simp only[jC,jA,jB,jK,jN,jP,List.length_flatMap] at hlen⊢)<;>omega)).mono ?_;rintro _ Kw ⟨rfl,h⟩;try simp(disch:=omega)only[go_sem,p7,pm,h.g b7,h.g bm,hk,e4,e5,e17,e18,e19,An,Ce,Cf,Cg,Bn]
      |with_reducible show Ae _ _ 114 _ _ _
       have p7:=h.g b7;have pm:=h.g bm;refine(h.putn hG (by(try simp only[jC,jA,jB,jK,jN,jP,List.length_flatMap] at hlen⊢)<;>omega)).mono ?_;rintro _ Kw ⟨rfl,h⟩;try simp(disch:=omega)only[go_sem,p7,pm,h.g b7,h.g bm,hk,e4,e5,e17,e18,e19,An,Ce,Cf,Cg,Bn]
      |refine⟨k+1,_,Ws.refl _,(hI _ _ _).2 ?_,by omega⟩
       simp(disch:=omega)only[go_sem,e4,e5,e17,e18,e19,hw1];(repeat' apply And.intro)<;>(try first | rfl | assumption | omega);rw[htk];have hz:=(h.hw.less h.hs).less sB0;simpa [Kn,hmo] using hz
      |intro qa hqa;dsimp only at hqa
       have p7:=h.g b7;have pm:=h.g bm;obtain⟨Bw,Kw,ew,h,sw,bqa⟩:=h.new hqa (.cells [.str [58]] 9);rw[ew];replace b7:=sw _ _ b7;replace bm:=sw _ _ bm;replace bm1:=sw _ _ bm1;replace bm2:=sw _ _ bm2;try simp(disch:=omega)only[go_sem,p7,pm,h.g b7,h.g bm,hk,e4,e5,e17,e18,e19,An,Ce,Cf,Cg,Bn]
    ·have hmo:Gv x.mode= [Aj Md]:=by rw[Gv,if_pos hk]
     refine Ak (by kernel_rfl) pL1 (by kernel_rfl) ?_;simp(disch:=omega)only[go_sem,g7,gm,hk,e4,e5,e17,e18,e19,An,Ce,Cf,Cg,Bn]
     repeat'
      first
      | with_reducible apply And.intro
      |with_reducible show Ae _ _ 115 _ _ _
       have p7:=h.g b7;have pm:=h.g bm;refine(h.call (Ia hG x.names (by omega)) (by(try simp only[jC,jA,jB,jK,jN,jP,List.length_flatMap] at hlen⊢)<;>omega)).mono ?_;rintro _ Kw ⟨rfl,h⟩;try simp(disch:=omega)only[go_sem,p7,pm,h.g b7,h.g bm,hk,e4,e5,e17,e18,e19,An,Ce,Cf,Cg,Bn]
      |with_reducible show Ae _ _ 144 _ _ _
       have p7:=h.g b7;have pm:=h.g bm;refine(h.call (Dn hG x.type o2 f1.fitx) (by(try simp only[jC,jA,jB,jK,jN,jP,List.length_flatMap] at hlen⊢)<;>omega)).mono ?_;rintro _ Kw ⟨rfl,h⟩;try simp(disch:=omega)only[go_sem,p7,pm,h.g b7,h.g bm,hk,e4,e5,e17,e18,e19,An,Ce,Cf,Cg,Bn]
      |with_reducible show Ae _ _ 145 _ _ _
       have p7:=h.g b7;have pm:=h.g bm;refine(h.call (Jk hG x.e o3 f2) (by(try simp only[jC,jA,jB,jK,jN,jP,List.length_flatMap] at hlen⊢)<;>omega)).mono ?_;rintro _ Kw ⟨rfl,h⟩;try simp(disch:=omega)only[go_sem,p7,pm,h.g b7,h.g bm,hk,e4,e5,e17,e18,e19,An,Ce,Cf,Cg,Bn]
      |with_reducible show Ae _ _ 114 _ _ _
       have p7:=h.g b7;have pm:=h.g bm;refine(h.put hG [Dr] bqa (by(try simp only[jC,jA,jB,jK,jN,jP,List.length_flatMap] at hlen⊢)<;>omega)).mono ?_;rintro _ Kw ⟨rfl,h⟩;try simp(disch:=omega)only[go_sem,p7,pm,h.g b7,h.g bm,hk,e4,e5,e17,e18,e19,An,Ce,Cf,Cg,Bn]
      |with_reducible show Ae _ _ 114 _ _ _
       have p7:=h.g b7;have pm:=h.g bm;refine(h.put hG [Md] bm1 (by(try simp only[jC,jA,jB,jK,jN,jP,List.length_flatMap] at hlen⊢)<;>omega)).mono ?_;rintro _ Kw ⟨rfl,h⟩;try simp(disch:=omega)only[go_sem,p7,pm,h.g b7,h.g bm,hk,e4,e5,e17,e18,e19,An,Ce,Cf,Cg,Bn]
      |refine⟨k+1,_,Ws.refl _,(hI _ _ _).2 ?_,by omega⟩
       simp(disch:=omega)only[go_sem,e4,e5,e17,e18,e19,hw1];(repeat' apply And.intro)<;>(try first | rfl | assumption | omega);rw[htk];have hz:=(h.hw.less h.hs).less sB0;simpa [Kn,hmo] using hz
      |intro qa hqa;dsimp only at hqa
       have p7:=h.g b7;have pm:=h.g bm;obtain⟨Bw,Kw,ew,h,sw,bqa⟩:=h.new hqa (.cells [.str [58]] 9);rw[ew];replace b7:=sw _ _ b7;replace bm:=sw _ _ bm;replace bm1:=sw _ _ bm1;replace bm2:=sw _ _ bm2;try simp(disch:=omega)only[go_sem,p7,pm,h.g b7,h.g bm,hk,e4,e5,e17,e18,e19,An,Ce,Cf,Cg,Bn]
      |refine⟨_,rfl, ?_⟩
       try simp(disch:=omega)only[go_sem,p7,pm,h.g b7,h.g bm,hk,e4,e5,e17,e18,e19,An,Ce,Cf,Cg,Bn]
    ·have hmo:Gv x.mode= [Aj wIn,Aj Md]:=by rw[Gv,if_neg (by omega),if_pos hk]
     refine Ak (by kernel_rfl) pL1 (by kernel_rfl) ?_;simp(disch:=omega)only[go_sem,g7,gm,hk,e4,e5,e17,e18,e19,An,Ce,Cf,Cg,Bn]
     repeat'
      first
      | with_reducible apply And.intro
      |with_reducible show Ae _ _ 115 _ _ _
       have p7:=h.g b7;have pm:=h.g bm;refine(h.call (Ia hG x.names (by omega)) (by(try simp only[jC,jA,jB,jK,jN,jP,List.length_flatMap] at hlen⊢)<;>omega)).mono ?_;rintro _ Kw ⟨rfl,h⟩;try simp(disch:=omega)only[go_sem,p7,pm,h.g b7,h.g bm,hk,e4,e5,e17,e18,e19,An,Ce,Cf,Cg,Bn]
      |with_reducible show Ae _ _ 144 _ _ _
       have p7:=h.g b7;have pm:=h.g bm;refine(h.call (Dn hG x.type o2 f1.fitx) (by(try simp only[jC,jA,jB,jK,jN,jP,List.length_flatMap] at hlen⊢)<;>omega)).mono ?_;rintro _ Kw ⟨rfl,h⟩;try simp(disch:=omega)only[go_sem,p7,pm,h.g b7,h.g bm,hk,e4,e5,e17,e18,e19,An,Ce,Cf,Cg,Bn]
      |with_reducible show Ae _ _ 145 _ _ _
       have p7:=h.g b7;have pm:=h.g bm;refine(h.call (Jk hG x.e o3 f2) (by(try simp only[jC,jA,jB,jK,jN,jP,List.length_flatMap] at hlen⊢)<;>omega)).mono ?_;rintro _ Kw ⟨rfl,h⟩;try simp(disch:=omega)only[go_sem,p7,pm,h.g b7,h.g bm,hk,e4,e5,e17,e18,e19,An,Ce,Cf,Cg,Bn]
      |with_reducible show Ae _ _ 114 _ _ _
       have p7:=h.g b7;have pm:=h.g bm;refine(h.put hG [Dr] bqa (by(try simp only[jC,jA,jB,jK,jN,jP,List.length_flatMap] at hlen⊢)<;>omega)).mono ?_;rintro _ Kw ⟨rfl,h⟩;try simp(disch:=omega)only[go_sem,p7,pm,h.g b7,h.g bm,hk,e4,e5,e17,e18,e19,An,Ce,Cf,Cg,Bn]
      |with_reducible show Ae _ _ 114 _ _ _
       have p7:=h.g b7;have pm:=h.g bm;refine(h.put hG [wIn,Md] bm2 (by(try simp only[jC,jA,jB,jK,jN,jP,List.length_flatMap] at hlen⊢)<;>omega)).mono ?_;rintro _ Kw ⟨rfl,h⟩;try simp(disch:=omega)only[go_sem,p7,pm,h.g b7,h.g bm,hk,e4,e5,e17,e18,e19,An,Ce,Cf,Cg,Bn]
      |refine⟨k+1,_,Ws.refl _,(hI _ _ _).2 ?_,by omega⟩
       simp(disch:=omega)only[go_sem,e4,e5,e17,e18,e19,hw1];(repeat' apply And.intro)<;>(try first | rfl | assumption | omega);rw[htk];have hz:=(h.hw.less h.hs).less sB0;simpa [Kn,hmo] using hz
      |intro qa hqa;dsimp only at hqa
       have p7:=h.g b7;have pm:=h.g bm;obtain⟨Bw,Kw,ew,h,sw,bqa⟩:=h.new hqa (.cells [.str [58]] 9);rw[ew];replace b7:=sw _ _ b7;replace bm:=sw _ _ bm;replace bm1:=sw _ _ bm1;replace bm2:=sw _ _ bm2;try simp(disch:=omega)only[go_sem,p7,pm,h.g b7,h.g bm,hk,e4,e5,e17,e18,e19,An,Ce,Cf,Cg,Bn]
      |refine⟨_,rfl, ?_⟩
       try simp(disch:=omega)only[go_sem,p7,pm,h.g b7,h.g bm,hk,e4,e5,e17,e18,e19,An,Ce,Cf,Cg,Bn]
  ·have:k=l.length:=by omega
   subst this;have hlt': ¬(l.length:Int)<(l.length:Int):=by omega
   rw[List.take_length] at hwk;have hs:=sm;obtain⟨v,hv1,hv2⟩:=hwk.cell hrw;have hs2:=hwk.sub hrw;simp(disch:=omega)only[go_sem,e4,e5,e17,e18,e19,Cj,hlt'];simp(disch:=omega)only[go_sem,hv1];exact Qg.fin (hs.trans hs2) (Qg.tuple (.cons (fun w hw x hx=>Rel.lasts (Di hs w) _ _ (hv2 w hw x hx)) (Px.keep (hs.trans hs2) _))) ⟨rfl,rfl⟩
end
end Go.Dl

-- Chapter 4: what is the same: lists of forms, type definitions (printed by gen_c5.py).
namespace Go.Dl
open Go Go.Proofs
set_option maxRecDepth 100000
theorem Bm6 {α:Type} (f:α->α->Bool): ∀l m:List α,Ch6 f l m=eqF f l m
 | [],[]=>rfl
 | [],_::_=>rfl
 | _::_,[]=>rfl
 | x::l,y::m=>by rw[Ch6,eqF,Bm6 f l m]
section
end
end Go.Dl

-- AN INTERPRETER OF THE DATA LEVEL, PART 1: definitions. What a closed call computes is found by the kernel; blocks have numbers of the interpreter's own.
namespace Go.Dl
open Go
noncomputable section
inductive Tr (α:Type) where
 | leaf
 | node (l:Tr α) (v:Option α) (r:Tr α)
def Bc5:Nat->Nat->List Bool:=
 Nat.rec (motive:=fun _=>Nat->List Bool) (fun _=> []) (fun _ ih k=>Bool.rec (motive:=fun _=>List Bool) (Nat.beq (Nat.mod k 2) 1::ih (Nat.div (Nat.sub k 1) 2)) [] (Nat.beq k 0))
def Xw (k:Nat):List Bool:=Bc5 k k
def Ui {α:Type} (t:Tr α):List Bool->Option α:=
 Tr.rec (motive:=fun _=>List Bool->Option α) (fun _=>none) (fun _ v _ ihl ihr p=>List.rec (motive:=fun _=>Option α) v (fun b p _=>Bool.rec (motive:=fun _=>Option α) (ihr p) (ihl p) b) p) t
def Fq6 {α R:Type} (x:α):List Bool->Tr α->(Tr α->R)->R:=
 List.rec (motive:=fun _=>Tr α->(Tr α->R)->R) (fun t κ=>Tr.rec (motive:=fun _=>R) (κ (.node .leaf (some x) .leaf)) (fun l _ r _ _=>κ (.node l (some x) r)) t)
  (fun b _ ih t κ=>Tr.rec (motive:=fun _=>R) (Bool.rec (motive:=fun _=>R) (ih .leaf fun r=>κ (.node .leaf none r)) (ih .leaf fun l=>κ (.node l none .leaf)) b)
   (fun l v r _ _=>Bool.rec (motive:=fun _=>R) (ih r fun r=>κ (.node l v r)) (ih l fun l=>κ (.node l v r)) b) t)
def Tr.get {α:Type} (t:Tr α) (k:Nat):Option α:=Ui t (Xw k)
def Tr.setK {α R:Type} (_z:R) (x:α) (_n:Nat) (t:Tr α) (k:Nat) (κ:Tr α->R):R:=Fq6 x (Xw k) t κ
structure XH where
 tr:Tr (Option DObj)
 nx:Nat
inductive Out where
 | bad
 | norm (E:Tr DVal) (H:XH)
 | exit (id:Nat) (E:Tr DVal) (H:XH)
 | ret (E:Tr DVal) (H:XH)
 | panic (v:DVal) (E:Tr DVal) (H:XH)
 | panicX (v:DVal) (H:XH)
inductive COut where
 | bad
 | cret (v:DVal) (H:XH)
 | cpanic (v:DVal) (H:XH)
def Nu {R:Type} (n:Nat) (κ:Nat->R):R:=Nat.rec (motive:=fun _=>R) (κ 0) (fun m _=>κ (Nat.succ m)) n
def Fj0 {R:Type} (n:Int) (κ:Int->R):R:=Int.rec (motive:=fun _=>R) (fun m=>Nu m fun m=>κ (.ofNat m)) (fun m=>Nu m fun m=>κ (.negSucc m)) n
def Zf {α R:Type} (l:List α):(List α->R)->R:=List.rec (motive:=fun _=>(List α->R)->R) (fun κ=>κ []) (fun x _ ih κ=>ih fun l=>κ (x::l)) l
def Ef6 {R:Type} (b:Bool) (κ:Bool->R):R:=Bool.rec (motive:=fun _=>R) (κ false) (κ true) b
def Wl {α R:Type} (z:R) (κ:α->R) (o:Option α):R:=Option.rec (motive:=fun _=>R) z (fun v=>κ v) o
def Ef7 {R:Type} (vs:List DVal):List DVal->(List DVal->R)->R:=
 List.rec (motive:=fun _=>List DVal->(List DVal->R)->R) (fun cs κ=>κ cs) (fun v vs ih cs κ=>List.rec (motive:=fun _=>R) (κ (v::vs)) (fun _ cs _=>ih cs fun r=>κ (v::r)) cs) vs
def Cv6 {R:Type} (vs:List DVal) (off:Nat):List DVal->(List DVal->R)->R:=
 Nat.rec (motive:=fun _=>List DVal->(List DVal->R)->R) (Ef7 vs) (fun _ ih cs κ=>List.rec (motive:=fun _=>R) (κ vs) (fun c cs _=>ih cs fun r=>κ (c::r)) cs) off
def Fq7 {R:Type} (xs ys:List DVal):(List DVal->R)->R:=
 List.rec (motive:=fun _=>(List DVal->R)->R) (fun κ=>κ ys) (fun x _ ih κ=>ih fun r=>κ (x::r)) xs
def Bm7 {R:Type} (n:Nat):List DVal->(List DVal->R)->R:=
 Nat.rec (motive:=fun _=>List DVal->(List DVal->R)->R) (fun _ κ=>κ []) (fun _ ih cs κ=>List.rec (motive:=fun _=>R) (κ []) (fun c cs _=>ih cs fun r=>κ (c::r)) cs) n
def Dd1 (n:Nat):List DVal->List DVal:=
 Nat.rec (motive:=fun _=>List DVal->List DVal) (fun cs=>cs) (fun _ ih cs=>List.rec (motive:=fun _=>List DVal) [] (fun _ cs _=>ih cs) cs) n
def Eu8 (n:Nat):List DVal->Option DVal:=
 Nat.rec (motive:=fun _=>List DVal->Option DVal) (fun cs=>List.rec (motive:=fun _=>Option DVal) none (fun c _ _=>some c) cs) (fun _ ih cs=>List.rec (motive:=fun _=>Option DVal) none (fun _ cs _=>ih cs) cs) n
def leN (n:Nat):List DVal->Bool:=
 Nat.rec (motive:=fun _=>List DVal->Bool) (fun _=>true) (fun _ ih cs=>List.rec (motive:=fun _=>Bool) false (fun _ cs _=>ih cs) cs) n
def eqN (n:Nat):List DVal->Bool:=
 Nat.rec (motive:=fun _=>List DVal->Bool) (fun cs=>List.rec (motive:=fun _=>Bool) true (fun _ _ _=>false) cs) (fun _ ih cs=>List.rec (motive:=fun _=>Bool) false (fun _ cs _=>ih cs) cs) n
def Bm8 {R:Type} (z:R) (place:Nat->Option (Nat×Nat)) (parts:List (Nat×DVal)):List DVal->(List DVal->R)->R:=
 List.rec (motive:=fun _=>List DVal->(List DVal->R)->R) (fun cs κ=>κ cs)
  (fun p _ ih cs κ=>Wl z (fun os=>Bool.rec (motive:=fun _=>R) z (Cv6 p.2.cells os.1 cs fun cs=>ih cs κ) (eqN os.2 p.2.cells&&leN (os.1+os.2) cs)) (place p.1)) parts
def Fq8 {R:Type} (v:DVal) (κ:DVal->R):R:=
 match v with
 | .int k n=>Fj0 n fun n=>κ (.int k n)
 | .bool b=>Ef6 b fun b=>κ (.bool b)
 | .optr r off=>Nu r fun r=>Nu off fun off=>κ (.optr r off)
 | .oslice sz r off len lo=>Nu r fun r=>Nu off fun off=>Nu len fun len=>Nu lo fun lo=>κ (.oslice sz r off len lo)
 | .vptr cs off=>Nu off fun off=>κ (.vptr cs off)
 | .vslice cs len=>Nu len fun len=>κ (.vslice cs len)
 | .agg cs=>Zf cs fun cs=>κ (.agg cs)
 | .str s=>Zf s fun s=>κ (.str s)
 | .tuple cs=>Zf cs fun cs=>κ (.tuple cs)
 | v=>κ v
def fvK {R:Type} (v:DVal) (κ:DVal->R):R:=
 DVal.casesOn (motive_1:=fun _=>(DVal->R)->R) v (fun v κ=>κ (.raw v)) (fun b κ=>Ef6 b fun b=>κ (.bool b)) (fun k n κ=>Fj0 n fun n=>κ (.int k n)) (fun s κ=>Zf s fun s=>κ (.str s)) (fun κ=>κ .nilPtr)
  (fun cs off κ=>Nu off fun off=>κ (.vptr cs off)) (fun r off κ=>Nu r fun r=>Nu off fun off=>κ (.optr r off)) (fun κ=>κ .nilSlice) (fun cs len κ=>Nu len fun len=>κ (.vslice cs len))
  (fun sz r off len lo κ=>Nu r fun r=>Nu off fun off=>Nu len fun len=>Nu lo fun lo=>κ (.oslice sz r off len lo)) (fun κ=>κ .nilMap) (fun r κ=>κ (.omap r)) (fun f a c κ=>κ (.func f a c)) (fun κ=>κ .nilFunc)
  (fun t v κ=>κ (.iface t v)) (fun κ=>κ .nilIface) (fun cs κ=>Zf cs fun cs=>κ (.agg cs)) (fun cs κ=>Zf cs fun cs=>κ (.tuple cs)) κ
def Ey5 {α:Type} (f:α->α->Option α):Option α->Option α->Option α
 | some x,some y=>f x y
 | _,_=>none
def Zg {α:Type} (f:α->α->Option α):Tr α->Tr α->Tr α
 | .node l v r, .node l' v' r'=> .node (Zg f l l') (Ey5 f v v') (Zg f r r')
 | _,_=> .leaf
def Ey6 {α:Type} (g:α->Bool) (f:α->α->Option α):Option α->Option α->Option α->Option α
 | some z,some x,some y=>Bool.rec (motive:=fun _=>Option α) none (f x y) (g z)
 | _,_,_=>none
def Ah1 {α:Type} (g:α->Bool) (f:α->α->Option α):Tr α->Tr α->Tr α->Tr α
 | .node l v r, .node l1 v1 r1, .node l2 v2 r2=> .node (Ah1 g f l l1 l2) (Ey6 g f v v1 v2) (Ah1 g f r r1 r2)
 | _,_,_=> .leaf
def Vs (E:Tr DVal) (H:XH) (dst:Option Nat) (v:DVal):Out:=
 fvK v fun v=>Wl (.norm E H) (fun d=>Tr.setK .bad v 10 E d fun E=> .norm E H) dst
def Bc6 (E:Tr DVal) (H:XH) (dst:Option Nat) (v:DVal):Out:=Wl (.norm E H) (fun d=>Tr.setK .bad v 10 E d fun E=> .norm E H) dst
def Ot (E:Tr DVal) (H:XH) (dst:Option Nat) (o:Option DVal):Out:=Wl .bad (fun v=>Bc6 E H dst v) o
def Jl (E:Tr DVal) (H:XH) (dst:Option Nat) (o:Option DVal):Out:=Wl .bad (fun v=>Vs E H dst v) o
def Aw (H:XH) (k:Nat):Option DObj:=
 match H.tr.get k with
 | some (some o)=>some o
 | _=>none
def foK {R:Type} (o:DObj) (κ:DObj->R):R:=
 match o with
 | .cells cs e=>Zf cs fun cs=>κ (.cells cs e)
 | .map es=>Zf es fun es=>κ (.map es)
 | .iter s pos=>Nu pos fun pos=>κ (.iter s pos)
 | o=>κ o
def Bc7 (H:XH) (k:Nat) (o:Option DObj) (κ:XH->Out):Out:=
 match H with
 | ⟨tr,nx⟩=>match o with
  | some o=>foK o fun o=>Tr.setK .bad (some o) 24 tr k fun tr=>κ ⟨tr,nx⟩
  | none=>Tr.setK .bad none 24 tr k fun tr=>κ ⟨tr,nx⟩
def Bc8 (H:XH) (o:DObj) (κ:Nat->XH->Out):Out:=
 match H with
 | ⟨tr,nx⟩=>foK o fun o=>Tr.setK .bad (some o) 24 tr nx fun tr=>Nu (nx+1) fun nx'=>κ nx ⟨tr,nx'⟩
section
variable (P:Program) (gt:Nat->Option DVal)
def evK {R:Type} (z:R) (E:Tr DVal) (o:Operand) (κ:DVal->R):R:=
 match o with
 | .tmp t=>Wl z κ (E.get t)
 | .const v=>κ (Ee v)
 | .global g=>Wl z κ (gt g)
 | .func f=>κ (.func (.func f) [] [])
def Ah2 {R:Type} (z:R) (E:Tr DVal) (os:List Operand):(List DVal->R)->R:=
 List.rec (motive:=fun _=>(List DVal->R)->R) (fun κ=>κ []) (fun x _ ih κ=>evK gt z E x fun v=>ih fun vs=>κ (v::vs)) os
def Am3 {R:Type} (z:R) (E:Tr DVal) (os:List (Nat×Operand)):(List (Nat×DVal)->R)->R:=
 List.rec (motive:=fun _=>(List (Nat×DVal)->R)->R) (fun κ=>κ []) (fun x _ ih κ=>evK gt z E x.2 fun v=>ih fun vs=>κ ((x.1,v)::vs)) os
def Bv9 {R:Type} (z:R) (E:Tr DVal) (o:Option Operand) (κ:Option DVal->R):R:=
 match o with
 | some x=>evK gt z E x fun v=>κ (some v)
 | none=>κ none
def Dd2:DVal->DVal->DVal->Option DVal
 | .bool true,a,_=>some a
 | .bool false,_,b=>some b
 | _,_,_=>none
def Bw0:Bool->Option TypeDesc->Option DVal->List (Nat×DVal)->Option DVal
 | true,some (.struct fields),some z,parts=>Bm8 none (Bp0 P fields) parts z.cells fun l=>some (.agg l)
 | true,some (.array _ e),some z,parts=>Bm8 none (Wn (P.cellsOf e)) parts z.cells fun l=>some (.agg l)
 | _,_,_,_=>none
def Bw1 (size:Nat) (cs:List DVal) (off:Nat):Option Bool->Option DVal
 | some true=>Bool.rec (motive:=fun _=>Option DVal) none (Bm7 size (Dd1 off cs) fun l=>some (.agg l)) (leN (off+size) cs)
 | some false=>Eu8 off cs
 | none=>none
def Bw2 (size:Nat) (ag:Option Bool) (off:Nat):Option DObj->Option DVal
 | some (.cells cs _)=>Bw1 size cs off ag
 | _=>none
def Dd3 (size:Nat) (ag:Option Bool) (H:XH):DVal->Option DVal
 | .vptr cs off=>Bw1 size cs off ag
 | .optr r off=>Bw2 size ag off (Aw H r)
 | _=>none
def Eu9:DVal->Option DVal
 | .vptr cs off=>some (.vptr cs off)
 | .optr r off=>some (.optr r off)
 | .func (.func f) a c=>some (.func (.func f) a c)
 | .iface t v=>some (.iface t v)
 | .omap r=>some (.omap r)
 | _=>none
def Cv7:Option Bool->Option Bool->Option DVal
 | some false,some b=>some (.bool b)
 | some true,some b=>some (.bool (!b))
 | _,_=>none
def Ey7 (k:IntKind) (a b:Int):BinOp->Option DVal
 | .add=>some (.int k (k.wrap (a+b)))
 | .sub=>some (.int k (k.wrap (a-b)))
 | .mul=>some (.int k (k.wrap (a*b)))
 | .quo=>if b=0 then none else some (.int k (k.wrap (a.tdiv b)))
 | .rem=>if b=0 then none else some (.int k (a.tmod b))
 | .and=>some (.int k (k.wrap (BitVec.ofInt k.bits a&&&BitVec.ofInt k.bits b).toNat))
 | .or=>some (.int k (k.wrap (BitVec.ofInt k.bits a ||| BitVec.ofInt k.bits b).toNat))
 | .xor=>some (.int k (k.wrap (BitVec.ofInt k.bits a^^^BitVec.ofInt k.bits b).toNat))
 | .andNot=>some (.int k (k.wrap (BitVec.ofInt k.bits a&&& ~~~BitVec.ofInt k.bits b).toNat))
 | .eql=>some (.bool (decide (a=b)))
 | .neq=>some (.bool (!decide (a=b)))
 | .lss=>some (.bool (decide (a<b)))
 | .leq=>some (.bool (decide (a<=b)))
 | .gtr=>some (.bool (decide (b<a)))
 | .geq=>some (.bool (decide (b<=a)))
 | _=>none
def Fq9 (op:BinOp) (k:IntKind) (a b:Int):Option DVal:=
 BinOp.casesOn (motive:=fun _=>IntKind->Int->Int->Option DVal) op
  (fun k a b=>some (.int k (k.wrap (a+b))))
  (fun k a b=>some (.int k (k.wrap (a-b))))
  (fun k a b=>some (.int k (k.wrap (a*b))))
  (fun k a b=>if b=0 then none else some (.int k (k.wrap (a.tdiv b))))
  (fun k a b=>if b=0 then none else some (.int k (a.tmod b)))
  (fun k a b=>some (.int k (k.wrap (BitVec.ofInt k.bits a&&&BitVec.ofInt k.bits b).toNat)))
  (fun k a b=>some (.int k (k.wrap (BitVec.ofInt k.bits a ||| BitVec.ofInt k.bits b).toNat)))
  (fun k a b=>some (.int k (k.wrap (BitVec.ofInt k.bits a^^^BitVec.ofInt k.bits b).toNat)))
  (fun _ _ _=>none)
  (fun _ _ _=>none)
  (fun k a b=>some (.int k (k.wrap (BitVec.ofInt k.bits a&&& ~~~BitVec.ofInt k.bits b).toNat)))
  (fun k a b=>some (.bool (decide (a=b))))
  (fun k a b=>some (.bool (!decide (a=b))))
  (fun k a b=>some (.bool (decide (a<b))))
  (fun k a b=>some (.bool (decide (a<=b))))
  (fun k a b=>some (.bool (decide (b<a))))
  (fun k a b=>some (.bool (decide (b<=a)))) k a b
def Fj1 (k:IntKind) (a b:Int) (op:BinOp):Option DVal:=Fq9 op k a b
def Cv8 (k:IntKind) (a b:Int):BinOp->Option DVal
 | .shl=>if 0<=b then some (.int k (k.wrap (a*2^(min b.toNat k.bits)))) else none
 | .shr=>if 0<=b then some (.int k (a.fdiv (2^(min b.toNat k.bits)))) else none
 | _=>none
def Cv9 (a:List UInt8):List UInt8->Bool:=
 List.rec (motive:=fun _=>List UInt8->Bool) (fun b=>List.rec (motive:=fun _=>Bool) true (fun _ _ _=>false) b)
  (fun x _ ih b=>List.rec (motive:=fun _=>Bool) false (fun y ys _=>Bool.rec (motive:=fun _=>Bool) false (ih ys) (Nat.beq x.toNat y.toNat)) b) a
def Fj2 (a b:List UInt8):BinOp->Option DVal
 | .add=>if a.length+b.length<=9223372036854775807 then some (.str (a++b)) else none
 | .eql=>some (.bool (Cv9 a b))
 | .neq=>some (.bool (!Cv9 a b))
 | .lss=>some (.bool (Go.Op.bytesLess a b))
 | .leq=>some (.bool (Go.Op.bytesLess a b || decide (a=b)))
 | .gtr=>some (.bool (!(Go.Op.bytesLess a b || decide (a=b))))
 | .geq=>some (.bool (!Go.Op.bytesLess a b))
 | _=>none
def Fj3 (t:TypeId) (c:Bool) (op:BinOp):DVal->DVal->Option DVal
 | .int k a, .int k' b=>if Fw op then Cv8 k a b op else if k=k' then Fj1 k a b op else none
 | .str a, .str b=>Fj2 a b op
 | .agg xs, .agg ys=>if Du P t=some true/\P.eqGuardType P.depth t=false then Cv7 (Od op) (Qu P 6 t xs ys) else none
 | x,y=>Cv7 (Od op) (Pz c (P.underlying t) x y)
def Dd4 (t:TypeId) (c:Bool) (op:BinOp):Bool->DVal->DVal->Option DVal
 | true, .vslice (_::_) _,_=>if El2 (P.underlying t) then Cv7 (Od op) (some false) else none
 | true, .vslice [] _,_=>none
 | _,x,y=>Fj3 P t c op x y
def vUn:UnOp->DVal->Option DVal
 | .not, .bool b=>some (.bool (!b))
 | .neg, .int k n=>some (.int k (k.wrap (0-n)))
 | .xor, .int k n=>some (.int k (k.wrap (BitVec.ofInt k.bits (if k.signed then-1 else k.max)^^^BitVec.ofInt k.bits n).toNat))
 | _,_=>none
def Bc9:Option TypeDesc->Option TypeDesc->DVal->Option DVal
 | some _,some (.int k), .int _ n=>some (.int k (k.wrap n))
 | some _,some .string, .str l=>some (.str l)
 | _,_,_=>none
def Fj4:Option TypeDesc->Bool
 | some (.int .u8)=>true
 | _=>false
def Fj5 (H:XH):DVal->Option (List DVal)
 | .nilSlice=>some []
 | .vslice cs n=>if n<=cs.length then some (cs.take n) else none
 | .oslice _ r off n _=>Uo n off (Aw H r)
 | _=>none
def Bw3 (H:XH):Option TypeDesc->Option TypeDesc->DVal->Option DVal
 | some (.slice e),some .string,x=>if Fj4 (P.underlying e) then((Fj5 H x).bind Pu).map .str else none
 | a,b,x=>Bc9 a b x
def Am4 (l:List UInt8):Option Int->Option Int->Option DVal
 | some lo,some hi=>if 0<=lo/\lo<=hi/\hi<=l.length then some (.str ((l.drop lo.toNat).take (hi.toNat-lo.toNat))) else none
 | _,_=>none
def Au8 (size:Nat) (cs:List DVal) (len:Nat):Option Int->Option Int->Option DVal
 | some lo,some hi=>if 0<=lo/\lo<=hi/\hi<=len then some (.vslice ((cs.drop (lo.toNat*size)).take ((hi.toNat-lo.toNat)*size)) (hi.toNat-lo.toNat)) else none
 | _,_=>none
def Ah3 (size r off cap:Nat):Option Int->Option Int->Option Int->Option DVal
 | some lo,some hi,some mx=>if 0<=lo/\lo<=hi/\hi<=mx/\mx<=cap then some (.oslice size r (off+lo.toNat*size) (hi.toNat-lo.toNat) (mx.toNat-lo.toNat)) else none
 | _,_,_=>none
def Bw4:Option Int->Option Int->Option DVal
 | some lo,some hi=>if lo=0/\hi=0 then some .nilSlice else none
 | _,_=>none
def Ef8 (n:Nat):Option DObj->Bool
 | some (.cells cs _)=>decide (n<=cs.length)
 | _=>false
def Bw5 (H:XH) (lo hi:Option DVal):Option TypeDesc->DVal->Option DVal->Option DVal
 | some .string, .str l,none=>Am4 l (dLo lo) (dHi l.length hi)
 | some (.slice e), .nilSlice,none=>if(P.info? e).isSome then Bw4 (dLo lo) (dHi 0 hi) else none
 | some (.slice e), .vslice cs len,none=>if(P.info? e).isSome then Au8 (P.cellsOf e) cs len (dLo lo) (dHi len hi) else none
 | some (.slice e), .oslice sz r off len cap,none=>if(P.info? e).isSome&&sz==P.cellsOf e then Ah3 (P.cellsOf e) r off cap (dLo lo) (dHi len hi) (some cap) else none
 | some (.slice e), .oslice sz r off _ cap,some m=>if(P.info? e).isSome&&sz==P.cellsOf e&&hi.isSome then Ah3 (P.cellsOf e) r off cap (dLo lo) (dLo hi) (dLo (some m)) else none
 | some (.array n e), .optr r off,none=>if(P.info? e).isSome&&Ef8 (off+n*P.cellsOf e) (Aw H r) then Ah3 (P.cellsOf e) r off n (dLo lo) (dHi n hi) (some n) else none
 | some (.array n e), .vptr cs off,none=>if(P.info? e).isSome&&decide (off+n*P.cellsOf e<=cs.length) then Au8 (P.cellsOf e) ((cs.drop off).take (n*P.cellsOf e)) n (dLo lo) (dHi n hi) else none
 | _,_,_=>none
def Ar2 (x:DVal):Option Field->Option DVal
 | some f=>if 0<P.cellsOf f.type then Qa f.offset x else none
 | none=>none
def Vt (f:Nat) (x:DVal):Option TypeDesc->Option DVal
 | some (.struct fields)=>Ar2 P x fields[f]?
 | _=>none
def Dd5 (size:Nat) (cs:List DVal) (off:Nat):Option Bool->Option DVal
 | some true=>Bm7 size (Dd1 off cs) fun l=>some (.agg l)
 | some false=>Eu8 off cs
 | none=>none
def Dd6 (cs:List DVal):Option Field->Option DVal
 | some f=>Dd5 (P.cellsOf f.type) cs f.offset (Du P f.type)
 | none=>none
def Bw6 (f:Nat):Option TypeDesc->DVal->Option DVal
 | some (.struct fields), .agg cs=>Dd6 P cs fields[f]?
 | _,_=>none
def Vu:Option TypeDesc->DVal->DVal->Option DVal
 | some (.slice e), .vslice cs len, .int _ i=>if(P.info? e).isSome=true/\0<=i/\i<len/\leN (i.toNat*P.cellsOf e+1) cs=true then some (.vptr cs (i.toNat*P.cellsOf e)) else none
 | some (.slice e), .oslice _ r off len _, .int _ i=>if(P.info? e).isSome=true/\0<=i/\i<len then some (.optr r (off+i.toNat*P.cellsOf e)) else none
 | some (.array n e),x, .int _ i=>if(P.info? e).isSome=true/\0<=i/\i<n then Qa (i.toNat*P.cellsOf e) x else none
 | _,_,_=>none
def Bw7:Option TypeDesc->DVal->DVal->Option DVal
 | some (.array n e), .agg cs, .int _ i=>if 0<=i/\i<n then Dd5 (P.cellsOf e) cs (i.toNat*P.cellsOf e) (Du P e) else none
 | some .string, .str l, .int _ i=>if 0<=i then l[i.toNat]?.map fun b=> .int .u8 b.toNat else none
 | _,_,_=>none
def Ah4 (i:Nat):DVal->Option DVal
 | .tuple vs=>vs[i]?
 | _=>none
def Ah5:Option DVal->Option DVal
 | some z=>some (.tuple [z, .bool false])
 | none=>none
def Bm9 (v:DVal) (z:Option DVal):Bool->Bool->Option DVal
 | true,true=>some (.tuple [v, .bool true])
 | true,false=>Ah5 z
 | false,true=>some v
 | false,false=>none
def Sz (asserted:TypeId) (commaOk:Bool):Bool->DVal->Option DVal
 | true, .iface t v=>Bm9 v (Bq P asserted) commaOk (decide (t=asserted))
 | true, .nilIface=>if commaOk then Ah5 (Bq P asserted) else none
 | _,_=>none
def Fj6:Option TypeDesc->DVal->Option DVal
 | some .string, .str l=>some (.int .i64 l.length)
 | some (.array n _),_=>some (.int .i64 n)
 | some (.slice _), .nilSlice=>some (.int .i64 0)
 | some (.slice _), .vslice _ n=>some (.int .i64 n)
 | some (.slice _), .oslice _ _ _ n _=>some (.int .i64 n)
 | _,_=>none
def Cw0 (x:DVal):List TypeId->Option DVal
 | [t]=>Fj6 (P.underlying t) x
 | _=>none
def Bh6 (env:Nat->DVal) (n:Nat):List (DVal×DVal):=(List.range n).map fun i=>(env (2*i),env (2*i+1))
def Bw8 (ok:Bool) (v:DVal) (b:Bool):DVal:=if ok then .tuple [v, .bool b] else v
def Ab7 (es:List (DVal×DVal)) (ok:Bool):Option DVal->Option (Option Nat)->Option DVal
 | _,some (some i)=>es[i]?.map fun p=>Bw8 ok p.2 true
 | some z,some none=>some (Bw8 ok z false)
 | _,_=>none
def Ef9 (z:Option DVal) (k:DVal) (ok:Bool):Option DObj->Option DVal
 | some (.map es)=>Ab7 es ok z (Ga k es 0)
 | some (.loop env n _)=>Ab7 (Bh6 env n) ok z (Ga k (Bh6 env n) 0)
 | _=>none
def Au9 (H:XH) (ok:Bool):Option TypeDesc->DVal->DVal->Option DVal
 | some (.map kt e), .omap r,k=>if Mj P (P.underlying kt) k then Ef9 (Bq P e) k ok (Aw H r) else none
 | some (.map kt e), .nilMap,k=>if Mj P (P.underlying kt) k then Ab7 [] ok (Bq P e) (some none) else none
 | _,_,_=>none
def Vv (t:TypeId) (x:DVal):Bool->Option DVal
 | true=>some (.iface t x)
 | false=>none
def Cj0 (E:Tr DVal) (H:XH) (dst:Option Nat) (cs:List DVal) (e:TypeId):Out:=
 Bc8 H (.cells cs e) fun k H=>Vs E H dst (.optr k 0)
def Cj1 (E:Tr DVal) (H:XH) (dst:Option Nat) (cs:List DVal) (e:TypeId) (sz len cap:Nat):Out:=
 Bc8 H (.cells cs e) fun k H=>Vs E H dst (.oslice sz k 0 len cap)
def Eg0 (E:Tr DVal) (H:XH) (dst:Option Nat):Out:=Bc8 H (.map []) fun k H=>Vs E H dst (.omap k)
def Ta (E:Tr DVal) (H:XH) (dst:Option Nat) (len:Nat):Option TypeDesc->List (Nat×DVal)->Out
 | some (.slice e),parts=>Wl .bad (fun z=>Bool.rec (motive:=fun _=>Out) .bad (Bm8 .bad (Wn (P.cellsOf e)) parts (repl len z.cells) fun cs=>Cj1 E H dst cs e (P.cellsOf e) len len) (decide (len*P.cellsOf e<=16777216)&&z.cells.length==P.cellsOf e)) (Bq P e)
 | _,_=> .bad
def Vw (E:Tr DVal) (H:XH) (dst:Option Nat):Option TypeDesc->DVal->DVal->Out
 | some (.slice e), .int _ l, .int _ c=>Wl .bad (fun z=>Bool.rec (motive:=fun _=>Out) .bad (Nu l.toNat fun l=>Nu c.toNat fun c=>Cj1 E H dst (repl c z.cells) e (P.cellsOf e) l c)
   (decide (0<=l)&&decide (l<=c)&&decide (c*(P.bytesOf e:Int)<=35184372088832)&&decide (c<9223372036854775808)&&z.cells.length==P.cellsOf e&&decide (0<P.cellsOf e))) (Bq P e)
 | _,_,_=> .bad
def Dd7 (E:Tr DVal) (H:XH) (size r off:Nat) (v:DVal):Option DObj->Out
 | some (.cells cs e)=>Bool.rec (motive:=fun _=>Out) .bad (Cv6 v.cells off cs fun cs=>Bc7 H r (some (.cells cs e)) fun H=> .norm E H) (eqN size v.cells&&v.cells.all (·.one)&&leN (off+size) cs)
 | _=> .bad
def Bw9 (E:Tr DVal) (H:XH) (size:Nat):Option Nat->DVal->DVal->Out
 | none, .optr r off,v=>Dd7 E H size r off v (Aw H r)
 | _,_,_=> .bad
def Cw1 (size:Nat) (H:XH):DVal->Option (Nat×List DVal)
 | .nilSlice=>some (0,[])
 | .vslice cs n=>Bm7 (n*size) cs fun l=>some (n,l)
 | .oslice _ r off n _=>Tj size n off (Aw H r)
 | .str l=>some (l.length,l.map fun b=> .int .u8 b.toNat)
 | _=>none
def Bd0 (E:Tr DVal) (H:XH) (dst:Option Nat) (e:TypeId) (size bytes r off len lo n:Nat) (news:List DVal):Option DObj->Out
 | some (.cells cs e')=>Bool.rec (motive:=fun _=>Out) .bad
   (Bool.rec (motive:=fun _=>Out)
    (Bool.rec (motive:=fun _=>Out) .bad
     (Bc7 H r none fun H=>Bm7 (len*size) (Dd1 off cs) fun old=>Fq7 old news fun cs=>Bc8 H (.cells cs e) fun k H=>Vs E H dst (.oslice size k 0 (len+n) (len+n)))
     (leN (off+len*size) cs&&decide ((len+n)*bytes<=35184372088832)&&Nat.ble len lo&&Nat.beq off 0))
    (Bool.rec (motive:=fun _=>Out) .bad
     (Cv6 news (off+len*size) cs fun cs=>Bc7 H r (some (.cells cs e)) fun H=>Vs E H dst (.oslice size r off (len+n) lo))
     (leN (off+(len+n)*size) cs))
    (Nat.ble (len+n) lo))
   (Nat.beq e' e)
 | _=> .bad
def Bn0 (E:Tr DVal) (H:XH) (dst:Option Nat) (e:TypeId) (size bytes n:Nat) (news:List DVal):DVal->Out
 | .nilSlice=>Bool.rec (motive:=fun _=>Out) (Bool.rec (motive:=fun _=>Out) .bad (Cj1 E H dst news e size n n) (decide (n*bytes<=35184372088832))) (Vs E H dst .nilSlice) (Nat.beq n 0)
 | .oslice sz r off len lo=>Bool.rec (motive:=fun _=>Out) .bad (Bd0 E H dst e size bytes r off len lo n news (Aw H r)) (Nat.beq sz size)
 | _=> .bad
def Cj2 (E:Tr DVal) (H:XH) (dst:Option Nat) (e:TypeId) (size bytes:Nat) (x:DVal):Option (Nat×List DVal)->Out
 | some (n,news)=>Bool.rec (motive:=fun _=>Out) .bad (Bn0 E H dst e size bytes n news x) (eqN (n*size) news&&news.all (·.one))
 | none=> .bad
def Dd8 (E:Tr DVal) (H:XH) (dst:Option Nat) (x y:DVal):Option TypeDesc->Out
 | some (.slice e)=>Bool.rec (motive:=fun _=>Out) .bad (Cj2 E H dst e (P.cellsOf e) (P.bytesOf e) x (Cw1 (P.cellsOf e) H y))
   ((Bq P e).isSome&&(Bq P e).all (fun z=>z.cells.length=P.cellsOf e)&&decide (0<P.cellsOf e)&&decide (0<P.bytesOf e))
 | _=> .bad
def Am5 (E:Tr DVal) (H:XH) (dst:Option Nat) (x y:DVal):List TypeId->Out
 | [t,t']=>Bool.rec (motive:=fun _=>Out) .bad (Dd8 P E H dst x y (P.underlying t)) (!Nj (P.underlying t')&&Zp (P.underlying t'))
 | _=> .bad
def Yt (E:Tr DVal) (H:XH) (dst:Option Nat):Option TypeDesc->DVal->DVal->DVal->Out
 | some (.map kt _), .omap r,k,v=>match dst,Mj P (P.underlying kt) k&&v.one,Aw H r with
  | none,true,some (.map es)=>Wl .bad (fun i=>Bc7 H r (some (.map (Bp6 es k v i))) fun H=> .norm E H) (Ga k es 0)
  | _,_,_=> .bad
 | _,_,_,_=> .bad
def Ah6 (E:Tr DVal) (H:XH) (dst:Option Nat):Option TypeDesc->Option DVal->Out
 | some (.map _ _),none=>Eg0 E H dst
 | some (.map _ _),some (.int _ _)=>Eg0 E H dst
 | _,_=> .bad
def Bx0 (E:Tr DVal) (H:XH) (dst:Option Nat):Option TypeDesc->DVal->Out
 | some .string, .str l=>Bc8 H (.iter l 0) fun k H=>Vs E H dst (.optr k 0)
 | _,_=> .bad
def Eg1 (E:Tr DVal) (H:XH) (dst:Option Nat) (r:Nat):Option DObj->Out
 | some (.iter l pos)=>Bool.rec (motive:=fun _=>Out) (Vs E H dst (.tuple [.bool false]))
   (Nu (Nh l pos).1 fun c=>Nu (Nh l pos).2 fun n=>Bc7 H r (some (.iter l (pos+n))) fun H=>Vs E H dst (.tuple [.bool true, .int .i64 pos, .int .i32 c])) (decide (pos<l.length))
 | _=> .bad
def Dd9 (E:Tr DVal) (H:XH) (dst:Option Nat):Bool->DVal->Out
 | true, .optr r 0=>Eg1 E H dst r (Aw H r)
 | _,_=> .bad
def Eg2 (E:Tr DVal) (dst:Option Nat):COut->Out
 | .bad=> .bad
 | .cret v H=>Vs E H dst v
 | .cpanic v H=> .panic v E H
def Cw2 (call:Nat->List DVal->XH->COut) (E:Tr DVal) (H:XH) (dst:Option Nat) (args:List DVal):DVal->Out
 | .func (.func k) first captured=>Eg2 E dst (call k (first++args++captured) H)
 | _=> .bad
def Bd1 (E:Tr DVal) (H:XH) (dst:Option Nat) (ts:List TypeId):Builtin->List DVal->Out
 | .len,[x]=>Jl E H dst (Cw0 P x ts)
 | .append,[x,y]=>Am5 P E H dst x y ts
 | .min,xs=>Jl E H dst (Ls false xs)
 | .max,xs=>Jl E H dst (Ls true xs)
 | .panic,[.iface t v]=> .panic (.iface t v) E H
 | _,_=> .bad
def Bx1 (call:Nat->List DVal->XH->COut) (E:Tr DVal) (H:XH) (dst:Option Nat) (c:Call):Callee->Out
 | .value f=>evK gt .bad E f fun f=>Ah2 gt .bad E c.args.toList fun args=>Cw2 call E H dst args f
 | .builtin b=>Ah2 gt .bad E c.args.toList fun args=>Bd1 P E H dst c.argTypes.toList b args
 | .invoke _ _=> .bad
def Bx2 (E:Tr DVal) (H:XH):DVal->Out
 | .iface t v=> .panic (.iface t v) E H
 | _=> .bad
def Fr0 (call:Nat->List DVal->XH->COut) (E:Tr DVal) (H:XH) (dst:Option Nat):Op->Out
 | .move x=>evK gt .bad E x fun v=>Bc6 E H dst v
 | .assign x=>evK gt .bad E x fun v=>Bc6 E H dst v
 | .pick c a b=>evK gt .bad E c fun c=>evK gt .bad E a fun a=>evK gt .bad E b fun b=>Ot E H dst (Dd2 c a b)
 | .alloc e=>Wl .bad (fun z=>Cj0 E H dst (DVal.cells z) e) (Bq P e)
 | .box e x=>evK gt .bad E x fun x=>Cj0 E H dst x.cells e
 | .build t ps=>Am3 gt .bad E ps.toList fun ps=>Jl E H dst (Bw0 P (Kp P t) (P.underlying t) (Bq P t) ps)
 | .buildSlice t n ps=>Am3 gt .bad E ps.toList fun ps=>Ta P E H dst n (P.underlying t) ps
 | .load t a=>evK gt .bad E a fun a=>Ot E H dst (Dd3 (P.cellsOf t) (Du P t) H a)
 | .store t a x=>evK gt .bad E a fun a=>evK gt .bad E x fun x=>Bool.rec (motive:=fun _=>Out) .bad (Bw9 E H (P.cellsOf t) dst a x) (P.info? t).isSome
 | .nilCheck x=>evK gt .bad E x fun x=>Ot E H dst (Eu9 x)
 | .binOp op t x y _=>evK gt .bad E x fun vx=>evK gt .bad E y fun vy=>Jl E H dst (Dd4 P t (Fl x || Fl y) op (Hj y) vx vy)
 | .unOp op _ x=>evK gt .bad E x fun x=>Jl E H dst (vUn op x)
 | .convert src t x=>evK gt .bad E x fun x=>Jl E H dst (Bw3 P H (P.underlying src) (P.underlying t) x)
 | .makeInterface t x=>evK gt .bad E x fun x=>Jl E H dst (Vv t x (Ec (P.underlying t)))
 | .makeFunc fn fs cs=>Ah2 gt .bad E fs.toList fun fs=>Ah2 gt .bad E cs.toList fun cs=>Vs E H dst (.func fn fs cs)
 | .makeMap t r=>Bv9 gt .bad E r fun r=>Ah6 E H dst (P.underlying t) r
 | .lookup t x k ok=>evK gt .bad E x fun x=>evK gt .bad E k fun k=>Jl E H dst (Au9 P H ok (P.underlying t) x k)
 | .mapUpdate t m k x=>evK gt .bad E m fun m=>evK gt .bad E k fun k=>evK gt .bad E x fun x=>Yt P E H dst (P.underlying t) m k x
 | .insert t m k x=>evK gt .bad E m fun m=>evK gt .bad E k fun k=>evK gt .bad E x fun x=>Yt P E H dst (P.underlying t) m k x
 | .makeSlice t l c=>evK gt .bad E l fun l=>evK gt .bad E c fun c=>Vw P E H dst (P.underlying t) l c
 | .slice t x lo hi mx=>evK gt .bad E x fun x=>Bv9 gt .bad E lo fun lo=>Bv9 gt .bad E hi fun hi=>Bv9 gt .bad E mx fun mx=>Jl E H dst (Bw5 P H lo hi (P.underlying t) x mx)
 | .fieldAddr t x f=>evK gt .bad E x fun x=>Jl E H dst (Vt P f x (P.underlying t))
 | .field t x f=>evK gt .bad E x fun x=>Ot E H dst (Bw6 P f (P.underlying t) x)
 | .indexAddr t x i=>evK gt .bad E x fun x=>evK gt .bad E i fun i=>Jl E H dst (Vu P (P.underlying t) x i)
 | .index t x i=>evK gt .bad E x fun x=>evK gt .bad E i fun i=>Jl E H dst (Bw7 P (P.underlying t) x i)
 | .typeAssert x _ t ok=>evK gt .bad E x fun x=>Ot E H dst (Sz P t ok (Ec (P.underlying t)) x)
 | .extract x i=>evK gt .bad E x fun x=>Ot E H dst (Ah4 i x)
 | .panic x=>evK gt .bad E x fun x=>Bx2 E H x
 | .range t x=>evK gt .bad E x fun x=>Bx0 E H dst (P.underlying t) x
 | .next x b=>evK gt .bad E x fun x=>Dd9 E H dst b x
 | .call c=>Bx1 P gt call E H dst c c.callee
 | _=> .bad
def xop (call:Nat->List DVal->XH->COut) (E:Tr DVal) (H:XH) (dst:Option Nat) (op:Op):Out:=
 Op.casesOn (motive:=fun _=>Program->(Nat->Option DVal)->(Nat->List DVal->XH->COut)->Tr DVal->XH->Option Nat->Out) op
  (fun x P gt call E H dst=>evK gt .bad E x fun v=>Bc6 E H dst v)
  (fun x P gt call E H dst=>evK gt .bad E x fun v=>Bc6 E H dst v)
  (fun c a b P gt call E H dst=>evK gt .bad E c fun c=>evK gt .bad E a fun a=>evK gt .bad E b fun b=>Ot E H dst (Dd2 c a b))
  (fun e P gt call E H dst=>Wl .bad (fun z=>Cj0 E H dst (DVal.cells z) e) (Bq P e))
  (fun e x P gt call E H dst=>evK gt .bad E x fun x=>Cj0 E H dst x.cells e)
  (fun t ps P gt call E H dst=>Am3 gt .bad E ps.toList fun ps=>Jl E H dst (Bw0 P (Kp P t) (P.underlying t) (Bq P t) ps))
  (fun t n ps P gt call E H dst=>Am3 gt .bad E ps.toList fun ps=>Ta P E H dst n (P.underlying t) ps)
  (fun t m k x P gt call E H dst=>evK gt .bad E m fun m=>evK gt .bad E k fun k=>evK gt .bad E x fun x=>Yt P E H dst (P.underlying t) m k x)
  (fun t a P gt call E H dst=>evK gt .bad E a fun a=>Ot E H dst (Dd3 (P.cellsOf t) (Du P t) H a))
  (fun t a x P gt call E H dst=>evK gt .bad E a fun a=>evK gt .bad E x fun x=>Bool.rec (motive:=fun _=>Out) .bad (Bw9 E H (P.cellsOf t) dst a x) (P.info? t).isSome)
  (fun _ _ _ _ _ _ _=> .bad)
  (fun _ _ _ _ _ _ _=> .bad)
  (fun x P gt call E H dst=>evK gt .bad E x fun x=>Ot E H dst (Eu9 x))
  (fun op t x y _ P gt call E H dst=>evK gt .bad E x fun vx=>evK gt .bad E y fun vy=>Jl E H dst (Dd4 P t (Fl x || Fl y) op (Hj y) vx vy))
  (fun op _ x P gt call E H dst=>evK gt .bad E x fun x=>Jl E H dst (vUn op x))
  (fun src t x P gt call E H dst=>evK gt .bad E x fun x=>Jl E H dst (Bw3 P H (P.underlying src) (P.underlying t) x))
  (fun _ _ _ _ _ _ _ _=> .bad)
  (fun t x P gt call E H dst=>evK gt .bad E x fun x=>Jl E H dst (Vv t x (Ec (P.underlying t))))
  (fun fn fs cs P gt call E H dst=>Ah2 gt .bad E fs.toList fun fs=>Ah2 gt .bad E cs.toList fun cs=>Vs E H dst (.func fn fs cs))
  (fun t r P gt call E H dst=>Bv9 gt .bad E r fun r=>Ah6 E H dst (P.underlying t) r)
  (fun _ _ _ _ _ _ _ _=> .bad)
  (fun t l c P gt call E H dst=>evK gt .bad E l fun l=>evK gt .bad E c fun c=>Vw P E H dst (P.underlying t) l c)
  (fun t x lo hi mx P gt call E H dst=>evK gt .bad E x fun x=>Bv9 gt .bad E lo fun lo=>Bv9 gt .bad E hi fun hi=>Bv9 gt .bad E mx fun mx=>Jl E H dst (Bw5 P H lo hi (P.underlying t) x mx))
  (fun t x f P gt call E H dst=>evK gt .bad E x fun x=>Jl E H dst (Vt P f x (P.underlying t)))
  (fun t x f P gt call E H dst=>evK gt .bad E x fun x=>Ot E H dst (Bw6 P f (P.underlying t) x))
  (fun t x i P gt call E H dst=>evK gt .bad E x fun x=>evK gt .bad E i fun i=>Jl E H dst (Vu P (P.underlying t) x i))
  (fun t x i P gt call E H dst=>evK gt .bad E x fun x=>evK gt .bad E i fun i=>Jl E H dst (Bw7 P (P.underlying t) x i))
  (fun t x k ok P gt call E H dst=>evK gt .bad E x fun x=>evK gt .bad E k fun k=>Jl E H dst (Au9 P H ok (P.underlying t) x k))
  (fun t m k x P gt call E H dst=>evK gt .bad E m fun m=>evK gt .bad E k fun k=>evK gt .bad E x fun x=>Yt P E H dst (P.underlying t) m k x)
  (fun _ _ _ _ _ _ _ _ _=> .bad)
  (fun _ _ _ _ _ _ _ _ _ _=> .bad)
  (fun t x P gt call E H dst=>evK gt .bad E x fun x=>Bx0 E H dst (P.underlying t) x)
  (fun x b P gt call E H dst=>evK gt .bad E x fun x=>Dd9 E H dst b x)
  (fun _ _ _ _ _ _ _=> .bad)
  (fun x _ t ok P gt call E H dst=>evK gt .bad E x fun x=>Ot E H dst (Sz P t ok (Ec (P.underlying t)) x))
  (fun x i P gt call E H dst=>evK gt .bad E x fun x=>Ot E H dst (Ah4 i x))
  (fun c P gt call E H dst=>Bx1 P gt call E H dst c c.callee)
  (fun _ _ _ _ _ _ _=> .bad)
  (fun _ _ _ _ _ _ _=> .bad)
  (fun x P gt call E H dst=>evK gt .bad E x fun x=>Bx2 E H x)
  (fun _ _ _ _ _ _ _ _=> .bad)
  (fun _ _ _ _ _ _ _ _ _=> .bad)
  (fun _ _ _ _ _ _ _ _=> .bad) P gt call E H dst
def Xx (o:Out) (κ:Tr DVal->XH->Out):Out:=
 match o with
 | .norm E H=>κ E H
 | o=>o
def Eg3 (all:List Oper) (E:Tr DVal):Option (Nat×Bool)->Option Bool
 | none=>some true
 | some (j,b)=>match Pv all j with
  | some g=>match E.get g,b with
   | some (.bool true),true=>some true
   | some (.bool false),false=>some true
   | some (.bool _),_=>some false
   | some (.tuple []),_=>some false
   | _,_=>none
  | none=>none
def Eg4 (call:Nat->List DVal->XH->COut) (all:List Oper) (E:Tr DVal) (H:XH) (o:Oper):Out:=
 match Eg3 all E o.guard with
 | some true=>xop P gt call E H o.dst o.op
 | some false=>Vs E H o.dst El
 | none=> .bad
def Fj7 (call:Nat->List DVal->XH->COut) (all:List Oper) (ops:List Oper):Tr DVal->XH->Out:=
 List.rec (motive:=fun _=>Tr DVal->XH->Out) (fun E H=> .norm E H) (fun o _ ih E H=>Xx (Eg4 P gt call all E H o) ih) ops
mutual
def Cw3:DVal->DVal->Bool
 | .bool a, .bool b=>a==b
 | .int k a, .int k' b=>decide (k=k')&&decide (a=b)
 | .str a, .str b=>decide (a=b)
 | .nilPtr, .nilPtr=>true
 | .optr r o, .optr r' o'=>Nat.beq r r'&&Nat.beq o o'
 | .oslice a b c d e, .oslice a' b' c' d' e'=>Nat.beq a a'&&Nat.beq b b'&&Nat.beq c c'&&Nat.beq d d'&&Nat.beq e e'
 | .vptr cs o, .vptr cs' o'=>Nat.beq o o'&&Nb cs cs'
 | .nilSlice, .nilSlice=>true
 | .vslice cs n, .vslice cs' n'=>Nat.beq n n'&&Nb cs cs'
 | .nilMap, .nilMap=>true
 | .nilFunc, .nilFunc=>true
 | .nilIface, .nilIface=>true
 | .iface t v, .iface t' v'=>Nat.beq t t'&&Cw3 v v'
 | .agg cs, .agg cs'=>Nb cs cs'
 | .tuple cs, .tuple cs'=>Nb cs cs'
 | .func (.func f) a c, .func (.func f') a' c'=>Nat.beq f f'&&Nb a a'&&Nb c c'
 | _,_=>false
def Nb:List DVal->List DVal->Bool
 | [],[]=>true
 | a::al,b::bl=>Cw3 a b&&Nb al bl
 | _,_=>false
end
def Cw4:Option DObj->Option DObj->Bool
 | some (.cells cs e),some (.cells cs' e')=>Nat.beq e e'&&Nb cs cs'
 | some (.iter s p),some (.iter s' p')=>decide (s=s')&&Nat.beq p p'
 | _,_=>false
def Cw5 (H H':XH):DVal->Bool
 | .optr r _=>Cw4 (Aw H r) (Aw H' r)
 | .oslice _ r _ _ _=>Cw4 (Aw H r) (Aw H' r)
 | _=>true
def Eg5 (E:Tr DVal) (H H':XH):Option Operand->Bool
 | some a=>evK gt false E a fun v=>Cw5 H H' v
 | none=>true
def Bd2 (all:List Oper) (E:Tr DVal) (H H':XH):List Nat->Bool
 | []=>true
 | l::ls=>Eg5 gt E H H' (Uz (Fe all l))&&Bd2 all E H H' ls
def xat (call:Nat->List DVal->XH->COut) (all:List Oper) (E:Tr DVal) (H:XH) (i:Nat):Out:=
 match Fe all i with
 | some o=>Eg4 P gt call all E H o
 | none=> .bad
def Cj3:Out->Out
 | .norm E H=> .norm E H
 | .panic v _ H=> .panicX v H
 | _=> .bad
mutual
def Jt:DVal->Bool
 | .raw _ | .bool _ | .int _ _ | .str _ | .nilPtr | .nilSlice | .nilMap | .nilFunc | .nilIface=>true
 | .vptr cs _=>Ka cs
 | .vslice cs _=>Ka cs
 | .agg cs=>Ka cs
 | .tuple cs=>Ka cs
 | .iface _ v=>Jt v
 | .func _ a c=>Ka a&&Ka c
 | _=>false
def Ka:List DVal->Bool
 | []=>true
 | v::vs=>Jt v&&Ka vs
end
def Tf (π:List (Nat×Nat)) (k:Nat):Option Nat:=
 List.rec (motive:=fun _=>Option Nat) none (fun x _ ih=>Bool.rec (motive:=fun _=>Option Nat) ih (some x.2) (Nat.beq x.1 k)) π
def At4 (π:List (Nat×Nat)) (nx k k':Nat):Bool:=
 Bool.rec (motive:=fun _=>Bool) (match Tf π k with | some j=>Nat.beq j k' | none=>false) (Nat.beq k k') (Nat.blt k nx)
mutual
def eqP (π:List (Nat×Nat)) (nx:Nat):DVal->DVal->Bool
 | .bool a, .bool b=>a==b
 | .int k a, .int k' b=>decide (k=k')&&decide (a=b)
 | .str a, .str b=>Cv9 a b
 | .nilPtr, .nilPtr=>true
 | .optr r o, .optr r' o'=>At4 π nx r r'&&Nat.beq o o'
 | .oslice a b c d e, .oslice a' b' c' d' e'=>Nat.beq a a'&&At4 π nx b b'&&Nat.beq c c'&&Nat.beq d d'&&Nat.beq e e'
 | .omap r, .omap r'=>At4 π nx r r'
 | .vptr cs o, .vptr cs' o'=>Nat.beq o o'&&Yx π nx cs cs'
 | .nilSlice, .nilSlice=>true
 | .vslice cs n, .vslice cs' n'=>Nat.beq n n'&&Yx π nx cs cs'
 | .nilMap, .nilMap=>true
 | .nilFunc, .nilFunc=>true
 | .nilIface, .nilIface=>true
 | .iface t v, .iface t' v'=>Nat.beq t t'&&eqP π nx v v'
 | .agg cs, .agg cs'=>Yx π nx cs cs'
 | .tuple cs, .tuple cs'=>Yx π nx cs cs'
 | .func (.func f) a c, .func (.func f') a' c'=>Nat.beq f f'&&Yx π nx a a'&&Yx π nx c c'
 | _,_=>false
def Yx (π:List (Nat×Nat)) (nx:Nat):List DVal->List DVal->Bool
 | [],[]=>true
 | a::al,b::bl=>eqP π nx a b&&Yx π nx al bl
 | _,_=>false
end
mutual
def Fj8 (nx:Nat):DVal->DVal->List (Nat×Nat)->List (Nat×Nat)
 | .optr r _, .optr r' _,π=>Fj9 nx r r' π
 | .oslice _ r _ _ _, .oslice _ r' _ _ _,π=>Fj9 nx r r' π
 | .omap r, .omap r',π=>Fj9 nx r r' π
 | .iface _ v, .iface _ v',π=>Fj8 nx v v' π
 | .agg cs, .agg cs',π=>Bd3 nx cs cs' π
 | .tuple cs, .tuple cs',π=>Bd3 nx cs cs' π
 | .func _ a c, .func _ a' c',π=>Bd3 nx c c' (Bd3 nx a a' π)
 | _,_,π=>π
def Bd3 (nx:Nat):List DVal->List DVal->List (Nat×Nat)->List (Nat×Nat)
 | a::al,b::bl,π=>Bd3 nx al bl (Fj8 nx a b π)
 | _,_,π=>π
def Fj9 (nx r r':Nat) (π:List (Nat×Nat)):List (Nat×Nat):=
 match Nat.blt r nx,Tf π r with
 | false,none=>(r,r')::π
 | _,_=>π
end
def Dp7 (nx:Nat):Tr DVal->Tr DVal->List (Nat×Nat)->List (Nat×Nat)
 | .node l v r, .node l' v' r',π=>Dp7 nx r r' (Dp7 nx l l' (match v,v' with | some x,some y=>Fj8 nx x y π | _,_=>π))
 | _,_,π=>π
def Ev0 (nx:Nat) (A A':XH) (π0:List (Nat×Nat)) (π:List (Nat×Nat)):List (Nat×Nat):=
 π0.foldl (fun π x=>match Aw A x.1,Aw A' x.2 with
  | some (.cells cs _),some (.cells cs' _)=>Bd3 nx cs cs' π
  | _,_=>π) π
def Dp8 (nx:Nat) (t:Tr (Option DObj)) (t1 t2:Tr (Option DObj)) (π:List (Nat×Nat)):List (Nat×Nat):=
 match t,t1,t2 with
 | .node l v r, .node l1 v1 r1, .node l2 v2 r2=>Dp8 nx r r1 r2 (Dp8 nx l l1 l2 (match v,v1,v2 with
  | some (some _),some (some (.cells cs _)),some (some (.cells cs' _))=>Bd3 nx cs cs' π
  | _,_,_=>π))
 | _,_,_=>π
def Bx3 (es:List (DVal×DVal)):Bool:=es.all fun p=>Jt p.1&&Jt p.2
def Ey8:List (DVal×DVal)->Bool
 | (.agg [.bool _, .bool _],_)::_=>true
 | _=>false
def lkB (es es':List (DVal×DVal)) (k:DVal):Bool:=
 match Ga k es 0,Ga k es' 0 with
 | some none,some none=>true
 | some (some i),some (some j)=>match es[i]?,es'[j]? with
  | some p,some p'=>Cw3 p.2 p'.2&&Jt p.2
  | _,_=>false
 | _,_=>false
def lkA (es es':List (DVal×DVal)):Bool:=
 Ey8 es&&Bx3 es'&&lkB es es' (.agg [.bool true, .bool true])&&lkB es es' (.agg [.bool true, .bool false])&&lkB es es' (.agg [.bool false, .bool true])&&lkB es es' (.agg [.bool false, .bool false])
def Fk0 (es:List (DVal×DVal)) (i:Nat):DVal:=
 match es[i/2]? with
 | some p=>Bool.rec (motive:=fun _=>DVal) p.2 p.1 (Nat.beq (i%2) 0)
 | none=> .nilPtr
def De0:Loop:= { state:= .ready,pending:=none,fn:=0,tmps:= #[],params:= #[],assign:= .skip,body:= .skip,defers:=0 }
def Ah7 (π:List (Nat×Nat)) (nx:Nat):Option DObj->Option DObj->Option (Option DObj)
 | some (.cells cs e),some (.cells cs' e')=>Bool.rec (motive:=fun _=>Option (Option DObj)) none (some (some (.cells cs e))) (Nat.beq e e'&&Yx π nx cs cs')
 | some (.iter l p),some (.iter l' p')=>Bool.rec (motive:=fun _=>Option (Option DObj)) none (some (some (.iter l p))) (Cv9 l l'&&Nat.beq p p')
 | some (.map es),some (.map es')=>Bool.rec (motive:=fun _=>Option (Option DObj)) none (some (some (.loop (Fk0 es) es.length De0))) (lkA (Bh6 (Fk0 es) es.length) es&&lkA (Bh6 (Fk0 es) es.length) es')
 | some (.loop env n _),some (.map es')=>Bool.rec (motive:=fun _=>Option (Option DObj)) none (some (some (.loop env n De0))) (lkA (Bh6 env n) es')
 | some (.map es),some (.loop env n _)=>Bool.rec (motive:=fun _=>Option (Option DObj)) none (some (some (.loop env n De0))) (lkA (Bh6 env n) es)
 | some (.loop env n _),some (.loop env' n' _)=>Bool.rec (motive:=fun _=>Option (Option DObj)) none (some (some (.loop env n De0))) (lkA (Bh6 env n) (Bh6 env' n'))
 | _,_=>none
def Bx4 {α:Type}:Option α->Bool
 | some _=>true
 | none=>false
def Vx (π:List (Nat×Nat)) (nx:Nat) (A A':XH) (ks:List (Nat×Nat)):Tr (Option DObj)->(Tr (Option DObj)->Out)->Out:=
 List.rec (motive:=fun _=>Tr (Option DObj)->(Tr (Option DObj)->Out)->Out) (fun t κ=>κ t)
  (fun x _ ih t κ=>match Tf π x.1 with
   | some j=>match Ah7 π nx (Aw A x.1) (Aw A' j) with
    | some (some o)=>Tr.setK .bad (some o) 24 t x.1 fun t=>ih t κ
    | _=>ih t κ
   | none=>ih t κ) ks
def Bx5:List (Nat×Nat)->Bool
 | []=>true
 | x::l=>(l.all fun y=>!Nat.beq x.2 y.2)&&Bx5 l
def Ev1 (π:List (Nat×Nat)) (nx mx:Nat):Bool:=(π.all fun x=>Nat.ble nx x.1&&Nat.ble nx x.2&&Nat.blt x.1 mx)&&Bx5 π
def Eg6 (E0:Tr DVal) (A0:XH):Out->Out->Out
 | .norm E A, .norm E' A'=>
  Zf (Ev0 A0.nx A A' (Ev0 A0.nx A A' (Dp8 A0.nx A0.tr A.tr A'.tr (Dp7 A0.nx E E' [])) (Dp8 A0.nx A0.tr A.tr A'.tr (Dp7 A0.nx E E' []))) (Ev0 A0.nx A A' (Dp8 A0.nx A0.tr A.tr A'.tr (Dp7 A0.nx E E' [])) (Dp8 A0.nx A0.tr A.tr A'.tr (Dp7 A0.nx E E' [])))) fun π=>
  Nu (max A0.nx (max A.nx A'.nx)) fun mx=>Bool.rec (motive:=fun _=>Out) .bad
   (Vx π A0.nx A A' π (Ah1 Bx4 (Ah7 π A0.nx) A0.tr A.tr A'.tr) fun t=> .norm (Zg (fun v w=>Bool.rec (motive:=fun _=>Option DVal) none (some v) (eqP π A0.nx v w)) E E') ⟨t,mx⟩)
   (Ev1 π A0.nx mx)
 | _,_=> .bad
def Ah8 (call:Nat->List DVal->XH->COut) (all:List Oper):Plan->Tr DVal->XH->Out
 | .done,E,H=> .norm E H
 | .take i p,E,H=>Xx (xat P gt call all E H i) fun E H=>Ah8 call all p E H
 | .go i ls p,E,H=>Xx (xat P gt call all E H i) fun E' H'=>Bool.rec (motive:=fun _=>Out) .bad (Ah8 call all p E' H') (Bd2 gt all E H H' ls)
 | .alt p q,E,H=>Eg6 E H (Ah8 call all p E H) (Ah8 call all q E H)
inductive LOut where
 | more (E:Tr DVal) (H:XH)
 | stop (o:Out)
def Cj4 (body:Tr DVal->XH->Out) (E:Tr DVal) (H:XH):LOut:=
 match body E H with
 | .norm E H=> .more E H
 | o=> .stop o
def Bd4 (f:Tr DVal->XH->LOut) (E:Tr DVal) (H:XH):LOut:=
 match f E H with
 | .more E H=>f E H
 | .stop o=> .stop o
def Bd5 (body:Tr DVal->XH->Out) (n:Nat):Tr DVal->XH->LOut:=
 Nat.rec (motive:=fun _=>Tr DVal->XH->LOut) (Cj4 body) (fun _ ih=>Bd4 ih) n
def Ey9:LOut->Out
 | .stop o=>o
 | .more _ _=> .bad
def Bx6 (id:Nat):Out->Out
 | .exit id' E H=>Bool.rec (motive:=fun _=>Out) (.exit id' E H) (.norm E H) (Nat.beq id' id)
 | o=>o
def Ez0 (x y:Out):DVal->Out
 | .bool true=>x
 | .bool false=>y
 | _=> .bad
def Ah9 (args:List DVal):Nat->Tr DVal->(Tr DVal->COut)->COut:=
 List.rec (motive:=fun _=>Nat->Tr DVal->(Tr DVal->COut)->COut) (fun _ E κ=>κ E) (fun x _ ih k E κ=>Tr.setK .bad x 10 E k fun E=>Nu (k+1) fun k=>ih k E κ) args
def De1 (E:Tr DVal) (H:XH):ResultVar->Option DVal
 | .tmp t=>E.get t
 | .cell x t=>match E.get x with
  | some (.optr r off)=>Bw2 (P.cellsOf t) (Du P t) off (Aw H r)
  | _=>none
def Ar3 (E:Tr DVal) (H:XH):List ResultVar->Option (List DVal)
 | []=>some []
 | r::rs=>Cc5 (De1 P E H r) (Ar3 E H rs)
def Dp9 (rs:List ResultVar) (E:Tr DVal) (H:XH):COut:=Wl .bad (fun v=>fvK v fun v=> .cret v H) (Ih (Ar3 P E H rs))
def Fr1 (rs:List ResultVar):Out->COut
 | .norm E H=>Dp9 P rs E H
 | .ret E H=>Dp9 P rs E H
 | .panic v _ H=> .cpanic v H
 | .panicX v H=> .cpanic v H
 | _=> .bad
structure Late where
 A1:Code
 A2:Code
 d:Nat
 g:FuncId
 caps:List Operand
 C:Code
def Bd6:Code->Option Late
 | .seq A1 (.seq A2 (.seq (.region _ ⟨[⟨some d, .makeFunc (.func g) ⟨[]⟩ ⟨caps⟩,_,_,_,none⟩,⟨none, .defer ⟨.value (.tmp d'),⟨[]⟩,⟨[]⟩⟩,_,_,_,none⟩]⟩ false) C))=>if d'=d then some ⟨A1,A2,d,g,caps,C⟩ else none
 | _=>none
def Bn1:Code->Option (Nat×Nat×Code)
 | .seq (.region _ ⟨[⟨some t1, .call ⟨.builtin .recover,⟨[]⟩,⟨[]⟩⟩,_,_,_,none⟩,⟨some t2, .assign (.tmp t1'),_,_,_,none⟩]⟩ false) cc=>if t1'=t1 then some (t1,t2,cc) else none
 | _=>none
end
end
end Go.Dl

-- AN INTERPRETER OF THE DATA LEVEL, PART 2: how its values stand for those of the data level.
namespace Go.Dl
open Go
theorem Pa {R:Type} (n:Nat) (κ:Nat->R):Nu n κ=κ n:=by cases n<;>rfl
theorem Ev2 {R:Type} (n:Int) (κ:Int->R):Fj0 n κ=κ n:=by
 cases n with
 | ofNat m=>exact Pa m fun m=>κ (.ofNat m)
 | negSucc m=>exact Pa m fun m=>κ (.negSucc m)
theorem Ai0 {α R:Type}: ∀(l:List α) (κ:List α->R),Zf l κ=κ l
 | [],_=>rfl
 | x::l,κ=>Ai0 l (fun l=>κ (x::l))
theorem Eg7 {R:Type} (b:Bool) (κ:Bool->R):Ef6 b κ=κ b:=by cases b<;>rfl
theorem Cj5 {R:Type}: ∀(vs cs:List DVal) (κ:List DVal->R),Ef7 vs cs κ=κ (splice cs 0 vs)
 | [],cs,κ=>by show κ cs=_;simp [splice]
 | v::vs,[],κ=>by show κ (v::vs)=_;simp [splice]
 | v::vs,c::cs,κ=>by
  show Ef7 vs cs (fun r=>κ (v::r))=_;rw[Cj5 vs cs];simp [splice]
theorem Av0 {R:Type} (vs:List DVal): ∀(off:Nat) (cs:List DVal) (κ:List DVal->R),Cv6 vs off cs κ=κ (splice cs off vs)
 | 0,cs,κ=>Cj5 vs cs κ
 | off+1,[],κ=>by show κ vs=_;simp [splice]
 | off+1,c::cs,κ=>by
  show Cv6 vs off cs (fun r=>κ (c::r))=_;rw[Av0 vs off cs];simp [splice,Nat.add_right_comm]
theorem De2 {R:Type}: ∀(xs ys:List DVal) (κ:List DVal->R),Fq7 xs ys κ=κ (xs++ys)
 | [],_,_=>rfl
 | x::xs,ys,κ=>De2 xs ys fun r=>κ (x::r)
theorem Xy {R:Type}: ∀(n:Nat) (cs:List DVal) (κ:List DVal->R),Bm7 n cs κ=κ (cs.take n)
 | 0,cs,κ=>by show κ []=_;simp
 | n+1,[],κ=>by show κ []=_;simp
 | n+1,c::cs,κ=>by
  show Bm7 n cs (fun r=>κ (c::r))=_;rw[Xy n cs];simp
theorem Ai1: ∀(n:Nat) (cs:List DVal),Dd1 n cs=cs.drop n
 | 0,cs=>rfl
 | n+1,[]=>rfl
 | n+1,c::cs=>Ai1 n cs
theorem Bx7: ∀(n:Nat) (cs:List DVal),Eu8 n cs=cs[n]?
 | 0,[]=>rfl
 | 0,c::cs=>rfl
 | n+1,[]=>rfl
 | n+1,c::cs=>by
  show Eu8 n cs=_;rw[Bx7 n cs];simp
theorem Xz: ∀(n:Nat) (cs:List DVal),leN n cs=decide (n<=cs.length)
 | 0,cs=>by show true=_;simp
 | n+1,[]=>by show false=_;simp
 | n+1,c::cs=>by
  show leN n cs=_;rw[Xz n cs];simp
theorem Bd7: ∀(n:Nat) (cs:List DVal),eqN n cs=decide (cs.length=n)
 | 0,[]=>rfl
 | 0,c::cs=>by show false=_;simp
 | n+1,[]=>by show false=_;simp
 | n+1,c::cs=>by
  show eqN n cs=_;rw[Bd7 n cs];simp
theorem Ai2 {R:Type} (z:R) (place:Nat->Option (Nat×Nat)): ∀(parts:List (Nat×DVal)) (cs:List DVal) (κ:List DVal->R),Bm8 z place parts cs κ=match Nf place cs parts with | some l=>κ l | none=>z
 | [],cs,κ=>rfl
 | (i,v)::parts,cs,κ=>by
  show Wl z (fun os=>Bool.rec (motive:=fun _=>R) z (Cv6 v.cells os.1 cs fun cs=>Bm8 z place parts cs κ) (eqN os.2 v.cells&&leN (os.1+os.2) cs)) (place i)=_
  simp only[Nf]
  cases place i with
  | none=>rfl
  | some os=>
   obtain⟨off,size⟩:=os
   simp only[Wl]
   by_cases hc:v.cells.length=size/\off+v.cells.length<=cs.length
   ·rw[if_pos hc]
    have:(eqN size v.cells&&leN (off+size) cs)=true:=by
     rw[Bd7,Xz]
     simp only[jF,decide_eq_true_eq]
     exact⟨hc.1,by rw[<-hc.1];exact hc.2⟩
    rw[this]
    show Cv6 v.cells off cs (fun cs=>Bm8 z place parts cs κ)=_
    rw[Av0,Ai2 z place parts]
    rfl
   ·rw[if_neg hc]
    have:(eqN size v.cells&&leN (off+size) cs)=false:=by
     rw[Bd7,Xz]
     cases hb:(decide (v.cells.length=size)&&decide (off+size<=cs.length)) with
     | false=>rfl
     | true=>
      simp only[jF,decide_eq_true_eq] at hb
      exact(hc ⟨hb.1,by rw[hb.1];exact hb.2⟩).elim
    rw[this]
theorem Am6 (size:Nat) (cs:List DVal) (off:Nat) (ag:Option Bool):Bw1 size cs off ag=Xa size cs off ag:=by
 unfold Bw1 Xa;split
 ·rw[Xy,Ai1,Xz];by_cases h:off+size<=cs.length
  ·rw[if_pos h,decide_eq_true h]
  ·rw[if_neg h,decide_eq_false h]
 ·exact Bx7 _ _
 ·rfl
theorem Bx8 {R:Type} (v:DVal) (κ:DVal->R):fvK v κ=κ v:=by
 have e:fvK v κ=Fq8 v κ:=by cases v<;>rfl
 rw[e];unfold Fq8;split<;>simp only[Pa,Ev2,Ai0,Eg7]
theorem Eg8 {R:Type} (v:DObj) (κ:DObj->R):foK v κ=κ v:=by
 unfold foK;split<;>simp only[Pa,Ai0]
theorem Bn2: ∀(n m k j:Nat),k<=n->j<=m->Bc5 n k=Bc5 m j->k=j
 | 0,0,k,j,h1,h2,_=>by omega
 | 0,m+1,k,j,h1,h2,h=>by
  have hk:k=0:=by omega
  subst hk;by_cases hj:j=0
  ·exact hj.symm
  ·have hb:Nat.beq j 0=false:=by
    cases hb:Nat.beq j 0 with
    | false=>rfl
    | true=>exact(hj (Nat.eq_of_beq_eq_true hb)).elim
   have h:([]:List Bool)=Bool.rec (motive:=fun _=>List Bool) (Nat.beq (Nat.mod j 2) 1::Bc5 m (Nat.div (Nat.sub j 1) 2)) [] (Nat.beq j 0):=h;rw[hb] at h;cases h
 | n+1,0,k,j,h1,h2,h=>by
  have hj:j=0:=by omega
  subst hj;by_cases hk:k=0
  ·exact hk
  ·have hb:Nat.beq k 0=false:=by
    cases hb:Nat.beq k 0 with
    | false=>rfl
    | true=>exact(hk (Nat.eq_of_beq_eq_true hb)).elim
   have h:Bool.rec (motive:=fun _=>List Bool) (Nat.beq (Nat.mod k 2) 1::Bc5 n (Nat.div (Nat.sub k 1) 2)) [] (Nat.beq k 0)=([]:List Bool):=h;rw[hb] at h;cases h
 | n+1,m+1,k,j,h1,h2,h=>by
  have h:Bool.rec (motive:=fun _=>List Bool) (Nat.beq (Nat.mod k 2) 1::Bc5 n (Nat.div (Nat.sub k 1) 2)) [] (Nat.beq k 0)=Bool.rec (motive:=fun _=>List Bool) (Nat.beq (Nat.mod j 2) 1::Bc5 m (Nat.div (Nat.sub j 1) 2)) [] (Nat.beq j 0):=h;cases hb:Nat.beq k 0<;>cases hc:Nat.beq j 0<;>rw[hb,hc] at h
  ·injection h with h3 h4;have e:=Bn2 n m ((k-1)/2) ((j-1)/2) (by omega) (by omega) h4;have hk:k≠0:=fun e=>by rw[e] at hb;cases hb
   have hj:j≠0:=fun e=>by rw[e] at hc;cases hc
   have h5:(k%2=1)↔(j%2=1):=by
    have h6: ∀a:Nat,Nat.beq (Nat.mod a 2) 1=true↔a%2=1:=fun a=>⟨fun h=>Nat.eq_of_beq_eq_true h,fun h=>by
     show Nat.beq (a%2) 1=true;rw[h];rfl⟩
    rw[<-h6,<-h6,h3]
   omega
  ·cases h
  ·cases h
  ·rw[Nat.eq_of_beq_eq_true hb,Nat.eq_of_beq_eq_true hc]
theorem Cw6 {k j:Nat} (h:Xw k=Xw j):k=j:=Bn2 k j k j (Nat.le_refl _) (Nat.le_refl _) h
theorem Bn3 {α:Type} (p:List Bool):Ui (Tr.leaf:Tr α) p=none:=rfl
theorem Cj6 {α:Type} (k:Nat):(Tr.leaf:Tr α).get k=none:=rfl
theorem Uj {α R:Type} (x:α): ∀(p:List Bool) (t:Tr α) (κ:Tr α->R),∃t',(∀q,Ui t' q=if q=p then some x else Ui t q)/\Fq6 x p t κ=κ t'
 | [], .leaf,κ=>⟨.node .leaf (some x) .leaf,fun q=>by
   cases q with
   | nil=>rfl
   | cons b q=>cases b<;>rfl,rfl⟩
 | [], .node l v r,κ=>⟨.node l (some x) r,fun q=>by
   cases q with
   | nil=>rfl
   | cons b q=>cases b<;>rfl,rfl⟩
 | true::p, .leaf,κ=>by
  obtain⟨t',h1,h2⟩:=Uj (R:=R) x p .leaf (fun l=>κ (.node l none .leaf));refine⟨.node t' none .leaf,fun q=> ?_,h2⟩;cases q with
  | nil=>rfl
  | cons b q=>cases b with
   | false=>rfl
   | true=>
    show Ui t' q=_;rw[h1];by_cases e:q=p<;>simp [e,Bn3]
 | false::p, .leaf,κ=>by
  obtain⟨t',h1,h2⟩:=Uj (R:=R) x p .leaf (fun r=>κ (.node .leaf none r));refine⟨.node .leaf none t',fun q=> ?_,h2⟩;cases q with
  | nil=>rfl
  | cons b q=>cases b with
   | true=>rfl
   | false=>
    show Ui t' q=_;rw[h1];by_cases e:q=p<;>simp [e,Bn3]
 | true::p, .node l v r,κ=>by
  obtain⟨t',h1,h2⟩:=Uj (R:=R) x p l (fun l=>κ (.node l v r));refine⟨.node t' v r,fun q=> ?_,h2⟩;cases q with
  | nil=>rfl
  | cons b q=>cases b with
   | false=>rfl
   | true=>
    show Ui t' q=if(true::q)=(true::p) then some x else Ui l q
    rw[h1];by_cases e:q=p<;>simp [e]
 | false::p, .node l v r,κ=>by
  obtain⟨t',h1,h2⟩:=Uj (R:=R) x p r (fun r=>κ (.node l v r));refine⟨.node l v t',fun q=> ?_,h2⟩;cases q with
  | nil=>rfl
  | cons b q=>cases b with
   | true=>rfl
   | false=>
    show Ui t' q=if(false::q)=(false::p) then some x else Ui r q
    rw[h1];by_cases e:q=p<;>simp [e]
theorem Ou {α R:Type} {z:R} {x:α} (n:Nat) (t:Tr α) (k:Nat) (κ:Tr α->R):Tr.setK z x n t k κ=z\/ ∃t',(∀j,t'.get j=if j=k then some x else t.get j)/\Tr.setK z x n t k κ=κ t':=by
 obtain⟨t',h1,h2⟩:=Uj x (Xw k) t κ;refine .inr ⟨t',fun j=> ?_,h2⟩;show Ui t' (Xw j)=_;rw[h1];by_cases e:j=k
 ·rw[if_pos e,if_pos (by rw[e])]
 ·rw[if_neg e,if_neg fun h=>e (Cw6 h)];rfl
theorem Am7 {α:Type} (f:α->α->Option α): ∀(t t':Tr α) (p:List Bool) (x:α),Ui (Zg f t t') p=some x-> ∃a b,Ui t p=some a/\Ui t' p=some b/\f a b=some x
 | .leaf,t',p,x,h=>by
  have:Zg f .leaf t'= .leaf:=by cases t'<;>rfl
  rw[this] at h;cases h
 | .node l v r, .leaf,p,x,h=>by
  have h:Ui (.leaf:Tr α) p=some x:=h;cases h
 | .node l v r, .node l' v' r',[],x,h=>by
  have h:Ey5 f v v'=some x:=h;show∃a b,v=some a/\v'=some b/\f a b=some x;cases v with
  | none=>cases v'<;>cases h
  | some a=>cases v' with
   | none=>cases h
   | some b=>exact⟨a,b,rfl,rfl,h⟩
 | .node l v r, .node l' v' r',true::p,x,h=>Am7 f l l' p x h
 | .node l v r, .node l' v' r',false::p,x,h=>Am7 f r r' p x h
theorem Eg9 {α:Type} {f:α->α->Option α} {t t':Tr α} {k:Nat} {x:α} (h:(Zg f t t').get k=some x): ∃a b,t.get k=some a/\t'.get k=some b/\f a b=some x:=Am7 f t t' (Xw k) x h
theorem Ab8 {α:Type} (g:α->Bool) (f:α->α->Option α): ∀(t t1 t2:Tr α) (p:List Bool) (x:α),Ui (Ah1 g f t t1 t2) p=some x-> ∃z a b,Ui t p=some z/\g z=true/\Ui t1 p=some a/\Ui t2 p=some b/\f a b=some x
 | .leaf,t1,t2,p,x,h=>by
  have:Ah1 g f .leaf t1 t2= .leaf:=by cases t1<;>cases t2<;>rfl
  rw[this] at h;cases h
 | .node l v r, .leaf,t2,p,x,h=>by
  have:Ah1 g f (.node l v r) .leaf t2= .leaf:=by cases t2<;>rfl
  rw[this] at h;cases h
 | .node l v r, .node l1 v1 r1, .leaf,p,x,h=>by
  have h:Ui (.leaf:Tr α) p=some x:=h;cases h
 | .node l v r, .node l1 v1 r1, .node l2 v2 r2,[],x,h=>by
  have h:Ey6 g f v v1 v2=some x:=h;show∃z a b,v=some z/\g z=true/\v1=some a/\v2=some b/\f a b=some x;cases v with
  | none=>cases v1<;>cases v2<;>cases h
  | some z=>cases v1 with
   | none=>cases v2<;>cases h
   | some a=>cases v2 with
    | none=>cases h
    | some b=>
     have h:Bool.rec (motive:=fun _=>Option α) none (f a b) (g z)=some x:=h;cases hg:g z with
     | false=>rw[hg] at h;cases h
     | true=>rw[hg] at h;exact⟨z,a,b,rfl,hg,rfl,rfl,h⟩
 | .node l v r, .node l1 v1 r1, .node l2 v2 r2,true::p,x,h=>Ab8 g f l l1 l2 p x h
 | .node l v r, .node l1 v1 r1, .node l2 v2 r2,false::p,x,h=>Ab8 g f r r1 r2 p x h
theorem Dq0 {α:Type} {g:α->Bool} {f:α->α->Option α} {t t1 t2:Tr α} {k:Nat} {x:α} (h:(Ah1 g f t t1 t2).get k=some x): ∃z a b,t.get k=some z/\g z=true/\t1.get k=some a/\t2.get k=some b/\f a b=some x:=Ab8 g f t t1 t2 (Xw k) x h
mutual
/-- The interpreter's value stands for that of the data level. -/
def RV (ρ:Nat->Option Nat):DVal->DVal->Prop
 | .raw x,d=>d= .raw x
 | .bool b,d=>d= .bool b
 | .int k n,d=>d= .int k n
 | .str s,d=>d= .str s
 | .nilPtr,d=>d= .nilPtr
 | .vptr cs off,d=> ∃cs',d= .vptr cs' off/\RVL ρ cs cs'
 | .optr k off,d=> ∃r,d= .optr r off/\ρ k=some r
 | .nilSlice,d=>d= .nilSlice
 | .vslice cs n,d=> ∃cs',d= .vslice cs' n/\RVL ρ cs cs'
 | .oslice sz k off len lo,d=> ∃r,d= .oslice sz r off len lo/\ρ k=some r
 | .nilMap,d=>d= .nilMap
 | .omap k,d=> ∃r,d= .omap r/\ρ k=some r
 | .func fn a c,d=> ∃a' c',d= .func fn a' c'/\RVL ρ a a'/\RVL ρ c c'
 | .nilFunc,d=>d= .nilFunc
 | .iface t v,d=> ∃v',d= .iface t v'/\RV ρ v v'
 | .nilIface,d=>d= .nilIface
 | .agg cs,d=> ∃cs',d= .agg cs'/\RVL ρ cs cs'
 | .tuple cs,d=> ∃cs',d= .tuple cs'/\RVL ρ cs cs'
def RVL (ρ:Nat->Option Nat):List DVal->List DVal->Prop
 | [],ds=>ds= []
 | x::xs,ds=> ∃y ys,ds=y::ys/\RV ρ x y/\RVL ρ xs ys
end
def RVM (ρ:Nat->Option Nat):List (DVal×DVal)->List (DVal×DVal)->Prop
 | [],es=>es= []
 | p::ps,es=> ∃q qs,es=q::qs/\RV ρ p.1 q.1/\RV ρ p.2 q.2/\RVM ρ ps qs
def RVP (ρ:Nat->Option Nat):List (Nat×DVal)->List (Nat×DVal)->Prop
 | [],es=>es= []
 | p::ps,es=> ∃v qs,es=(p.1,v)::qs/\RV ρ p.2 v/\RVP ρ ps qs
def LK (es es':List (DVal×DVal)):Prop:= ∀k r,Ga k es 0=some r-> ∃r',Ga k es' 0=some r'/\
 ((r=none/\r'=none)\/ ∃i j p p',r=some i/\r'=some j/\es[i]? =some p/\es'[j]? =some p'/\p.2=p'.2/\Jt p.2=true)
theorem LK.trans {a b c:List (DVal×DVal)} (h:LK a b) (k:LK b c):LK a c:=fun q r hr=>by
 obtain⟨r1,h1,h2⟩:=h q r hr;obtain⟨r2,k1,k2⟩:=k q r1 h1;refine⟨r2,k1, ?_⟩;rcases h2 with⟨rfl,rfl⟩ | ⟨i,j,p,p',rfl,rfl,e1,e2,e3,e4⟩
 ·rcases k2 with⟨_,rfl⟩ | ⟨i,j,p,p',e,_⟩
  ·exact .inl ⟨rfl,rfl⟩
  ·cases e
 ·rcases k2 with⟨e,_⟩ | ⟨i',j',q1,q2,e,rfl,f1,f2,f3,f4⟩
  ·cases e
  ·cases e;rw[e2] at f1;cases f1;exact .inr ⟨i,j',p,q2,rfl,rfl,e1,f2,e3.trans f3,e4⟩
def RO (ρ:Nat->Option Nat):DObj->DObj->Prop
 | .cells cs e,o=> ∃cs',o= .cells cs' e/\RVL ρ cs cs'
 | .map es,o=> ∃es',o= .map es'/\RVM ρ es es'
 | .iter s p,o=>o= .iter s p
 | .loop env n _,o=> ∃es',o= .map es'/\LK (Bh6 env n) es'
def Ble (ρ ρ':Nat->Option Nat):Prop:= ∀k r,ρ k=some r->ρ' k=some r
theorem Ble.refl (ρ:Nat->Option Nat):Ble ρ ρ:=fun _ _ h=>h
theorem Ble.trans {ρ ρ' ρ'':Nat->Option Nat} (h:Ble ρ ρ') (k:Ble ρ' ρ''):Ble ρ ρ'':=fun a r e=>k a r (h a r e)
section
variable {ρ ρ':Nat->Option Nat}
mutual
theorem RV.mono (h:Ble ρ ρ'): ∀ {v d:DVal},RV ρ v d->RV ρ' v d
 | .raw _,_,hr=>by simpa only[RV] using hr
 | .bool _,_,hr=>by simpa only[RV] using hr
 | .int _ _,_,hr=>by simpa only[RV] using hr
 | .str _,_,hr=>by simpa only[RV] using hr
 | .nilPtr,_,hr=>by simpa only[RV] using hr
 | .vptr cs off,d,hr=>by
  simp only[RV] at hr⊢
  obtain⟨cs',e,hl⟩:=hr
  exact⟨cs',e,RVL.mono h hl⟩
 | .optr k off,d,hr=>by
  simp only[RV] at hr⊢
  obtain⟨r,e,hk⟩:=hr
  exact⟨r,e,h k r hk⟩
 | .nilSlice,_,hr=>by simpa only[RV] using hr
 | .vslice cs n,d,hr=>by
  simp only[RV] at hr⊢
  obtain⟨cs',e,hl⟩:=hr
  exact⟨cs',e,RVL.mono h hl⟩
 | .oslice sz k off len lo,d,hr=>by
  simp only[RV] at hr⊢
  obtain⟨r,e,hk⟩:=hr
  exact⟨r,e,h k r hk⟩
 | .nilMap,_,hr=>by simpa only[RV] using hr
 | .omap k,d,hr=>by
  simp only[RV] at hr⊢
  obtain⟨r,e,hk⟩:=hr
  exact⟨r,e,h k r hk⟩
 | .func fn a c,d,hr=>by
  simp only[RV] at hr⊢
  obtain⟨a',c',e,h1,h2⟩:=hr
  exact⟨a',c',e,RVL.mono h h1,RVL.mono h h2⟩
 | .nilFunc,_,hr=>by simpa only[RV] using hr
 | .iface t v,d,hr=>by
  simp only[RV] at hr⊢
  obtain⟨v',e,hv⟩:=hr
  exact⟨v',e,RV.mono h hv⟩
 | .nilIface,_,hr=>by simpa only[RV] using hr
 | .agg cs,d,hr=>by
  simp only[RV] at hr⊢
  obtain⟨cs',e,hl⟩:=hr
  exact⟨cs',e,RVL.mono h hl⟩
 | .tuple cs,d,hr=>by
  simp only[RV] at hr⊢
  obtain⟨cs',e,hl⟩:=hr
  exact⟨cs',e,RVL.mono h hl⟩
theorem RVL.mono (h:Ble ρ ρ'): ∀ {vs ds:List DVal},RVL ρ vs ds->RVL ρ' vs ds
 | [],_,hr=>by simpa only[RVL] using hr
 | x::xs,ds,hr=>by
  simp only[RVL] at hr⊢
  obtain⟨y,ys,e,h1,h2⟩:=hr
  exact⟨y,ys,e,RV.mono h h1,RVL.mono h h2⟩
end
theorem RVM.mono (h:Ble ρ ρ'): ∀ {vs ds:List (DVal×DVal)},RVM ρ vs ds->RVM ρ' vs ds
 | [],_,hr=>hr
 | x::xs,ds,hr=>by
  obtain⟨y,ys,e,h1,h2,h3⟩:=hr;exact⟨y,ys,e,RV.mono h h1,RV.mono h h2,RVM.mono h h3⟩
theorem RO.mono (h:Ble ρ ρ') {o o':DObj} (hr:RO ρ o o'):RO ρ' o o':=by
 cases o with
 | cells cs e=>
  obtain⟨cs',e,hl⟩:=hr;exact⟨cs',e,hl.mono h⟩
 | map es=>
  obtain⟨cs',e,hl⟩:=hr;exact⟨cs',e,hl.mono h⟩
 | iter s p=>exact hr
 | loop=>exact hr
mutual
/-- What it stands for is one value alone. -/
theorem RV.fn: ∀ {v d d':DVal},RV ρ v d->RV ρ v d'->d=d'
 | .raw _,_,_,h,h'=>by simp only[RV] at h h';rw[h,h']
 | .bool _,_,_,h,h'=>by simp only[RV] at h h';rw[h,h']
 | .int _ _,_,_,h,h'=>by simp only[RV] at h h';rw[h,h']
 | .str _,_,_,h,h'=>by simp only[RV] at h h';rw[h,h']
 | .nilPtr,_,_,h,h'=>by simp only[RV] at h h';rw[h,h']
 | .nilSlice,_,_,h,h'=>by simp only[RV] at h h';rw[h,h']
 | .nilMap,_,_,h,h'=>by simp only[RV] at h h';rw[h,h']
 | .nilFunc,_,_,h,h'=>by simp only[RV] at h h';rw[h,h']
 | .nilIface,_,_,h,h'=>by simp only[RV] at h h';rw[h,h']
 | .vptr cs off,_,_,h,h'=>by
  simp only[RV] at h h'
  obtain⟨a,rfl,h1⟩:=h;obtain⟨b,rfl,h2⟩:=h'
  rw[RVL.fn h1 h2]
 | .vslice cs off,_,_,h,h'=>by
  simp only[RV] at h h'
  obtain⟨a,rfl,h1⟩:=h;obtain⟨b,rfl,h2⟩:=h'
  rw[RVL.fn h1 h2]
 | .agg cs,_,_,h,h'=>by
  simp only[RV] at h h'
  obtain⟨a,rfl,h1⟩:=h;obtain⟨b,rfl,h2⟩:=h'
  rw[RVL.fn h1 h2]
 | .tuple cs,_,_,h,h'=>by
  simp only[RV] at h h'
  obtain⟨a,rfl,h1⟩:=h;obtain⟨b,rfl,h2⟩:=h'
  rw[RVL.fn h1 h2]
 | .func fn a c,_,_,h,h'=>by
  simp only[RV] at h h'
  obtain⟨a,b,rfl,h1,h3⟩:=h;obtain⟨a',b',rfl,h2,h4⟩:=h'
  rw[RVL.fn h1 h2,RVL.fn h3 h4]
 | .iface t v,_,_,h,h'=>by
  simp only[RV] at h h'
  obtain⟨a,rfl,h1⟩:=h;obtain⟨b,rfl,h2⟩:=h'
  rw[RV.fn h1 h2]
 | .optr k off,_,_,h,h'=>by
  simp only[RV] at h h'
  obtain⟨a,rfl,h1⟩:=h;obtain⟨b,rfl,h2⟩:=h'
  rw[h1] at h2;cases h2;rfl
 | .oslice _ k _ _ _,_,_,h,h'=>by
  simp only[RV] at h h'
  obtain⟨a,rfl,h1⟩:=h;obtain⟨b,rfl,h2⟩:=h'
  rw[h1] at h2;cases h2;rfl
 | .omap k,_,_,h,h'=>by
  simp only[RV] at h h'
  obtain⟨a,rfl,h1⟩:=h;obtain⟨b,rfl,h2⟩:=h'
  rw[h1] at h2;cases h2;rfl
theorem RVL.fn: ∀ {v d d':List DVal},RVL ρ v d->RVL ρ v d'->d=d'
 | [],_,_,h,h'=>by simp only[RVL] at h h';rw[h,h']
 | x::xs,_,_,h,h'=>by
  simp only[RVL] at h h'
  obtain⟨a,b,rfl,h1,h3⟩:=h;obtain⟨a',b',rfl,h2,h4⟩:=h'
  rw[RV.fn h1 h2,RVL.fn h3 h4]
end
theorem RVL.length: ∀ {xs ys:List DVal},RVL ρ xs ys->ys.length=xs.length
 | [],_,h=>by simp only[RVL] at h;subst h;rfl
 | x::xs,_,h=>by
  simp only[RVL] at h;obtain⟨a,b,rfl,h1,h2⟩:=h;simp [h2.length]
theorem RVL.append: ∀ {xs ys xs' ys':List DVal},RVL ρ xs xs'->RVL ρ ys ys'->RVL ρ (xs++ys) (xs'++ys')
 | [],_,_,_,h,k=>by simp only[RVL] at h;subst h;exact k
 | x::xs,_,_,_,h,k=>by
  simp only[RVL] at h;obtain⟨a,b,rfl,h1,h2⟩:=h;simp only[jI,RVL];exact⟨a,_,rfl,h1,h2.append k⟩
theorem RVL.take: ∀ {xs xs':List DVal} (n:Nat),RVL ρ xs xs'->RVL ρ (xs.take n) (xs'.take n)
 | [],_,n,h=>by simp only[RVL] at h;subst h;simp [RVL]
 | x::xs,_,0,h=>by simp [RVL]
 | x::xs,_,n+1,h=>by
  simp only[RVL] at h;obtain⟨a,b,rfl,h1,h2⟩:=h;simp only[jM,RVL];exact⟨a,_,rfl,h1,h2.take n⟩
theorem RVL.drop: ∀ {xs xs':List DVal} (n:Nat),RVL ρ xs xs'->RVL ρ (xs.drop n) (xs'.drop n)
 | [],_,n,h=>by simp only[RVL] at h;subst h;simp [RVL]
 | x::xs,_,0,h=>by simpa using h
 | x::xs,_,n+1,h=>by
  simp only[RVL] at h;obtain⟨a,b,rfl,h1,h2⟩:=h;simpa only[jE] using h2.drop n
theorem RVL.get: ∀ {xs xs':List DVal} {n:Nat} {x:DVal},RVL ρ xs xs'->xs[n]? =some x-> ∃x',xs'[n]? =some x'/\RV ρ x x'
 | [],_,n,x,_,e=>by simp at e
 | y::xs,_,0,x,h,e=>by
  simp only[RVL] at h;obtain⟨a,b,rfl,h1,h2⟩:=h;simp only[List.getElem?_cons_zero,Option.some.injEq] at e;subst e;exact⟨a,rfl,h1⟩
 | y::xs,_,n+1,x,h,e=>by
  simp only[RVL] at h;obtain⟨a,b,rfl,h1,h2⟩:=h;simp only[List.getElem?_cons_succ] at e⊢
  exact h2.get e
theorem RVL.nil:RVL ρ [] []:=rfl
theorem RVL.cons {x y:DVal} {xs ys:List DVal} (h:RV ρ x y) (k:RVL ρ xs ys):RVL ρ (x::xs) (y::ys):=by
 simp only[RVL];exact⟨y,ys,rfl,h,k⟩
theorem RVL.inv {x:DVal} {xs ds:List DVal} (h:RVL ρ (x::xs) ds): ∃y ys,ds=y::ys/\RV ρ x y/\RVL ρ xs ys:=by simpa only[RVL] using h
theorem RVL.splice {xs xs' vs vs':List DVal} (off:Nat) (h:RVL ρ xs xs') (k:RVL ρ vs vs'):RVL ρ (splice xs off vs) (splice xs' off vs'):=by
 unfold Dl.splice;rw[k.length];exact((h.take off).append k).append (h.drop _)
theorem RVL.repl {zs zs':List DVal} (h:RVL ρ zs zs'): ∀n,RVL ρ (repl n zs) (repl n zs')
 | 0=>by simp [Dl.repl,RVL]
 | n+1=>by
  have:=RVL.repl h n;simp only[Dl.repl,List.replicate_succ,List.flatten_cons] at this⊢
  exact h.append this
theorem RVL.bytes (l:List UInt8):RVL ρ (l.map fun b=> .int .u8 b.toNat) (l.map fun b=> .int .u8 b.toNat):=by
 induction l with
 | nil=>exact rfl
 | cons x l ih=>exact .cons (by simp only[RV]) ih
theorem RV.one {v v':DVal} (h:RV ρ v v'):v'.one=v.one:=by
 cases v<;>simp only[RV] at h;all_goals first | (subst h;rfl) | (obtain⟨_,rfl,_⟩:=h;rfl) | (obtain⟨_,_,rfl,_⟩:=h;rfl)
theorem RVL.allOne: ∀ {xs ys:List DVal},RVL ρ xs ys->ys.all (·.one)=xs.all (·.one)
 | [],_,h=>by simp only[RVL] at h;subst h;rfl
 | x::xs,_,h=>by
  obtain⟨a,b,rfl,h1,h2⟩:=h.inv;simp only[List.all_cons,h1.one,h2.allOne]
theorem RV.cells {v v':DVal} (h:RV ρ v v'):RVL ρ v.cells v'.cells:=by
 have keep:=h;cases v<;>simp only[RV] at h;all_goals first
  | (subst h;exact .cons keep .nil)
  | (obtain⟨_,rfl,hl⟩:=h;first | exact hl | exact .cons keep .nil)
  | (obtain⟨_,_,rfl,_⟩:=h;exact .cons keep .nil)
theorem RV.int (k:IntKind) (n:Int):RV ρ (.int k n) (.int k n):=by simp only[RV]
theorem RV.bool (b:Bool):RV ρ (.bool b) (.bool b):=by simp only[RV]
theorem RV.str (b:List UInt8):RV ρ (.str b) (.str b):=by simp only[RV]
theorem RV.nilS:RV ρ .nilSlice .nilSlice:=by simp only[RV]
theorem RV.agg {cs cs':List DVal} (h:RVL ρ cs cs'):RV ρ (.agg cs) (.agg cs'):=by simp only[RV];exact⟨_,rfl,h⟩
theorem RV.tuple {cs cs':List DVal} (h:RVL ρ cs cs'):RV ρ (.tuple cs) (.tuple cs'):=by simp only[RV];exact⟨_,rfl,h⟩
theorem RV.undef:RV ρ El El:= .tuple .nil
theorem RV.vptr {cs cs':List DVal} (o:Nat) (h:RVL ρ cs cs'):RV ρ (.vptr cs o) (.vptr cs' o):=by simp only[RV];exact⟨_,rfl,h⟩
theorem RV.vslice {cs cs':List DVal} (o:Nat) (h:RVL ρ cs cs'):RV ρ (.vslice cs o) (.vslice cs' o):=by simp only[RV];exact⟨_,rfl,h⟩
theorem RV.optr {k r:Nat} (o:Nat) (h:ρ k=some r):RV ρ (.optr k o) (.optr r o):=by simp only[RV];exact⟨_,rfl,h⟩
theorem RV.oslice {k r:Nat} (a b c d:Nat) (h:ρ k=some r):RV ρ (.oslice a k b c d) (.oslice a r b c d):=by simp only[RV];exact⟨_,rfl,h⟩
theorem RV.omap {k r:Nat} (h:ρ k=some r):RV ρ (.omap k) (.omap r):=by simp only[RV];exact⟨_,rfl,h⟩
theorem RV.iface {v v':DVal} (t:TypeId) (h:RV ρ v v'):RV ρ (.iface t v) (.iface t v'):=by simp only[RV];exact⟨_,rfl,h⟩
theorem RV.func {a a' c c':List DVal} (f:Fn) (h:RVL ρ a a') (k:RVL ρ c c'):RV ρ (.func f a c) (.func f a' c'):=by simp only[RV];exact⟨_,_,rfl,h,k⟩
theorem Cj7: ∀v,RV ρ (Ee v) (Ee v):=by
 intro v;refine Ee.induct (motive_1:=fun v=>RV ρ (Ee v) (Ee v)) (motive_2:=fun vs=>RVL ρ (Gw vs) (Gw vs)) ?_ ?_ ?_ ?_ ?_ ?_ ?_ ?_ ?_ ?_ ?_ ?_ ?_ ?_ v;all_goals (intros;simp only[Ee,Gw];try first
  | (simp only[RV];done)
  | exact .agg (by assumption)
  | exact .tuple (by assumption)
  | exact .func _ (by assumption) (by assumption)
  | exact .cons (by assumption) (by assumption)
  | exact .nil)
 all_goals (unfold Ee;split<;>first | (simp only[RV];done) | (exfalso;simp_all;done))
theorem Qm {P:Program} {t:TypeId} {z:DVal} (h:Bq P t=some z):RV ρ z z:=by
 unfold Bq at h;cases hz:(P.info? t).bind (·.zero) with
 | none=>rw[hz] at h;cases h
 | some v=>rw[hz] at h;cases h;exact Cj7 v
end
mutual
theorem Uk {ρ:Nat->Option Nat}: ∀ {v:DVal},Jt v=true->RV ρ v v
 | .raw _,_=>by simp only[RV]
 | .bool _,_=>by simp only[RV]
 | .int _ _,_=>by simp only[RV]
 | .str _,_=>by simp only[RV]
 | .nilPtr,_=>by simp only[RV]
 | .nilSlice,_=>by simp only[RV]
 | .nilMap,_=>by simp only[RV]
 | .nilFunc,_=>by simp only[RV]
 | .nilIface,_=>by simp only[RV]
 | .vptr cs o,h=> .vptr o (Jy (by simpa only[Jt] using h))
 | .vslice cs o,h=> .vslice o (Jy (by simpa only[Jt] using h))
 | .agg cs,h=> .agg (Jy (by simpa only[Jt] using h))
 | .tuple cs,h=> .tuple (Jy (by simpa only[Jt] using h))
 | .iface t v,h=> .iface t (Uk (by simpa only[Jt] using h))
 | .func f a c,h=>by
  simp only[Jt,jF] at h
  exact .func f (Jy h.1) (Jy h.2)
 | .optr _ _,h=>by simp only[Jt] at h;cases h
 | .oslice _ _ _ _ _,h=>by simp only[Jt] at h;cases h
 | .omap _,h=>by simp only[Jt] at h;cases h
theorem Jy {ρ:Nat->Option Nat}: ∀ {vs:List DVal},Ka vs=true->RVL ρ vs vs
 | [],_=> .nil
 | v::vs,h=>by
  simp only[Ka,jF] at h
  exact .cons (Uk h.1) (Jy h.2)
end
structure RH (B:Ab) (ρ:Nat->Option Nat) (A:XH) (H:Ab):Prop where
 obj: ∀k o,Aw A k=some o-> ∃r o',ρ k=some r/\H r=some o'/\RO ρ o o'
 inj: ∀k k' r o o',Aw A k=some o->Aw A k'=some o'->ρ k=some r->ρ k'=some r->k=k'
 nx: ∀k,A.nx<=k->ρ k=none
 base: ∀r o,B r=some o->H r=some o
 low: ∀k r,ρ k=some r->B r=none
structure RS (B:Ab) (ρ:Nat->Option Nat) (E:Tr DVal) (A:XH) (s:DS):Prop where
 env: ∀i v,E.get i=some v->RV ρ v (s.env i)
 heap:RH B ρ A s.heap
def Bx (B:Ab) (ρ:Nat->Option Nat) (Q:DExit->DS->Prop):Out->Prop
 | .bad=>False
 | .norm E A=> ∀ρ' s',Ble ρ ρ'->RS B ρ' E A s'->Q .normal s'
 | .exit id E A=> ∀ρ' s',Ble ρ ρ'->RS B ρ' E A s'->Q (.exit id) s'
 | .ret E A=> ∀ρ' s',Ble ρ ρ'->RS B ρ' E A s'->Q .ret s'
 | .panic v E A=> ∀ρ' s' v',Ble ρ ρ'->RS B ρ' E A s'->RV ρ' v v'->Q (.panic v') s'
 | .panicX v A=> ∀ρ' s' v',Ble ρ ρ'->RH B ρ' A s'.heap->RV ρ' v v'->Q (.panic v') s'
def Mg (B:Ab) (ρ:Nat->Option Nat) (R:DEnd->Ab->Prop):COut->Prop
 | .bad=>False
 | .cret v A=> ∀ρ' H' v',Ble ρ ρ'->RH B ρ' A H'->RV ρ' v v'->R (.ret v') H'
 | .cpanic v A=> ∀ρ' H' v',Ble ρ ρ'->RH B ρ' A H'->RV ρ' v v'->R (.panic v') H'
section
variable {B:Ab} {ρ ρ':Nat->Option Nat} {E:Tr DVal} {A:XH} {s:DS} {K:DK} {Q Q':DExit->DS->Prop}
theorem Bx.le (h:Ble ρ ρ') {o:Out} (hr:Bx B ρ Q o):Bx B ρ' Q o:=by
 cases o with
 | bad=>exact hr
 | norm E A=>exact fun σ s' hl=>hr σ s' (h.trans hl)
 | exit id E A=>exact fun σ s' hl=>hr σ s' (h.trans hl)
 | ret E A=>exact fun σ s' hl=>hr σ s' (h.trans hl)
 | panic v E A=>exact fun σ s' v' hl=>hr σ s' v' (h.trans hl)
 | panicX v A=>exact fun σ s' v' hl=>hr σ s' v' (h.trans hl)
theorem Mg.le (h:Ble ρ ρ') {R:DEnd->Ab->Prop} {o:COut} (hr:Mg B ρ R o):Mg B ρ' R o:=by
 cases o with
 | bad=>exact hr
 | cret v A=>exact fun σ s' v' hl=>hr σ s' v' (h.trans hl)
 | cpanic v A=>exact fun σ s' v' hl=>hr σ s' v' (h.trans hl)
theorem RH.live {H:Ab} (h:RH B ρ A H) {k:Nat} {o:DObj} (hk:Aw A k=some o):k<A.nx:=by
 obtain⟨r,o',h1,_⟩:=h.obj k o hk;rcases Nat.lt_or_ge k A.nx with hl | hl
 ·exact hl
 ·rw[h.nx k hl] at h1;cases h1
theorem RS.put (hS:RS B ρ E A s) {E':Tr DVal} {d:Nat} {v v':DVal} (h: ∀j,E'.get j=if j=d then some v else E.get j) (hv:RV ρ v v'):RS B ρ E' A ⟨upd s.env d v',s.heap⟩:=by
 refine⟨fun i x hx=> ?_,hS.heap⟩;show RV ρ x (upd s.env d v' i);rw[h] at hx;unfold upd;by_cases e:i=d
 ·rw[if_pos e] at hx⊢;cases hx;exact hv
 ·rw[if_neg e] at hx⊢;exact hS.env i x hx
theorem Iq (hS:RS B ρ E A s) {dst:Option Nat} {v v':DVal} (hv:RV ρ v v') (h:Bx B ρ (Hb K Q) (Vs E A dst v)):Bz dst v' K s:=by
 unfold Vs at h;rw[Bx8] at h;cases dst with
 | none=>exact h ρ s (Ble.refl _) hS
 | some d=>
  simp only[Wl] at h;rcases Ou (z:=Out.bad) (x:=v) 10 E d (fun E=> .norm E A) with e | ⟨t',h1,e⟩
  ·rw[e] at h;exact h.elim
  ·rw[e] at h;exact h ρ _ (Ble.refl _) (hS.put h1 hv)
theorem Cj8 (hS:RS B ρ E A s) {dst:Option Nat} {v v':DVal} (hv:RV ρ v v') (h:Bx B ρ (Hb K Q) (Bc6 E A dst v)):Bz dst v' K s:=
 Iq hS hv (by unfold Vs;rw[Bx8];exact h)
theorem Dq1 (E:Tr DVal) (A:XH) (dst:Option Nat) (o:Option DVal):Ot E A dst o=Jl E A dst o:=by
 cases o with
 | none=>rfl
 | some v=>show Bc6 E A dst v=Vs E A dst v;unfold Vs;rw[Bx8];rfl
theorem Eh0 (hS:RS B ρ E A s) {dst:Option Nat} {o:Option DVal} (h:Bx B ρ (Hb K Q) (Jl E A dst o)): ∃v,o=some v/\ ∀v',RV ρ v v'->Bz dst v' K s:=by
 cases o with
 | none=>exact h.elim
 | some v=>exact⟨v,rfl,fun v' hv=>Iq hS hv h⟩
theorem Cj9 {A:XH} {tr':Tr (Option DObj)} {k:Nat} {o:Option DObj} {n:Nat} (h: ∀j,tr'.get j=if j=k then some o else A.tr.get j) (i:Nat):Aw ⟨tr',n⟩ i=if i=k then o else Aw A i:=by
 unfold Aw
 show(match tr'.get i with | some (some o)=>some o | _=>none)=_
 rw[h]
 by_cases e:i=k
 ·rw[if_pos e,if_pos e];cases o<;>rfl
 ·rw[if_neg e,if_neg e];try rfl
theorem Ya {k:Nat} {o:Option DObj} {κ:XH->Out} {r:Nat} {ob ob':DObj} {Q:DExit->DS->Prop} (hS:RS B ρ E A s) (hk:Aw A k=some ob) (hr:ρ k=some r) (ho: ∀o1,o=some o1->RO ρ o1 ob')
  (h:Bx B ρ Q (Bc7 A k o κ)): ∃A',Bx B ρ Q (κ A')/\RS B ρ E A' ⟨s.env,upd s.heap r (o.map fun _=>ob')⟩/\A'.nx=A.nx/\(∀i,Aw A' i=if i=k then o else Aw A i):=by
 have key: ∃tr',(∀j,tr'.get j=if j=k then some o else A.tr.get j)/\Bx B ρ Q (κ ⟨tr',A.nx⟩):=by
  unfold Bc7 at h;obtain⟨tr,nx⟩:=A;cases o with
  | some o1=>
   simp only[Eg8] at h;rcases Ou (z:=Out.bad) (x:=some o1) 24 tr k (fun tr=>κ ⟨tr,nx⟩) with e | ⟨t',h1,e⟩
   ·rw[e] at h;exact h.elim
   ·rw[e] at h;exact⟨t',h1,h⟩
  | none=>
   simp only at h;rcases Ou (z:=Out.bad) (x:=(none:Option DObj)) 24 tr k (fun tr=>κ ⟨tr,nx⟩) with e | ⟨t',h1,e⟩
   ·rw[e] at h;exact h.elim
   ·rw[e] at h;exact⟨t',h1,h⟩
 obtain⟨tr',h1,h2⟩:=key;have hg:=fun i=>Cj9 (A:=A) (n:=A.nx) h1 i;refine⟨⟨tr',A.nx⟩,h2,⟨hS.env, ?_⟩,rfl,hg⟩;have hkeep:=hS.heap;refine⟨fun k' o' hk'=> ?_,fun k1 k2 r' o1 o2 g1 g2 e1 e2=> ?_,hkeep.nx,fun r' o' hb=> ?_,hkeep.low⟩
 ·rw[hg] at hk';by_cases e:k'=k
  ·rw[if_pos e] at hk';subst e;subst hk';exact⟨r,ob',hr,by simp [upd],ho _ rfl⟩
  ·rw[if_neg e] at hk';obtain⟨r1,o1,h3,h4,h5⟩:=hkeep.obj k' o' hk';refine⟨r1,o1,h3, ?_,h5⟩;have:r1≠r:=fun er=>e (hkeep.inj k' k r _ _ hk' hk (er▸h3) hr);simp [upd,this,h4]
 ·rw[hg] at g1 g2;by_cases c1:k1=k<;>by_cases c2:k2=k
  ·rw[c1,c2]
  ·rw[if_neg c2] at g2;subst c1;exact hkeep.inj k1 k2 r' _ _ hk g2 e1 e2
  ·rw[if_neg c1] at g1;subst c2;exact hkeep.inj k1 k2 r' _ _ g1 hk e1 e2
  ·rw[if_neg c1] at g1;rw[if_neg c2] at g2;exact hkeep.inj k1 k2 r' _ _ g1 g2 e1 e2
 ·have h3:=hkeep.base r' o' hb;have:r'≠r:=fun e=>by
   have:=hkeep.low k r hr;rw[e,this] at hb;cases hb
  simp [upd,this,h3]
theorem Yb {o o':DObj} {κ:Nat->XH->Out} {r:Nat} {Q:DExit->DS->Prop} (hS:RS B ρ E A s) (hr:s.heap r=none) (ho:RO ρ o o') (h:Bx B ρ Q (Bc8 A o κ)):
  ∃A' ρ',Ble ρ ρ'/\ρ' A.nx=some r/\Bx B ρ' Q (κ A.nx A')/\RS B ρ' E A' ⟨s.env,upd s.heap r (some o')⟩:=by
 have key: ∃tr',(∀j,tr'.get j=if j=A.nx then some (some o) else A.tr.get j)/\Bx B ρ Q (κ A.nx ⟨tr',A.nx+1⟩):=by
  unfold Bc8 at h;obtain⟨tr,nx⟩:=A;simp only[Eg8,Pa] at h;rcases Ou (z:=Out.bad) (x:=some o) 24 tr nx (fun tr=>κ nx ⟨tr,nx+1⟩) with e | ⟨t',h1,e⟩
  ·rw[e] at h;exact h.elim
  ·rw[e] at h;exact⟨t',h1,h⟩
 obtain⟨tr',h1,h2⟩:=key;have hg:=fun i=>Cj9 (A:=A) (n:=A.nx+1) h1 i;have hkeep:=hS.heap;have hnone:ρ A.nx=none:=hkeep.nx _ (Nat.le_refl _);have hle:Ble ρ (fun k=>if k=A.nx then some r else ρ k):=fun k r1 e=>by
  have:k≠A.nx:=fun c=>by rw[c,hnone] at e;cases e
  simp [this,e]
 have hBr:B r=none:=by
  cases e:B r with
  | none=>rfl
  | some x=>rw[hkeep.base r x e] at hr;cases hr
 refine⟨⟨tr',A.nx+1⟩,fun k=>if k=A.nx then some r else ρ k,hle,by simp,h2.le hle,⟨fun i v hi=>(hS.env i v hi).mono hle, ?_⟩⟩;refine⟨fun k' o1 hk'=> ?_,fun k1 k2 r' o1 o2 g1 g2 e1 e2=> ?_,fun k hk=> ?_,fun r' o1 hb=> ?_,fun k r1 e=> ?_⟩
 ·rw[hg] at hk';by_cases e:k'=A.nx
  ·rw[if_pos e] at hk';cases hk';exact⟨r,o',by simp [e],by simp [upd],ho.mono hle⟩
  ·rw[if_neg e] at hk';obtain⟨r1,o2,h3,h4,h5⟩:=hkeep.obj k' o1 hk';refine⟨r1,o2,by simp [e,h3], ?_,h5.mono hle⟩;have:r1≠r:=fun er=>by rw[er,hr] at h4;cases h4
   simp [upd,this,h4]
 ·rw[hg] at g1 g2;by_cases c1:k1=A.nx<;>by_cases c2:k2=A.nx
  ·rw[c1,c2]
  ·rw[if_neg c2] at g2;simp only[c1,if_true,c2,if_false] at e1 e2;cases e1;obtain⟨r3,o3,x1,x2,x3⟩:=hkeep.obj k2 o2 g2;rw[x1] at e2;cases e2;rw[hr] at x2;cases x2
  ·rw[if_neg c1] at g1;simp only[c1,if_true,c2,if_false] at e1 e2;cases e2;obtain⟨r3,o3,x1,x2,x3⟩:=hkeep.obj k1 o1 g1;rw[x1] at e1;cases e1;rw[hr] at x2;cases x2
  ·rw[if_neg c1] at g1;rw[if_neg c2] at g2;simp only[c1,c2,if_false] at e1 e2;exact hkeep.inj k1 k2 r' _ _ g1 g2 e1 e2
 ·have hk':A.nx+1<=k:=hk;have:k≠A.nx:=by omega
  simp only[this,if_false];exact hkeep.nx k (by omega)
 ·have h3:=hkeep.base r' o1 hb;have:r'≠r:=fun e=>by rw[e,hBr] at hb;cases hb
  simp [upd,this,h3]
 ·by_cases c:k=A.nx
  ·simp only[c,if_true] at e;cases e;exact hBr
  ·simp only[c,if_false] at e;exact hkeep.low k r1 e
end
end Go.Dl

-- AN INTERPRETER OF THE DATA LEVEL, PART 3: the values that operations give are those of the data level.
namespace Go.Dl
open Go
section
variable {P:Program} {gt:Nat->Option DVal} {G:Nat->DVal}
variable {B:Ab} {ρ:Nat->Option Nat} {E:Tr DVal} {A:XH} {s:DS} {Q:DExit->DS->Prop}
theorem Cw7 {R:Type} {z:R} (hgt: ∀g d,gt g=some d-> ∀ρ,RV ρ d (G g)) (hS:RS B ρ E A s) (o:Operand) (κ:DVal->R):evK gt z E o κ=z\/ ∃v,RV ρ v (dev G s.env o)/\evK gt z E o κ=κ v:=by
 cases o with
 | tmp t=>
  simp only[evK,dev];cases h:E.get t with
  | none=>exact .inl rfl
  | some v=>exact .inr ⟨v,hS.env t v h,rfl⟩
 | const v=>exact .inr ⟨_,Cj7 v,rfl⟩
 | global g=>
  simp only[evK,dev];cases h:gt g with
  | none=>exact .inl rfl
  | some d=>exact .inr ⟨d,hgt g d h ρ,rfl⟩
 | func f=>exact .inr ⟨_, .func _ .nil .nil,rfl⟩
theorem Ey (hgt: ∀g d,gt g=some d-> ∀ρ,RV ρ d (G g)) (hS:RS B ρ E A s) {o:Operand} {κ:DVal->Out} (h:Bx B ρ Q (evK gt .bad E o κ)): ∃v,RV ρ v (dev G s.env o)/\Bx B ρ Q (κ v):=by
 rcases Cw7 hgt hS o κ with e | ⟨v,h1,e⟩
 ·rw[e] at h;exact h.elim
 ·rw[e] at h;exact⟨v,h1,h⟩
theorem Bd8 (hgt: ∀g d,gt g=some d-> ∀ρ,RV ρ d (G g)) (hS:RS B ρ E A s): ∀ {os:List Operand} {κ:List DVal->Out},Bx B ρ Q (Ah2 gt .bad E os κ)-> ∃vs,RVL ρ vs (Fy G s.env os)/\Bx B ρ Q (κ vs)
 | [],κ,h=>⟨[],rfl,h⟩
 | o::os,κ,h=>by
  obtain⟨v,h1,h2⟩:=Ey hgt hS (o:=o) (κ:=fun v=>Ah2 gt .bad E os fun vs=>κ (v::vs)) h;obtain⟨vs,h3,h4⟩:=Bd8 hgt hS h2;exact⟨v::vs, .cons h1 h3,h4⟩
theorem Bd9 (hgt: ∀g d,gt g=some d-> ∀ρ,RV ρ d (G g)) (hS:RS B ρ E A s): ∀ {os:List (Nat×Operand)} {κ:List (Nat×DVal)->Out},Bx B ρ Q (Am3 gt .bad E os κ)-> ∃vs,RVP ρ vs (Kc G s.env os)/\Bx B ρ Q (κ vs)
 | [],κ,h=>⟨[],rfl,h⟩
 | (i,o)::os,κ,h=>by
  obtain⟨v,h1,h2⟩:=Ey hgt hS (o:=o) (κ:=fun v=>Am3 gt .bad E os fun vs=>κ ((i,v)::vs)) h;obtain⟨vs,h3,h4⟩:=Bd9 hgt hS h2;exact⟨(i,v)::vs,⟨_,_,rfl,h1,h3⟩,h4⟩
def RVo (ρ:Nat->Option Nat):Option DVal->Option DVal->Prop
 | some v,some d=>RV ρ v d
 | none,none=>True
 | _,_=>False
theorem Bx9 (hgt: ∀g d,gt g=some d-> ∀ρ,RV ρ d (G g)) (hS:RS B ρ E A s) {o:Option Operand} {κ:Option DVal->Out} (h:Bx B ρ Q (Bv9 gt .bad E o κ)): ∃v,RVo ρ v (Pc G s.env o)/\Bx B ρ Q (κ v):=by
 cases o with
 | none=>exact⟨none,trivial,h⟩
 | some x=>
  obtain⟨v,h1,h2⟩:=Ey hgt hS (o:=x) (κ:=fun v=>κ (some v)) h;exact⟨some v,h1,h2⟩
def Gk (ρ:Nat->Option Nat) (v:DVal) (F:Option Nat->DK->DS->Prop) (s:DS):Prop:= ∃v',RV ρ v v'/\ ∀dst K,Bz dst v' K s->F dst K s
theorem Eh1 {c a b c' a' b' v:DVal} (hv:Dd2 c a b=some v) (hc:RV ρ c c') (ha:RV ρ a a') (hb:RV ρ b b'):Gk ρ v (fun dst=>Bi3 dst c' a' b') s:=by
 unfold Dd2 at hv;split at hv<;>cases hv<;>simp only[RV] at hc<;>subst hc
 ·exact⟨a',ha,fun _ _ h=>h⟩
 ·exact⟨b',hb,fun _ _ h=>h⟩
theorem Ai3 {place:Nat->Option (Nat×Nat)}: ∀ {parts parts':List (Nat×DVal)} {cs cs' out:List DVal},RVP ρ parts parts'->RVL ρ cs cs'->Nf place cs parts=some out-> ∃out',Nf place cs' parts'=some out'/\RVL ρ out out'
 | [],_,cs,cs',out,hp,hc,h=>by
  simp only[RVP] at hp;subst hp;simp only[Nf] at h;cases h;exact⟨cs',rfl,hc⟩
 | (i,v)::parts,_,cs,cs',out,hp,hc,h=>by
  obtain⟨v',qs,rfl,hv,hq⟩:=hp;simp only[Nf] at h⊢
  cases hpl:place i with
  | none=>rw[hpl] at h;cases h
  | some os=>
   obtain⟨off,size⟩:=os;rw[hpl] at h;simp only at h⊢
   rw[hv.cells.length,hc.length];split at h
   ·rename_i hcond
    rw[if_pos hcond];exact Ai3 hq (((hc.take off).append hv.cells).append (hc.drop _)) h
   ·cases h
theorem Dq2 {b:Bool} {t:Option TypeDesc} {z:Option DVal} {ps ps':List (Nat×DVal)} {v:DVal} (hz: ∀x,z=some x->RV ρ x x) (hv:Bw0 P b t z ps=some v) (hp:RVP ρ ps ps'):Gk ρ v (fun dst=>Zl P dst b t z ps') s:=by
 unfold Bw0 at hv;split at hv<;>try (cases hv;done)
 ·rename_i fields x
  rw[Ai2] at hv;split at hv<;>cases hv
  rename_i out h1
  obtain⟨out',h2,h3⟩:=Ai3 hp (hz x rfl).cells h1;exact⟨_, .agg h3,fun dst K h=>by simp only[Zl,h2,Option.map_some,Lk];exact h⟩
 ·rename_i n e x
  rw[Ai2] at hv;split at hv<;>cases hv
  rename_i out h1
  obtain⟨out',h2,h3⟩:=Ai3 hp (hz x rfl).cells h1;exact⟨_, .agg h3,fun dst K h=>by simp only[Zl,h2,Option.map_some,Lk];exact h⟩
theorem Ck0 {size off:Nat} {ag:Option Bool} {cs cs':List DVal} {v:DVal} (hc:RVL ρ cs cs') (hv:Xa size cs off ag=some v):Gk ρ v (fun dst=>Zm size dst ag cs' off) s:=by
 unfold Xa at hv;split at hv
 ·split at hv<;>cases hv
  rename_i hle
  exact⟨_, .agg ((hc.drop off).take size),fun dst K h=>⟨by rw[hc.length];exact hle,h⟩⟩
 ·obtain⟨x',h1,h2⟩:=hc.get hv;exact⟨x',h2,fun dst K h=>by simp only[Zm,h1,Lk];exact h⟩
 ·cases hv
theorem Ov {cs:List DVal} {e:TypeId} {k:Nat} (hS:RH B ρ A s.heap) (h:Aw A k=some (.cells cs e)): ∃r cs',ρ k=some r/\s.heap r=some (.cells cs' e)/\RVL ρ cs cs':=by
 obtain⟨r,o',h1,h2,cs',rfl,h3⟩:=hS.obj k _ h;exact⟨r,cs',h1,h2,h3⟩
theorem Eh2 {size:Nat} {ag:Option Bool} {a a' v:DVal} (hS:RH B ρ A s.heap) (ha:RV ρ a a') (hv:Dd3 size ag A a=some v):Gk ρ v (fun dst=>An6 size ag dst a') s:=by
 unfold Dd3 at hv;split at hv
 ·simp only[RV] at ha;obtain⟨cs',rfl,hl⟩:=ha;rw[Am6] at hv;exact Ck0 hl hv
 ·simp only[RV] at ha;obtain⟨r,rfl,hr⟩:=ha;unfold Bw2 at hv;split at hv
  ·rename_i cs e heq
   obtain⟨r',cs',h1,h2,h3⟩:=Ov hS heq;rw[hr] at h1;cases h1;rw[Am6] at hv;obtain⟨v',h4,h5⟩:=Ck0 (s:=s) h3 hv;exact⟨v',h4,fun dst K h=>by simp only[An6,h2,Av8];exact h5 dst K h⟩
  ·cases hv
 ·cases hv
theorem Ev3 {x x' v:DVal} (hx:RV ρ x x') (hv:Eu9 x=some v):Gk ρ v (fun dst=>Th dst x') s:=by
 have keep:=hx;unfold Eu9 at hv;split at hv<;>cases hv<;>simp only[RV] at hx;all_goals first
  | (obtain⟨_,rfl,_⟩:=hx;exact⟨_,keep,fun _ _ h=>h⟩)
  | (obtain⟨_,_,rfl,_⟩:=hx;exact⟨_,keep,fun _ _ h=>h⟩)
theorem By0 {o b:Option Bool} {v:DVal} (hv:Cv7 o b=some v):Gk ρ v (fun dst=>Pb dst o b) s:=by
 unfold Cv7 at hv;split at hv<;>cases hv<;>exact⟨_, .bool _,fun _ _ h=>h⟩
theorem Ev4 {k:IntKind} {a b:Int} {op:BinOp} {v:DVal} (hv:Fj1 k a b op=some v):Gk ρ v (fun dst K s=>Ac3 k a b dst K s op) s:=by
 have e:Fj1 k a b op=Ey7 k a b op:=by cases op<;>rfl
 rw[e] at hv;unfold Ey7 at hv;split at hv<;>(try split at hv)<;>cases hv<;>first
  | exact⟨_, .int _ _,fun _ _ h=>h⟩
  | exact⟨_, .bool _,fun _ _ h=>h⟩
  | exact⟨_, .int _ _,fun _ _ h=>⟨by assumption,h⟩⟩
theorem Dq3 {k:IntKind} {a b:Int} {op:BinOp} {v:DVal} (hv:Cv8 k a b op=some v):Gk ρ v (fun dst K s=>Av9 k a b dst K s op) s:=by
 unfold Cv8 at hv;split at hv<;>(try split at hv)<;>cases hv;all_goals exact⟨_, .int _ _,fun _ _ h=>⟨by assumption,h⟩⟩
theorem Av1: ∀a b:List UInt8,Cv9 a b=decide (a=b)
 | [],[]=>rfl
 | [],_::_=>rfl
 | _::_,[]=>rfl
 | x::a,y::b=>by
  show Bool.rec (motive:=fun _=>Bool) false (Cv9 a b) (Nat.beq x.toNat y.toNat)=_;by_cases h:x=y
  ·subst h;have:Nat.beq x.toNat x.toNat=true:=Nat.beq_refl _;rw[this,Av1 a b];simp
  ·have:Nat.beq x.toNat y.toNat=false:=by
    cases hb:Nat.beq x.toNat y.toNat with
    | false=>rfl
    | true=>exact(h (UInt8.toNat_inj.1 (Nat.eq_of_beq_eq_true hb))).elim
   rw[this];simp [h]
theorem Ev5 {a b:List UInt8} {op:BinOp} {v:DVal} (hv:Fj2 a b op=some v):Gk ρ v (fun dst K s=>Yf a b dst K s op) s:=by
 unfold Fj2 at hv;split at hv<;>(try split at hv)<;>cases hv<;>(try rw [Av1])<;>first
  | exact⟨_, .bool _,fun _ _ h=>h⟩
  | exact⟨_, .str _,fun _ _ h=>⟨by assumption,h⟩⟩
theorem Av2 {size off:Nat} {ag:Option Bool} {xs xs':List DVal} (h:RVL ρ xs xs'):RVL ρ (Fq size off xs ag) (Fq size off xs' ag):=by
 unfold Fq;split
 ·exact(h.drop off).take size
 ·exact(h.drop off).take 1
 ·exact .nil
theorem Cw8 {a b:Option Bool} {c:Bool} (h:Bz7 a b=some c):(a=some true/\b=some c)\/(a=some false/\c=false/\ ∃d,b=some d):=by
 unfold Bz7 at h;split at h
 ·exact .inl ⟨rfl,h⟩
 ·cases h;exact .inr ⟨rfl,rfl,_,rfl⟩
 ·cases h
theorem Bn4 {a b a' b':Option Bool} {c:Bool} (h:Bz7 a b=some c) (ha: ∀x,a=some x->a'=some x) (hb: ∀x,b=some x->b'=some x):Bz7 a' b'=some c:=by
 rcases Cw8 h with⟨h1,h2⟩ | ⟨h1,rfl,d,h2⟩
 ·rw[ha _ h1,hb _ h2];rfl
 ·rw[ha _ h1,hb _ h2];rfl
theorem Bn5 {f f':TypeId->Nat->Option Bool} (hf: ∀t o b,f t o=some b->f' t o=some b): ∀ {fs:List Field} {b:Bool},An7 f fs=some b->An7 f' fs=some b
 | [],b,h=>h
 | x::fs,b,h=>by
  simp only[An7] at h⊢
  split at h
  ·rename_i hn
   rw[if_pos hn];exact Bn4 h (hf _ _) fun _ h=>Bn5 hf h
  ·cases h
theorem Bn6 {f f':Nat->Option Bool} (hf: ∀o b,f o=some b->f' o=some b): ∀ {is:List Nat} {b:Bool},An8 f is=some b->An8 f' is=some b
 | [],b,h=>h
 | x::is,b,h=>by
  simp only[An8] at h⊢
  exact Bn4 h (hf _) fun _ h=>Bn6 hf h
theorem Ld {x:DVal} {ds:List DVal} (h:RVL ρ [x] ds): ∃y,ds= [y]/\RV ρ x y:=by
 obtain⟨y,ys,rfl,h1,h2⟩:=h.inv;simp only[RVL] at h2;subst h2;exact⟨y,rfl,h1⟩
theorem Cw9: ∀(n:Nat) {t:TypeId} {xs xs' ys ys':List DVal} {b:Bool},RVL ρ xs xs'->RVL ρ ys ys'->Qu P n t xs ys=some b->Qu P n t xs' ys'=some b
 | 0,_,_,_,_,_,_,_,_,h=>by cases h
 | n+1,t,xs,xs',ys,ys',b,hx,hy,h=>by
  simp only[Qu] at h⊢
  unfold Wb at h⊢
  split at h
  ·unfold Bi4 at h;split at h<;>cases h;obtain⟨a,rfl,h1⟩:=Ld hx;obtain⟨c,rfl,h2⟩:=Ld hy;simp only[RV] at h1 h2;subst h1;subst h2;rfl
  ·unfold Bi5 at h;split at h<;>try cases h
   obtain⟨a,rfl,h1⟩:=Ld hx;obtain⟨c,rfl,h2⟩:=Ld hy;simp only[RV] at h1 h2;subst h1;subst h2;exact h
  ·unfold Bz8 at h;split at h<;>cases h;obtain⟨a,rfl,h1⟩:=Ld hx;obtain⟨c,rfl,h2⟩:=Ld hy;simp only[RV] at h1 h2;subst h1;subst h2;rfl
  ·unfold Cz0 at h⊢
   split at h
   ·cases h
   ·exact Bn5 (fun u o b h=>Cw9 n (Av2 hx) (Av2 hy) h) h
  ·split at h
   ·rename_i hi
    rw[if_pos hi];exact Bn6 (fun o b h=>Cw9 n (Av2 hx) (Av2 hy) h) h
   ·cases h
  ·cases h
theorem Fk1 {c b:Bool} {td:Option TypeDesc} {x y x' y':DVal} (hx:RV ρ x x') (hy:RV ρ y y') (h:Pz c td x y=some b):
  Pz c td x' y'=some b/\ ∀(P:Program) t op dst K s,Ll P t c op dst x' y' K s=Pb dst (Od op) (Pz c (P.underlying t) x' y') K s:=by
 have h0:=h;unfold Pz at h;split at h<;>(try (cases h;done))<;>simp only[RV] at hx hy;all_goals first
  | (subst hx;subst hy;exact⟨h0,fun _ _ _ _ _ _=>rfl⟩)
  | (subst hx;obtain⟨_,rfl,_⟩:=hy;exact⟨h0,fun _ _ _ _ _ _=>rfl⟩)
  | (subst hy;obtain⟨_,rfl,_⟩:=hx;exact⟨h0,fun _ _ _ _ _ _=>rfl⟩)
  | (subst hx;obtain⟨_,_,rfl,_⟩:=hy;exact⟨h0,fun _ _ _ _ _ _=>rfl⟩)
  | (subst hy;obtain⟨_,_,rfl,_⟩:=hx;exact⟨h0,fun _ _ _ _ _ _=>rfl⟩)
theorem Ev6 {t:TypeId} {c:Bool} {op:BinOp} {x y x' y' v:DVal} (hx:RV ρ x x') (hy:RV ρ y y') (hv:Fj3 P t c op x y=some v):Gk ρ v (fun dst=>Ll P t c op dst x' y') s:=by
 unfold Fj3 at hv;split at hv
 ·rename_i k a k' b
  simp only[RV] at hx hy;subst hx;subst hy;split at hv
  ·rename_i hs
   obtain⟨v',h1,h2⟩:=Dq3 (ρ:=ρ) (s:=s) hv;exact⟨v',h1,fun dst K h=>by simp only[Ll,hs,Bi6];exact h2 dst K h⟩
  ·rename_i hs
   split at hv
   ·rename_i hk
    obtain⟨v',h1,h2⟩:=Ev4 (ρ:=ρ) (s:=s) hv;exact⟨v',h1,fun dst K h=>by simp only[Ll,hs,Bi6];exact⟨hk,h2 dst K h⟩⟩
   ·cases hv
 ·simp only[RV] at hx hy;subst hx;subst hy;exact Ev5 hv
 ·simp only[RV] at hx hy;obtain⟨xs',rfl,hx⟩:=hx;obtain⟨ys',rfl,hy⟩:=hy;split at hv
  ·rename_i hc
   rename_i xs ys
   cases he:Qu P 6 t xs ys with
   | none=>rw[he] at hv;unfold Cv7 at hv;split at hv<;>simp_all
   | some b=>
    rw[he] at hv;obtain⟨v',h1,h2⟩:=By0 (ρ:=ρ) (s:=s) hv;exact⟨v',h1,fun dst K h=>⟨hc.1,hc.2,by rw[Cw9 6 hx hy he];exact h2 dst K h⟩⟩
  ·cases hv
 ·cases he:Pz c (P.underlying t) x y with
  | none=>rw[he] at hv;unfold Cv7 at hv;split at hv<;>simp_all
  | some b=>
   rw[he] at hv;obtain⟨v',h1,h2⟩:=By0 (ρ:=ρ) (s:=s) hv;refine⟨v',h1,fun dst K h=> ?_⟩;obtain⟨h3,h4⟩:=Fk1 hx hy he;show Ll P t c op dst x' y' K s;rw[h4,h3];exact h2 dst K h
end
end Go.Dl
