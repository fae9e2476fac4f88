/- The data level and the contracts of the functions that are reached (part 13). -/
import Derived.ChangeSame
import Derived.Deep.Slices
import Derived.RowKit3
import Derived.Test.YtddbdpcgikmiaaaGreatDoorRows
import Derived.Test.YtddbdpcgikmiaaaGreatDoorPil
set_option linter.unusedSimpArgs false
set_option linter.unusedVariables false
set_option linter.unusedSectionVars false
set_option maxHeartbeats 400000000
-- Tj
namespace Go.Dl
open Go Go.Proofs
set_option maxRecDepth 100000
theorem St.putn {G:Nat->DVal} {B0 B K:Ab} {r:Nat} {ts:List Tok} (h:St B0 B r ts K) (hG:GX G) (y:ts.length<=1000000000):Ad Tryz.prog G 92 [.optr r 0,.nilSlice] K (λe K'=>e= .ret (.optr r 0)/\St B0 B r ts K'):=by
 have h1:=Ak0 hG [] B r ts K h.hr (by simpa using y) h.hw;refine(Km.call (Sub.refl K) (.cons (.keep (Sub.refl K) _) (.cons (Ln.nil (Sub.refl K)) .nil)) h1).mono ?_;rintro e H' ⟨h2,h3⟩;exact⟨h2,by simpa using h3,h.hr,h.hs⟩
section
variable {G:Nat->DVal}
theorem Go5 {l:List Par} (hm:l.all Fp=true) {n:Nat} (C:Pr l<=n):l.length<=n:=by
 have key: ∀l:List Par,(∀x∈l,Fp x=true)->l.length<=Pr l:=by
  intro l
  induction l with
  |nil=>intro _;exact Nat.le_refl _
  |cons x l ih=>
   intro h;have h1:=ih λy D=>h y (List.mem_cons_of_mem _ D);have h2:=(Ah4 (h x (List.mem_cons_self ..))).1;rw[Ey,jF,jF,decide_eq_true_eq] at h2;have h3:=h2.1.2;(have e:Pr (x::l)=x.names.length+Pr l:=by simp [Pr]);rw[e,jA];omega
 exact Nat.le_trans (key l (List.all_eq_true.1 hm)) C
theorem Dy5 {p:Par} (h:Fp p=true):p.mode=1\/p.mode=2\/p.mode=3:=by
 simp only[Fp,jF,decide_eq_true_eq] at h;obtain⟨⟨⟨-,h1⟩,h2⟩,-⟩:=h;omega
theorem Ld (hG:GX G) (H:Ab) (l:List Par) (hl:Ei Nk 16777216 l):Ad Tryz.prog G 27 [Gh l] H (Am (.tuple [Be (Am0 l).1,dI (Am0 l).2]) H):=by
 rw[Am0];refine dci Tryz.func27 Tryz.call27 ?_;simp(disch:=omega)only[go_sem];refine Ad.monoR (Ug hG H l hl) ?_;cases hm:Es l
 ·simp(disch:=omega)only[go_sem];exact Ln.fin (Sub.refl H) (Ln.tuple (.cons (Ln.nil (Sub.refl H)) (Km.keep (Sub.refl H) _))) ⟨rfl,rfl⟩
 have ae:=hm;rw[Es,jF,decide_eq_true_eq] at ae;have bd:=Go5 ae.1 ae.2;have ak:=List.all_eq_true.1 ae.1;simp(disch:=omega)only[go_sem];intro J af;dsimp only at af;simp(disch:=omega)only[go_sem];intro U ac;dsimp only at ac;have n1:J≠U:=Ac ac (Aa _ _ _);have ag:=n1.symm;simp(disch:=omega)only[go_sem,n1];intro m2 V;dsimp only at V;have n2:J≠m2:=Ac V (Aa _ _ _);have al:=n2.symm;have n3:U≠m2:=Ac V (Aj (Aa _ _ _) ag);have a4:=n3.symm;simp(disch:=omega)only[go_sem,n2];intro rw W;dsimp only at W;have k1:H U=none:=by rw[Ah _ _ _ _ ag] at ac;exact ac
 have k2:H m2=none:=by rw[Ah _ _ _ _ al,Ah _ _ _ _ a4,Ah _ _ _ _ al] at V;exact V
 obtain⟨Hm,L⟩: ∃X,X=upd (upd (upd (upd (upd H J (some (.map []))) U (some (.cells [.str [111,117,116]] 9))) J (some (.map [(.int .u8 2,.oslice 1 U 0 1 1)]))) m2 (some (.cells [.str [105,110],.str [111,117,116]] 9))) J (some (.map [(.int .u8 2,.oslice 1 U 0 1 1),(.int .u8 3,.oslice 1 m2 0 2 2)])):=⟨_,rfl⟩;rw[<-L] at W;have sm:=L.symm▸(((((Sub.refl H).up af _).up k1 _).up af _).up k2 _).up af _;have a5:=L.symm▸Aa _ _ _;have a6:=L.symm▸Aj (Aa _ _ _) al;have a7:=L.symm▸Aj (Aj (Aj (Aa _ _ _) ag) n3) ag;have be:=SAt.start W;clear ac V;simp(disch:=omega)only[go_sem,Gh];rw[<-L];clear L;obtain⟨I,hI⟩: ∃I:Nat->(Nat->DVal)->Ab->Prop,∀k env heap,I k env heap↔(env 4= .omap J/\env 5= .optr rw 0/\env 17=Gh l/\env 18=dI l.length/\env 19=dI k/\k<=l.length/\SAt Hm rw (Lx (l.take k)) heap):=⟨_,λ_ _ _=>Iff.rfl⟩;refine Ea9.run I (λk=>l.length-k) 0 ((hI _ _ _).2 ?_) ?_
 ·simp(disch:=omega)only[go_sem,Gh];(repeat' apply And.intro)<;>(try first|rfl|assumption|omega)
 ·intro k env heap hi;obtain⟨e4,Y,ad,Z,aa,hk,ab⟩:=(hI _ _ _).1 hi;have hfl:=Ak Eo l;by_cases ah:k<l.length
  ·(have am:(k:Int)<(l.length:Int):=by omega);have mx:=List.getElem_mem ah;have hle:=Ca1 ak k hk;have au:=Bh Eo l k ah;(have av:k=0->Lx (l.take (k+1))=Pj l[k]:=by intro h;subst h;exact Cj7 ah);have aw:0<k->Lx (l.take (k+1))=Lx (l.take k)++Ag Hd::Pj l[k]:=λh=>Ca0 ah h;(have a8:k=0->Lx (l.take k)= []:=by intro h;subst h;rfl);obtain⟨x,hx⟩: ∃x,x=l[k]:=⟨_,rfl⟩;rw[<-hx] at au mx av aw;obtain⟨o1,o2,o3⟩:=Ah4 (ak x mx);have a9:=Dy5 (ak x mx);obtain⟨f0,f1,f2⟩:=hl.2 x mx;have bf:=Nq o2;have bg:=Bn0 o3;have bh:=Td o1;simp(disch:=omega)only[go_sem,ad,Z,aa,Gh,am,au,hfl,jD];intro r7 ai;dsimp only at ai;have D:=ab.frame ai (.cells (Gw x) 136);have z7:Hm r7=none:=(ab.lo ai).1;have n7:r7≠rw:=(ab.lo ai).2;obtain⟨B0,hX⟩: ∃X,X=upd Hm r7 (some (.cells (Gw x) 136)):=⟨_,rfl⟩;(have M:B0 r7=some (.cells (Gw x) 136):=by rw[hX];exact Aa _ _ _);(have aj:Sub Hm B0:=by rw[hX];exact(Sub.refl _).up z7 _);(have ax:B0 rw=none:=by rw[hX,Ah _ _ _ _ n7.symm];exact W);have bm:=aj _ _ a5;have ao:=aj _ _ a7;have ap:=aj _ _ a6;obtain⟨K0,aq⟩: ∃X,X=upd heap r7 (some (.cells (Gw x) 136)):=⟨_,rfl⟩;rw[<-hX,<-aq] at D;clear hX;refine(λ(tail: ∀(S:DS) (y:List Tok),SAt B0 rw y S.heap->Lx (l.take (k+1))=y++Pj x->y.length<=100000->S.env 4= .omap J->S.env 5= .optr rw 0->S.env 7= .optr r7 0->S.env 17=Gh l->S.env 18=dI l.length->S.env 19=dI k->(?T:DS->Prop) S)=> ?A) ?B
   case A=>
    by_cases k0:k=0
    ·(have ar: ¬(0:Int)<(k:Int):=by omega);have O:Lx (l.take (k+1))= []++Pj x:=av k0;obtain⟨y,hts⟩: ∃y:List Tok,y= []:=⟨_,rfl⟩;rw[a8 k0,<-hts] at D;rw[<-hts] at O;(have C:y.length<=100000:=by rw[hts];simp);simp(disch:=omega)only[go_sem,ar];rw[<-aq];generalize hS:(DS.mk _ K0:DS)=S;exact tail S y (by rw[<-hS];exact D) O C (by rw[<-hS];first|rfl|simp(disch:=omega)only[go_sem,e4]) (by rw[<-hS];first|rfl|simp(disch:=omega)only[go_sem,Y]) (by rw[<-hS];first|rfl|simp(disch:=omega)only[go_sem,e4,Y,ad,Z,aa,Gh]) (by rw[<-hS];first|rfl|simp(disch:=omega)only[go_sem,ad,Gh]) (by rw[<-hS];first|rfl|simp(disch:=omega)only[go_sem,Z]) (by rw[<-hS];first|rfl|simp(disch:=omega)only[go_sem,aa])
    ·(have ar:(0:Int)<(k:Int):=by omega);(have O:Lx (l.take (k+1))=(Lx (l.take k)++ [Ag Hd])++Pj x:=by rw[aw (by omega)];simp);simp(disch:=omega)only[go_sem,Y,ar];rw[<-aq];intro q0 hq0;dsimp only at hq0;simp(disch:=omega)only[go_sem];refine(Al8 hG Hd hq0 ax (by omega) D).mono ?_;rintro _ K0 ⟨rfl,D⟩;obtain⟨y,hts⟩: ∃y:List Tok,y=Lx (l.take k)++ [Ag Hd]:=⟨_,rfl⟩;rw[<-hts] at D O;(have C:y.length<=100000:=by rw[hts,jC,jQ];omega);simp(disch:=omega)only[go_sem];generalize hS:(DS.mk _ K0:DS)=S;exact tail S y (by rw[<-hS];exact D) O C (by rw[<-hS];first|rfl|simp(disch:=omega)only[go_sem,e4]) (by rw[<-hS];first|rfl|simp(disch:=omega)only[go_sem,Y]) (by rw[<-hS];first|rfl|simp(disch:=omega)only[go_sem,e4,Y,ad,Z,aa,Gh]) (by rw[<-hS];first|rfl|simp(disch:=omega)only[go_sem,ad,Gh]) (by rw[<-hS];first|rfl|simp(disch:=omega)only[go_sem,Z]) (by rw[<-hS];first|rfl|simp(disch:=omega)only[go_sem,aa])
   case B=>
    rintro⟨E,K0⟩ y D O C z4 z5 z7 ay a0 a1;dsimp only at D z4 z5 z7 ay a0 a1;have h:St B0 B0 rw y K0:=⟨D,ax,Sub.refl B0⟩;have g7:=h.g M;have gm:=h.g bm;rcases a9 with hk|hk|hk;all_goals
     refine An (.take 0 (.take 1 (.take 2 (.take 6 (.take 7 (.take 8 (.take 11 (.take 12 (.take 14 (.take 15 (.alt (.go 4 [15,12,8,2] (.alt (.go 9 [15,12,2] (.go 3 [15,12,8] (.go 5 [15,12,8] (.go 10 [15,12] (.go 13 [15] (.go 16 [] .done)))))) (.go 3 [15,12,8] (.alt (.go 9 [15,12,2] (.go 5 [15,12,8] (.go 10 [15,12] (.go 13 [15] (.go 16 [] .done))))) (.go 5 [15,12,8] (.go 9 [15,12,2] (.go 10 [15,12] (.go 13 [15] (.go 16 [] .done))))))))) (.alt (.go 9 [15,12,2] (.alt (.go 4 [15,12,8,2] (.go 3 [15,12,8] (.go 5 [15,12,8] (.go 10 [15,12] (.go 13 [15] (.go 16 [] .done)))))) (.go 3 [15,12,8] (.go 4 [15,12,8,2] (.go 5 [15,12,8] (.go 10 [15,12] (.go 13 [15] (.go 16 [] .done)))))))) (.go 3 [15,12,8] (.alt (.go 9 [15,12,2] (.go 4 [15,12,8,2] (.go 5 [15,12,8] (.go 10 [15,12] (.go 13 [15] (.go 16 [] .done)))))) (.go 4 [15,12,8,2] (.alt (.go 9 [15,12,2] (.go 5 [15,12,8] (.go 10 [15,12] (.go 13 [15] (.go 16 [] .done))))) (.go 5 [15,12,8] (.go 9 [15,12,2] (.go 10 [15,12] (.go 13 [15] (.go 16 [] .done))))))))))))))))))))) ?_;simp(disch:=omega)only[go_sem,g7,gm,hk,z4,z5,z7,Eo,Bx2,Xk,Ef6,Bd9]
     repeat'
      first
      |with_reducible apply And.intro
      |have p7:=h.g M
       have pm:=h.g bm;first
       |with_reducible refine(h.call (Ah1 hG x.names (by omega)) (by(try simp only[jC,jA,jB,jN,jP] at C⊢)<;>omega)).mono ?_
       |with_reducible refine(h.call (Fj hG x.type o2 f1.fitx) (by(try simp only[jC,jA,jB,jN,jP] at C⊢)<;>omega)).mono ?_
       |with_reducible refine(h.call (Bj9 hG x.e o3 f2) (by(try simp only[jC,jA,jB,jN,jP] at C⊢)<;>omega)).mono ?_
       |refine(h.put hG [Rq] ba (by(try simp only[jC,jA,jB,jN,jP] at C⊢)<;>omega)).mono ?_
       |refine(h.putn hG (by(try simp only[jC,jA,jB,jN,jP] at C⊢)<;>omega)).mono ?_
       |refine(h.put hG [Aw0] ao (by(try simp only[jC,jA,jB,jN,jP] at C⊢)<;>omega)).mono ?_
       |refine(h.put hG [wIn,Aw0] ap (by(try simp only[jC,jA,jB,jN,jP] at C⊢)<;>omega)).mono ?_
       rintro _ Kw ⟨rfl,h⟩;try simp(disch:=omega)only[go_sem,p7,h.g M,h.g bm,a1]
      |refine⟨k+1,_,Rn.refl _,(hI _ _ _).2 ?_,by omega⟩
       simp(disch:=omega)only[go_sem,z4,z5,ay,a0];(repeat' apply And.intro)<;>(try first|rfl|assumption|omega);rw[O];have hz:=(h.hw.less h.hs).less aj;simpa [Pj,Xi,hk] using hz
      |intro qa a2;dsimp only at a2
       have p7:=h.g M;obtain⟨Bw,Kw,ew,h,sw,ba⟩:=h.new a2 (.cells [.str [58]] 9);rw[ew];replace M:=sw _ _ M;replace bm:=sw _ _ bm;replace ao:=sw _ _ ao;replace ap:=sw _ _ ap;try simp(disch:=omega)only[go_sem,p7,h.g M,h.g bm]
      |refine⟨_,rfl, ?_⟩
       try simp(disch:=omega)only[go_sem]
  ·(have:k=l.length:=by omega);subst this;(have am: ¬(l.length:Int)<(l.length:Int):=by omega);rw[List.take_length] at ab;have hs:=sm;obtain⟨v,bb,bc⟩:=ab.cell W;have a3:=ab.sub W;simp(disch:=omega)only[go_sem,Y,Z,aa,am];simp(disch:=omega)only[go_sem,bb];exact Ln.fin (hs.trans a3) (Ln.tuple (.cons (λw hw x hx=>Rel.lasts (Dq hs w) _ _ (bc w hw x hx)) (Km.keep (hs.trans a3) _))) ⟨rfl,rfl⟩
end
theorem Xs {α:Type} (f:α->α->Bool): ∀l m:List α,Ni f l m=eqF f l m
 | [],[]=>rfl
 | [],_::_=>rfl
 |_::_,[]=>rfl
 |x::l,y::m=>by rw[Ni,eqF,Xs f l m]
theorem Ft9 (G:Nat->DVal) (H:Ab) (p:Par->Par->Bool) (l m:List Par) (g:FuncId) (hl:l.length<=1099511627776)
  (hp: ∀x∈l,∀y∈m,∀H,Ad Tryz.prog G g ([]++ [.agg (Gw x),.agg (Gw y)]++ []) H (Am (.bool (p x y)) H)):
  Ad Tryz.prog G 127 [.vslice (l.flatMap Gw) l.length,.vslice (m.flatMap Gw) m.length,.func (.func g) [] []] H (Am (.bool (eqF p l m)) H):=by
 refine dci Tryz.func127 Tryz.call127 ?_;by_cases U:l.length=m.length
 ·have E:(l.length:Int)=(m.length:Int):=by omega
  simp only[go_sem,E];obtain⟨I,J⟩: ∃I:Nat->(Nat->DVal)->Ab->Prop,∀k env heap,I k env heap↔(env 0= .vslice (l.flatMap Gw) l.length/\env 1= .vslice (m.flatMap Gw) m.length/\env 2= .func (.func g) [] []/\env 15= .vslice (l.flatMap Gw) l.length/\env 16=dI m.length/\env 17=dI k/\k<=l.length/\eqF p l m=eqF p (l.drop k) (m.drop k)/\Sub H heap):=⟨_,λ_ _ _=>Iff.rfl⟩;refine Ea9.run I (λk=>l.length-k) 0 ((J _ _ _).2 ?_) ?_
  ·simp only[go_sem];(repeat' apply And.intro)<;>(try first|rfl|assumption|omega);exact Sub.refl _
  ·intro k env heap hi;obtain⟨Z,e1,V,W,L,M,hk,C,X⟩:=(J _ _ _).1 hi;have hfl:=Ak Eo l;have aa:=Ak Eo m;by_cases O:k<l.length
   ·(have D:(k:Int)<(m.length:Int):=by omega);(have ab:(k:Int)<(l.length:Int):=by omega);(have S:k<m.length:=by omega);have ac:=Bh Eo l k O;have ad:=Bh Eo m k S;(have ae:IntKind.i64.wrap ((k:Int)+1)=((k+1:Nat):Int):=by rw[IntKind.wrap_i64];omega);simp(disch:=omega)only[go_sem,W,L,M,D,ab,ac,hfl,jD];intro r8 af;simp(disch:=omega)only[go_sem,e1,D,ad,aa,jD];intro r9 Y;obtain⟨m2,m1,ah⟩:=Aq.1 Y;simp only[go_sem,V,m1];refine .monoR (hp l[k] (List.getElem_mem O) m[k] (List.getElem_mem S) _) ?_;rw[Qz O S] at C;have ag:=(X.new af (some (DObj.cells (Gw l[k]) 136))).new Y (some (DObj.cells (Gw m[k]) 136));cases hb:p l[k] m[k] with
    |true=>
     rw[hb,jS] at C;simp only[go_sem,M];refine⟨k+1,_,Rn.refl _,(J _ _ _).2 ?_,by omega⟩;simp only[go_sem,Z,e1,V,W,L,ae];(repeat' apply And.intro)<;>(try first|rfl|assumption|omega)
    |false=>
     rw[hb,jT] at C;simp only[go_sem];exact Dj.sub ag (Dj.refl ⟨by rw[C],rfl⟩)
   ·(have:k=l.length:=by omega);subst this;(have D: ¬(l.length:Int)<(m.length:Int):=by omega);simp only[go_sem,L,M,D];refine Dj.sub X (Dj.refl ⟨?_,rfl⟩);rw[C,List.drop_length,U,List.drop_length];rfl
 ·have E: ¬(l.length:Int)=(m.length:Int):=by omega
  simp only[go_sem,E];exact Dj.refl ⟨by rw[Wb U],rfl⟩
theorem Fu0 (G:Nat->DVal) (H:Ab) (p:Asp->Asp->Bool) (l m:List Asp) (g:FuncId) (hl:l.length<=1099511627776)
  (hp: ∀x∈l,∀y∈m,∀H,Ad Tryz.prog G g ([]++ [.agg (Ip x),.agg (Ip y)]++ []) H (Am (.bool (p x y)) H)):
  Ad Tryz.prog G 145 [.vslice (l.flatMap Ip) l.length,.vslice (m.flatMap Ip) m.length,.func (.func g) [] []] H (Am (.bool (eqF p l m)) H):=by
 refine dci Tryz.func145 Tryz.call145 ?_;by_cases U:l.length=m.length
 ·have E:(l.length:Int)=(m.length:Int):=by omega
  simp only[go_sem,E];obtain⟨I,J⟩: ∃I:Nat->(Nat->DVal)->Ab->Prop,∀k env heap,I k env heap↔(env 0= .vslice (l.flatMap Ip) l.length/\env 1= .vslice (m.flatMap Ip) m.length/\env 2= .func (.func g) [] []/\env 15= .vslice (l.flatMap Ip) l.length/\env 16=dI m.length/\env 17=dI k/\k<=l.length/\eqF p l m=eqF p (l.drop k) (m.drop k)/\Sub H heap):=⟨_,λ_ _ _=>Iff.rfl⟩;refine Ea9.run I (λk=>l.length-k) 0 ((J _ _ _).2 ?_) ?_
  ·simp only[go_sem];(repeat' apply And.intro)<;>(try first|rfl|assumption|omega);exact Sub.refl _
  ·intro k env heap hi;obtain⟨Z,e1,V,W,L,M,hk,C,X⟩:=(J _ _ _).1 hi;have hfl:=Ak Gr l;have aa:=Ak Gr m;by_cases O:k<l.length
   ·(have D:(k:Int)<(m.length:Int):=by omega);(have ab:(k:Int)<(l.length:Int):=by omega);(have S:k<m.length:=by omega);have ac:=Bh Gr l k O;have ad:=Bh Gr m k S;(have ae:IntKind.i64.wrap ((k:Int)+1)=((k+1:Nat):Int):=by rw[IntKind.wrap_i64];omega);simp(disch:=omega)only[go_sem,W,L,M,D,ab,ac,hfl,jD];intro r8 af;simp(disch:=omega)only[go_sem,e1,D,ad,aa,jD];intro r9 Y;obtain⟨m2,m1,ah⟩:=Aq.1 Y;simp only[go_sem,V,m1];refine .monoR (hp l[k] (List.getElem_mem O) m[k] (List.getElem_mem S) _) ?_;rw[Qz O S] at C;have ag:=(X.new af (some (DObj.cells (Ip l[k]) 187))).new Y (some (DObj.cells (Ip m[k]) 187));cases hb:p l[k] m[k] with
    |true=>
     rw[hb,jS] at C;simp only[go_sem,M];refine⟨k+1,_,Rn.refl _,(J _ _ _).2 ?_,by omega⟩;simp only[go_sem,Z,e1,V,W,L,ae];(repeat' apply And.intro)<;>(try first|rfl|assumption|omega)
    |false=>
     rw[hb,jT] at C;simp only[go_sem];exact Dj.sub ag (Dj.refl ⟨by rw[C],rfl⟩)
   ·(have:k=l.length:=by omega);subst this;(have D: ¬(l.length:Int)<(m.length:Int):=by omega);simp only[go_sem,L,M,D];refine Dj.sub X (Dj.refl ⟨?_,rfl⟩);rw[C,List.drop_length,U,List.drop_length];rfl
 ·have E: ¬(l.length:Int)=(m.length:Int):=by omega
  simp only[go_sem,E];exact Dj.refl ⟨by rw[Wb U],rfl⟩
theorem Fu1 (G:Nat->DVal) (H:Ab) (p:Cmp->Cmp->Bool) (l m:List Cmp) (g:FuncId) (hl:l.length<=1099511627776)
  (hp: ∀x∈l,∀y∈m,∀H,Ad Tryz.prog G g ([]++ [.agg (Ih x),.agg (Ih y)]++ []) H (Am (.bool (p x y)) H)):
  Ad Tryz.prog G 152 [.vslice (l.flatMap Ih) l.length,.vslice (m.flatMap Ih) m.length,.func (.func g) [] []] H (Am (.bool (eqF p l m)) H):=by
 refine dci Tryz.func152 Tryz.call152 ?_;by_cases U:l.length=m.length
 ·have E:(l.length:Int)=(m.length:Int):=by omega
  simp only[go_sem,E];obtain⟨I,J⟩: ∃I:Nat->(Nat->DVal)->Ab->Prop,∀k env heap,I k env heap↔(env 0= .vslice (l.flatMap Ih) l.length/\env 1= .vslice (m.flatMap Ih) m.length/\env 2= .func (.func g) [] []/\env 15= .vslice (l.flatMap Ih) l.length/\env 16=dI m.length/\env 17=dI k/\k<=l.length/\eqF p l m=eqF p (l.drop k) (m.drop k)/\Sub H heap):=⟨_,λ_ _ _=>Iff.rfl⟩;refine Ea9.run I (λk=>l.length-k) 0 ((J _ _ _).2 ?_) ?_
  ·simp only[go_sem];(repeat' apply And.intro)<;>(try first|rfl|assumption|omega);exact Sub.refl _
  ·intro k env heap hi;obtain⟨Z,e1,V,W,L,M,hk,C,X⟩:=(J _ _ _).1 hi;have hfl:=Ak Ez l;have aa:=Ak Ez m;by_cases O:k<l.length
   ·(have D:(k:Int)<(m.length:Int):=by omega);(have ab:(k:Int)<(l.length:Int):=by omega);(have S:k<m.length:=by omega);have ac:=Bh Ez l k O;have ad:=Bh Ez m k S;(have ae:IntKind.i64.wrap ((k:Int)+1)=((k+1:Nat):Int):=by rw[IntKind.wrap_i64];omega);simp(disch:=omega)only[go_sem,W,L,M,D,ab,ac,hfl,jD];intro r8 af;simp(disch:=omega)only[go_sem,e1,D,ad,aa,jD];intro r9 Y;obtain⟨m2,m1,ah⟩:=Aq.1 Y;simp only[go_sem,V,m1];refine .monoR (hp l[k] (List.getElem_mem O) m[k] (List.getElem_mem S) _) ?_;rw[Qz O S] at C;have ag:=(X.new af (some (DObj.cells (Ih l[k]) 202))).new Y (some (DObj.cells (Ih m[k]) 202));cases hb:p l[k] m[k] with
    |true=>
     rw[hb,jS] at C;simp only[go_sem,M];refine⟨k+1,_,Rn.refl _,(J _ _ _).2 ?_,by omega⟩;simp only[go_sem,Z,e1,V,W,L,ae];(repeat' apply And.intro)<;>(try first|rfl|assumption|omega)
    |false=>
     rw[hb,jT] at C;simp only[go_sem];exact Dj.sub ag (Dj.refl ⟨by rw[C],rfl⟩)
   ·(have:k=l.length:=by omega);subst this;(have D: ¬(l.length:Int)<(m.length:Int):=by omega);simp only[go_sem,L,M,D];refine Dj.sub X (Dj.refl ⟨?_,rfl⟩);rw[C,List.drop_length,U,List.drop_length];rfl
 ·have E: ¬(l.length:Int)=(m.length:Int):=by omega
  simp only[go_sem,E];exact Dj.refl ⟨by rw[Wb U],rfl⟩
theorem Fu2 (G:Nat->DVal) (H:Ab) (p:Arm->Arm->Bool) (l m:List Arm) (g:FuncId) (hl:l.length<=1099511627776)
  (hp: ∀x∈l,∀y∈m,∀H,Ad Tryz.prog G g ([]++ [.agg (Kk x),.agg (Kk y)]++ []) H (Am (.bool (p x y)) H)):
  Ad Tryz.prog G 114 [.vslice (l.flatMap Kk) l.length,.vslice (m.flatMap Kk) m.length,.func (.func g) [] []] H (Am (.bool (eqF p l m)) H):=by
 refine dci Tryz.func114 Tryz.call114 ?_;by_cases U:l.length=m.length
 ·have E:(l.length:Int)=(m.length:Int):=by omega
  simp only[go_sem,E];obtain⟨I,J⟩: ∃I:Nat->(Nat->DVal)->Ab->Prop,∀k env heap,I k env heap↔(env 0= .vslice (l.flatMap Kk) l.length/\env 1= .vslice (m.flatMap Kk) m.length/\env 2= .func (.func g) [] []/\env 15= .vslice (l.flatMap Kk) l.length/\env 16=dI m.length/\env 17=dI k/\k<=l.length/\eqF p l m=eqF p (l.drop k) (m.drop k)/\Sub H heap):=⟨_,λ_ _ _=>Iff.rfl⟩;refine Ea9.run I (λk=>l.length-k) 0 ((J _ _ _).2 ?_) ?_
  ·simp only[go_sem];(repeat' apply And.intro)<;>(try first|rfl|assumption|omega);exact Sub.refl _
  ·intro k env heap hi;obtain⟨Z,e1,V,W,L,M,hk,C,X⟩:=(J _ _ _).1 hi;have hfl:=Ak Fa l;have aa:=Ak Fa m;by_cases O:k<l.length
   ·(have D:(k:Int)<(m.length:Int):=by omega);(have ab:(k:Int)<(l.length:Int):=by omega);(have S:k<m.length:=by omega);have ac:=Bh Fa l k O;have ad:=Bh Fa m k S;(have ae:IntKind.i64.wrap ((k:Int)+1)=((k+1:Nat):Int):=by rw[IntKind.wrap_i64];omega);simp(disch:=omega)only[go_sem,W,L,M,D,ab,ac,hfl,jD];intro r8 af;simp(disch:=omega)only[go_sem,e1,D,ad,aa,jD];intro r9 Y;obtain⟨m2,m1,ah⟩:=Aq.1 Y;simp only[go_sem,V,m1];refine .monoR (hp l[k] (List.getElem_mem O) m[k] (List.getElem_mem S) _) ?_;rw[Qz O S] at C;have ag:=(X.new af (some (DObj.cells (Kk l[k]) 164))).new Y (some (DObj.cells (Kk m[k]) 164));cases hb:p l[k] m[k] with
    |true=>
     rw[hb,jS] at C;simp only[go_sem,M];refine⟨k+1,_,Rn.refl _,(J _ _ _).2 ?_,by omega⟩;simp only[go_sem,Z,e1,V,W,L,ae];(repeat' apply And.intro)<;>(try first|rfl|assumption|omega)
    |false=>
     rw[hb,jT] at C;simp only[go_sem];exact Dj.sub ag (Dj.refl ⟨by rw[C],rfl⟩)
   ·(have:k=l.length:=by omega);subst this;(have D: ¬(l.length:Int)<(m.length:Int):=by omega);simp only[go_sem,L,M,D];refine Dj.sub X (Dj.refl ⟨?_,rfl⟩);rw[C,List.drop_length,U,List.drop_length];rfl
 ·have E: ¬(l.length:Int)=(m.length:Int):=by omega
  simp only[go_sem,E];exact Dj.refl ⟨by rw[Wb U],rfl⟩
section
variable (G:Nat->DVal) (H:Ab)
theorem n40 {l:List (List UInt8)} {n:Nat} (h:Aa4 n l) (y:n<=16777216):l.length<=1099511627776:=by have:=h.1;omega
theorem l40 {α:Type} {f:Nat->α->Prop} {l:List α} {n:Nat} (h:Ei f n l) (y:n<=16777216):l.length<=1099511627776:=by have:=h.1;omega
theorem bft:(false==true)=false:=rfl
theorem btf:(true==false)=false:=rfl
theorem bff:(false==false)=true:=rfl
theorem btt:(true==true)=true:=rfl
theorem Hg9 {l:List Ch} (h:Bd8 16777216 l):Gq l<=1099511627776:=by have:=h.1;omega
theorem Fu3 (a b:Par) (ha:Nk 16777216 a) (hb:Nk 16777216 b):Ad Tryz.prog G 128 ([]++ [.agg (Gw a),.agg (Gw b)]++ []) H (Am (.bool (Ml a b)) H):=by
 obtain⟨S,U,V⟩:=ha;refine dci Tryz.func128 Tryz.call128 ?_;simp only[go_sem,DVal.cells,jG,jH];intro J W;obtain⟨X,y⟩: ∃K',K'=upd H J (some (.cells (Gw a) 136)):=⟨_,rfl⟩;rw[<-y];have L:=y.symm▸Aa _ _ _;have M:=y.symm▸(Sub.refl _).new W _;simp only[go_sem,DVal.cells];intro Y Z;obtain⟨K,C⟩: ∃K',K'=upd X Y (some (.cells (Gw b) 136)):=⟨_,rfl⟩;rw[<-C];have O:=C.symm▸Aa _ _ _;have I:=C.symm▸(Sub.refl _).new Z _;have D:K J=some (.cells (Gw a) 136):=I _ _ L;have E:=O;have t:Sub H K:=M.trans I;clear I M O L C y;simp only[go_sem,D,E,Bx2];refine Ad.monoR (Af7 G K a.names b.names (n40 S (by omega)) (n40 hb.1 (by omega))) ?_;cases h1:decide (a.names=b.names)
 ·simp only[go_sem];exact Dj.sub t (.refl ⟨by simp [Ml, *],rfl⟩)
 simp only[go_sem,D,E,Xk];by_cases h2:a.mode=b.mode
 ·simp only[go_sem,D,E,h2,Eo,Ef6];refine Ad.monoR (Hj G K a.type b.type (Xl U (by omega))) ?_;cases h3:Ee a.type b.type
  ·simp only[go_sem];exact Dj.sub t (.refl ⟨by simp [Ml, *],rfl⟩)
  simp only[go_sem,D,E,Eo,Bd9];refine Ad.monoR (Hj G K a.e b.e (Xl V (by omega))) ?_;cases h4:Ee a.e b.e
  ·simp only[go_sem];exact Dj.sub t (.refl ⟨by simp [Ml, *],rfl⟩)
  simp only[go_sem];exact Dj.sub t (.refl ⟨by simp [Ml, *],rfl⟩)
 ·simp only[go_sem,h2];exact Dj.sub t (.refl ⟨by simp [Ml,h2],rfl⟩)
theorem Fu4 (a b:Asp) (ha:Ue 16777216 a):Ad Tryz.prog G 146 ([]++ [.agg (Ip a),.agg (Ip b)]++ []) H (Am (.bool (Qn a b)) H):=by
 obtain⟨Y,S⟩:=ha;refine dci Tryz.func146 Tryz.call146 ?_;simp only[go_sem,DVal.cells,jG,jH];intro E U;obtain⟨V,y⟩: ∃K',K'=upd H E (some (.cells (Ip a) 187)):=⟨_,rfl⟩;rw[<-y];have I:=y.symm▸Aa _ _ _;have J:=y.symm▸(Sub.refl _).new U _;simp only[go_sem,DVal.cells];intro W X;obtain⟨K,C⟩: ∃K',K'=upd V W (some (.cells (Ip b) 187)):=⟨_,rfl⟩;rw[<-C];have L:=C.symm▸Aa _ _ _;have D:=C.symm▸(Sub.refl _).new X _;have M:K E=some (.cells (Ip a) 187):=D _ _ I;have O:=L;have t:Sub H K:=J.trans D;clear D J L I C y;simp only[go_sem,M,O,Df6];by_cases h2:a.name=b.name
 ·simp only[go_sem,M,O,h2,Gr,Df7];refine Ad.monoR (Hj G K a.e b.e (Xl S (by omega))) ?_;cases h4:Ee a.e b.e
  ·simp only[go_sem];exact Dj.sub t (.refl ⟨by simp [Qn, *],rfl⟩)
  simp only[go_sem];exact Dj.sub t (.refl ⟨by simp [Qn, *],rfl⟩)
 ·simp only[go_sem,h2];exact Dj.sub t (.refl ⟨by simp [Qn,h2],rfl⟩)
theorem Fu5 (a b:Cmp) (ha:Ka 16777216 a) (hb:Ka 16777216 b):Ad Tryz.prog G 153 ([]++ [.agg (Ih a),.agg (Ih b)]++ []) H (Am (.bool (Kj a b)) H):=by
 obtain⟨S,U,V⟩:=ha;refine dci Tryz.func153 Tryz.call153 ?_;simp only[go_sem,DVal.cells,jG,jH];intro J W;obtain⟨X,y⟩: ∃K',K'=upd H J (some (.cells (Ih a) 202)):=⟨_,rfl⟩;rw[<-y];have L:=y.symm▸Aa _ _ _;have M:=y.symm▸(Sub.refl _).new W _;simp only[go_sem,DVal.cells];intro Y Z;obtain⟨K,C⟩: ∃K',K'=upd X Y (some (.cells (Ih b) 202)):=⟨_,rfl⟩;rw[<-C];have O:=C.symm▸Aa _ _ _;have D:=C.symm▸(Sub.refl _).new Z _;have E:K J=some (.cells (Ih a) 202):=D _ _ L;have I:=O;have t:Sub H K:=M.trans D;clear D M O L C y;simp only[go_sem,E,I,Df8];refine Ad.monoR (Af7 G K a.names b.names (n40 S (by omega)) (n40 hb.1 (by omega))) ?_;cases h1:decide (a.names=b.names)
 ·simp only[go_sem];exact Dj.sub t (.refl ⟨by simp [Kj, *],rfl⟩)
 simp only[go_sem,E,I,Ez,Ef7];refine Ad.monoR (Sj G K a.sub b.sub U) ?_;cases h2:Ki a.sub b.sub
 ·simp only[go_sem];exact Dj.sub t (.refl ⟨by simp [Kj, *],rfl⟩)
 simp only[go_sem,E,I,Ez,Bx3];refine Ad.monoR (Hj G K a.e b.e (Xl V (by omega))) ?_;cases h4:Ee a.e b.e
 ·simp only[go_sem];exact Dj.sub t (.refl ⟨by simp [Kj, *],rfl⟩)
 simp only[go_sem];exact Dj.sub t (.refl ⟨by simp [Kj, *],rfl⟩)
theorem Aa8 (a b:List Par) (ha:Ei Nk 16777216 a) (hb:Ei Nk 16777216 b):Ad Tryz.prog G 29 [Gh a,Gh b] H (Am (.bool (Ni Ml a b)) H):=by
 refine dci Tryz.func29 Tryz.call29 ?_;simp only[go_sem,Gh];refine Ad.monoR (Ft9 G H Ml a b 128 (l40 ha (by omega)) λx hx y C K=>Fu3 G K x y (ha.2 x hx) (hb.2 y C)) ?_;simp only[go_sem];exact Dj.refl ⟨by rw[Xs],rfl⟩
theorem Bf1 (a b:List Asp) (ha:Ei Ue 16777216 a):Ad Tryz.prog G 43 [Ib a,Ib b] H (Am (.bool (Ni Qn a b)) H):=by
 refine dci Tryz.func43 Tryz.call43 ?_;simp only[go_sem,Ib];refine Ad.monoR (Fu0 G H Qn a b 146 (l40 ha (by omega)) λx hx y C K=>Fu4 G K x y (ha.2 x hx)) ?_;simp only[go_sem];exact Dj.refl ⟨by rw[Xs],rfl⟩
theorem Un (a b:List Cmp) (ha:Ei Ka 16777216 a) (hb:Ei Ka 16777216 b):Ad Tryz.prog G 47 [Ci a,Ci b] H (Am (.bool (Ni Kj a b)) H):=by
 refine dci Tryz.func47 Tryz.call47 ?_;simp only[go_sem,Ci];refine Ad.monoR (Fu1 G H Kj a b 153 (l40 ha (by omega)) λx hx y C K=>Fu5 G K x y (ha.2 x hx) (hb.2 y C)) ?_;simp only[go_sem];exact Dj.refl ⟨by rw[Xs],rfl⟩
theorem Fu6 (a b:Arm) (ha:Aa5 16777216 a) (hb:Aa5 16777216 b):Ad Tryz.prog G 115 ([]++ [.agg (Kk a),.agg (Kk b)]++ []) H (Am (.bool (Qo a b)) H):=by
 obtain⟨S,U⟩:=ha;refine dci Tryz.func115 Tryz.call115 ?_;simp only[go_sem,DVal.cells,jG,jH];intro E V;obtain⟨W,y⟩: ∃K',K'=upd H E (some (.cells (Kk a) 164)):=⟨_,rfl⟩;rw[<-y];have I:=y.symm▸Aa _ _ _;have J:=y.symm▸(Sub.refl _).new V _;simp only[go_sem,DVal.cells];intro X Y;obtain⟨K,C⟩: ∃K',K'=upd W X (some (.cells (Kk b) 164)):=⟨_,rfl⟩;rw[<-C];have L:=C.symm▸Aa _ _ _;have D:=C.symm▸(Sub.refl _).new Y _;have M:K E=some (.cells (Kk a) 164):=D _ _ I;have O:=L;have t:Sub H K:=J.trans D;clear D J L I C y;simp only[go_sem,M,O,Ci5];refine Ad.monoR (Bb4 G K a.c b.c (Hg9 S)) ?_;cases h1:Kf a.c b.c
 ·simp only[go_sem];exact Dj.sub t (.refl ⟨by simp [Qo, *],rfl⟩)
 simp only[go_sem,M,O,Ci6];refine Ad.monoR (Un G K a.comps b.comps U hb.2) ?_;cases h4:Ni Kj a.comps b.comps
 ·simp only[go_sem];exact Dj.sub t (.refl ⟨by simp [Qo, *],rfl⟩)
 simp only[go_sem];exact Dj.sub t (.refl ⟨by simp [Qo, *],rfl⟩)
theorem Cu1 (a b:Typ) (ha:Lb 16777216 a) (hb:Lb 16777216 b):Ad Tryz.prog G 25 [.agg (Cf a),.agg (Cf b)] H (Am (.bool (Aj3 a b)) H):=by
 obtain⟨V,W,X,Y,Z,f5,f6,I⟩:=ha;refine dci Tryz.func25 Tryz.call25 ?_;simp only[go_sem,DVal.cells];intro J aa;obtain⟨K2,C⟩: ∃K',K'=upd H J (some (.cells (Cf a) 62)):=⟨_,rfl⟩;rw[<-C];have L:=C.symm▸Aa _ _ _;have M:=C.symm▸(Sub.refl _).new aa _;simp only[go_sem,DVal.cells];intro r3 ab;obtain⟨K,D⟩: ∃K',K'=upd K2 r3 (some (.cells (Cf b) 62)):=⟨_,rfl⟩;rw[<-D];have O:=D.symm▸Aa _ _ _;have E:=D.symm▸(Sub.refl _).new ab _;have S:K J=some (.cells (Cf a) 62):=E _ _ L;have U:=O;have t:Sub H K:=M.trans E;clear E M O L D C;by_cases h0:a.kind=b.kind;all_goals by_cases h7:a.var=b.var
 all_goals cases h8:a.limited
 all_goals cases h9:b.limited
 all_goals simp only[go_sem,S,U,Fq,Fq6,Fq7,Cr3,h0]
 all_goals repeat' first
  |(refine Ad.monoR (Af7 G K a.names b.names (n40 V (by omega)) (n40 hb.1 (by omega))) ?_;cases h1:decide (a.names=b.names))
  |(refine Ad.monoR (Hj G K a.lo b.lo (Xl W (by omega))) ?_;cases h2:Ee a.lo b.lo)
  |(refine Ad.monoR (Hj G K a.hi b.hi (Xl X (by omega))) ?_;cases h3:Ee a.hi b.hi)
  |(refine Ad.monoR (Sj G K a.sub b.sub Y) ?_;cases h4:Ki a.sub b.sub)
  |(refine Ad.monoR (Ze G K a.disc b.disc Z) ?_;cases h5:Nr a.disc b.disc)
  |(refine Ad.monoR (Un G K a.comps b.comps f5 hb.2.2.2.2.2.1) ?_;cases h6:Ni Kj a.comps b.comps)
  |(refine Ad.monoR (Fu2 G K Qo a.arms b.arms 115 (l40 I (by omega)) λx hx y hy K=>Fu6 G K x y (I.2 x hx) (hb.2.2.2.2.2.2.2.2 y hy)) ?_;rw[<-Xs Qo a.arms b.arms];cases h10:Ni Qo a.arms b.arms)
  |((with_reducible show Dj _ _ _);exact Dj.sub t (.refl ⟨by simp [Aj3, *],rfl⟩))
  |simp only[go_sem,S,U,Fq,Fq8,Dv5,Bx4,Cr3,Dv6,Be0,Af6,Fq9,h7,h8,h9,Ep,bft,btf,bff,btt]
end
section
variable {G:Nat->DVal}
theorem Dj.nzA {R:DEnd->Ab->Prop} {cs:List DVal} {H H':Ab} (h:Sub H H') (y:R (.ret (.agg (cs.map nz))) H):Dj R (.agg cs) H':=
 Dj.sub h (Dj.le (λw H x hx=>by
  simp only[Rel] at hx⊢
  obtain⟨xs,rfl,hx⟩:=hx;exact⟨xs,rfl,Cr6 w H _ _ hx⟩) (.refl y))
theorem Mo (G:Nat->DVal) (H:Ab) (s:List UInt8) (hs:s.length<=1000):Ad Tryz.prog G 55 [.str s] H (Am (Be (Cc s).1) H):=by
 refine dci Tryz.func55 Tryz.call55 ?_;simp(disch:=omega)only[go_sem];refine Ad.monoR (Cr0 G H s (by omega)) ?_;simp(disch:=omega)only[go_sem];exact Dj.refl ⟨rfl,rfl⟩
theorem Oa (G:Nat->DVal) (H:Ab) (s:List UInt8):Ad Tryz.prog G 87 [.str s] H (Am (dE (.mk 3 0 0 s [] [] 0 0 0)) H):=by
 refine dci Tryz.func87 Tryz.call87 ?_;simp(disch:=omega)only[go_sem];intro q hq;simp(disch:=omega)only[go_sem];exact Dj.nzA ((Sub.refl H).new hq _) ⟨by rw[dE,Ys];rfl,rfl⟩
theorem Sr (G:Nat->DVal) (H:Ab) (n:Int):Ad Tryz.prog G 88 [.int .i64 n] H (Am (dE (.mk 1 0 n [] [] [] 0 0 0)) H):=by
 refine dci Tryz.func88 Tryz.call88 ?_;simp(disch:=omega)only[go_sem];intro q hq;simp(disch:=omega)only[go_sem];exact Dj.nzA ((Sub.refl H).new hq _) ⟨by rw[dE,Ys];rfl,rfl⟩
def Ha1 (l:List Tok):Bool:=decide (l.length<=400)&&l.all λt=>decide (t.text.length<=1000)
theorem Ay2 {l:List Tok} (h:Ha1 l=true):l.length<=8000000/\Bv l:=by
 rw[Ha1,jF,decide_eq_true_eq,List.all_eq_true] at h;exact⟨by omega,Ag3 λt ht=>by have:=of_decide_eq_true (h.2 t ht);omega⟩
def Fu7 (s:List UInt8) (n kind:Int) (text:List UInt8):Bool:=
 decide (s.length<=1000)&&Ha1 (Cc s).1&&(decide ((My (Cc s).1).2.1=n)&&decide ((My (Cc s).1).2.2=0)&&decide ((My (Cc s).1).1.kind=kind)&&Dn (My (Cc s).1).1&&
  (decide ((Ig (My (Cc s).1).1 0).length<=1000)&&((Ig (My (Cc s).1).1 0).all λy=>decide (y.l.length<=1000))&&decide ((Rp (Ig (My (Cc s).1).1 0)).1=text)&&decide ((Rp (Ig (My (Cc s).1).1 0)).2=0)))
theorem Ha2 (t:Typ):(Cf t)[0]? =some (.int .u8 t.kind):=rfl
theorem Vx (hG:GX G) (H:Ab) (s:List UInt8) (n kind:Int) (text:List UInt8) (h:Fu7 s n kind text=true):Ad Tryz.prog G 86 [.str s,dI n,.int .u8 kind,.str text] H (Am (.bool true) H):=by
 simp only[Fu7,jF,decide_eq_true_eq] at h;obtain⟨⟨h0,h1⟩,⟨⟨⟨h2,h3⟩,h4⟩,h5⟩,⟨⟨h6,h7⟩,h8⟩,h9⟩:=h;obtain⟨hl,C⟩:=Ay2 h1;obtain⟨x,hx⟩: ∃x,My (Cc s).1=x:=⟨_,rfl⟩;rw[hx] at h2 h3 h4 h5 h6 h7 h8 h9;obtain⟨t,n',e⟩:=x;dsimp only at h2 h3 h4 h5 h6 h7 h8 h9;subst h2 h3;have D:Lb 16777216 t:=by
  cases hr:Xn (Cc s).1 0 with
  |ok y k=>
   rw[My,hr,Ii] at hx;split at hx
   ·cases hx;exact Ct1 C hl (Nat.zero_le _) t k hr
   ·cases hx
  |fail k=>rw[My,hr] at hx;cases hx
  |long=>rw[My,hr] at hx;cases hx
 refine dci Tryz.func86 Tryz.call86 ?_;simp(disch:=omega)only[go_sem];refine Ad.monoR (Mo G H s h0) ?_;simp(disch:=omega)only[go_sem];refine Ad.monoR (Aq5 hG H hl C) ?_;rw[hx];simp(disch:=omega)only[go_sem,Gf];intro q hq;simp(disch:=omega)only[go_sem,Fq,Xq,jH,jL];refine Ad.monoR (Rv hG _ t 0 D) ?_;rw[Cj9,h5,if_pos rfl];simp(disch:=omega)only[go_sem];refine Ad.monoR (Df3 G _ (Ig t 0) (by omega) (λy E=>by have:=of_decide_eq_true (List.all_eq_true.1 h7 y E);omega)) ?_;simp(disch:=omega)only[go_sem,Ha2,h4,h8,h9];exact Dj.sub ((Sub.refl H).new hq _) (.refl ⟨rfl,rfl⟩)
theorem Ad.nz2 {P:Program} {f:FuncId} {args:List DVal} {H:Ab} {R:DEnd->Ab->Prop} (h:Ad P G f (args.map Dl.nz2) H R):Ad P G f args H R:=
 Ad.pre (λw hw=>⟨hw,λ_ h=>h,λx hx=>by
  simp only[Rel] at hx⊢
  obtain⟨xs,rfl,hx⟩:=hx;exact⟨xs,rfl,Ct8 w H _ _ hx⟩⟩) h
theorem Ln.part {H H':Ab} {e:TypeId} {size r n lo:Nat} {cs D cs':List DVal} (hr:H r=none) (E:H' r=some (.cells D e)) (I:D.take (n*size)=cs) (hl:cs.length=n*size) (hs:Km H' cs H cs'):Ln H' (.oslice size r 0 n lo) H (.vslice cs' n):=λw hw x hx=>by
 simp only[Rel] at hx⊢
 obtain⟨o,cap,rfl,h1,h2,h3,h4⟩:=hx;refine⟨_,cap,rfl,h2, ?_⟩;by_cases h0:cs= []
 ·subst h0;have:=hs w hw [] (by simp [Ar]);cases cs' with
  |nil=>exact .inl rfl
  |cons c cs'=>simp [Ar] at this
 ·obtain⟨J,L,hh⟩:=hw.holds E;have ho:o=0:=by
   rcases h3 with h3|h3
   ·exfalso;(have:n=0:=by omega);subst this;rw[Nat.zero_mul] at hl;exact h0 (List.length_eq_zero_iff.1 hl)
   ·exact h3
  subst ho;have h5:=L.take (n*size);rw[I] at h5;exact .inr ⟨r,0,J.take (n*size),rfl,.inr ⟨hr,λi y C=>by
   rw[List.getElem?_take] at C;split at C
   ·simpa using hh i y C
   ·cases C⟩,hs w hw _ h5⟩
def nm0 (s:List UInt8):Ex:= .mk 3 0 0 s [] [] 0 0 0
def nr0 (n:Int):Ex:= .mk 1 0 n [] [] [] 0 0 0
def tkI:List UInt8:= [73,110,116,101,103,101,114,32,114,97,110,103,101,32,49,32,46,46,32,49,48]
def tkD:List UInt8:= [84,32,114,97,110,103,101,32,49,32,46,46,32,78,41]
def tkE:List UInt8:= [84,32,40,49,41]
def tkP:List UInt8:= [65,32,58,32,105,110,32,111,117,116,32,84,59,32,66,44,32,67,32,58,32,84,32,58,61,32,49,41]
def tkQ:List UInt8:= [65,32,58,32,105,110,32,111,117,116,32,84]
def Fu8:Ind:=⟨nm0 [73,110,116,101,103,101,114],nr0 1,nr0 10,ex0⟩
def Fu9:Dis:=⟨nm0 [84],nr0 1,nm0 [78]⟩
def Dj4:List Par:= [⟨[[65]],3,nm0 [84],ex0,0⟩,⟨[[66],[67]],1,nm0 [84],nr0 1,0⟩]
def Wj:Par:=⟨[[65]],3,nm0 [84],ex0,0⟩
def Ex3:Ex:= .mk 5 0 0 [] [nm0 [80]] [] 0 0 0
theorem Ca2 (s:List UInt8) (hs:s.length<=1000):Cp 16777216 (nm0 s):=⟨by simp [nm0,Ej,He,El],by simp only[nm0,okE,okL,Mu];exact⟨by omega,trivial,trivial⟩⟩
theorem Fv0 (n:Int):Cp 16777216 (nr0 n):=⟨by simp [nr0,Ej,He,El],by simp [nr0,okE,okL,Mu]⟩
theorem Ex4:Cp 16777216 Ex3:=⟨by simp [Ex3,nm0,Ej,He,El],by simp [Ex3,nm0,okE,okL,Mu]⟩
theorem Ca3:Nk 16777216 Wj:=⟨⟨by decide,by simp [Wj]⟩,Ca2 _ (by decide),Cg⟩
theorem Dj5:Ei Nk 16777216 [Wj]:=⟨by decide,λx hx=>by rw[List.mem_singleton.1 hx];exact Ca3⟩
theorem Dy6:Ei Nk 16777216 Dj4:=⟨by decide,λx hx=>by
 rcases List.mem_cons.1 hx with rfl|hx
 ·exact Ca3
 ·rw[List.mem_singleton.1 hx];exact⟨⟨by decide,by simp⟩,Ca2 _ (by decide),Fv0 1⟩⟩
theorem Zw {α:Type} {r:Re α} {fine:α->Bool} {z x:α} {n:Int} (h:Ii r fine z=(x,n,0)): ∃k,r= .ok x k:=by
 cases r with
 |ok y k=>
  rw[Ii] at h;split at h
  ·cases h;exact⟨k,rfl⟩
  ·cases h
 |fail k=>cases h
 |long=>cases h
theorem Dj6 (hG:GX G) (H:Ab):Ad Tryz.prog G 19 [] H (Am (.bool true) H):=by
 have V:=λK=>Vx hG K [40,82,101,100,44,32,71,114,101,101,110,41,59] 5 1 [40,82,101,100,44,32,71,114,101,101,110,41,10] (by kernel_rfl);have W:=λK=>Vx hG K [108,105,109,105,116,101,100,32,112,114,105,118,97,116,101,59] 2 7 [108,105,109,105,116,101,100,32,112,114,105,118,97,116,101,10] (by kernel_rfl);have X:=λK=>Vx hG K [110,117,108,108,32,114,101,99,111,114,100] 2 5 [110,117,108,108,32,114,101,99,111,114,100,10] (by kernel_rfl);have Y:=λK=>Vx hG K [114,101,99,111,114,100,32,65,32,58,32,84,59,32,99,97,115,101,32,68,32,105,115,32,119,104,101,110,32,49,32,61,62,32,110,117,108,108,59,32,101,110,100,32,99,97,115,101,59,32,101,110,100,32,114,101,99,111,114,100,59] 18 5 [114,101,99,111,114,100,10,32,32,65,32,58,32,84,59,10,32,32,99,97,115,101,32,68,32,105,115,10,32,32,32,32,119,104,101,110,32,49,32,61,62,10,32,32,32,32,32,32,110,117,108,108,59,10,32,32,101,110,100,32,99,97,115,101,59,10,101,110,100,32,114,101,99,111,114,100,10] (by kernel_rfl);have M:=Ay2 (l:=(Cc tkI).1) (by kernel_rfl);have O:=Ay2 (l:=(Cc tkD).1) (by kernel_rfl);have xE:=Ay2 (l:=(Cc tkE).1) (by kernel_rfl);have S:=Ay2 (l:=(Cc tkP).1) (by kernel_rfl);have Z:=λK=>Mo G K tkI (by decide);have tD:=λK=>Mo G K tkD (by decide);have tE:=λK=>Mo G K tkE (by decide);have tP:=λK=>Mo G K tkP (by decide);have U:=λK=>Mo G K tkQ (by decide);have E:=λK=>Ag9 hG K M.1 M.2;have I:=λK=>Zs hG K O.1 O.2;have J:=λK=>Zs hG K xE.1 xE.2;have L:=λK=>Sp hG K S.1 S.2;have eI:Zj (Cc tkI).1=((Zj (Cc tkI).1).1,5,0):=by kernel_rfl
 have C:=λK=>Sj G K (Zj (Cc tkI).1).1 Fu8 (by obtain⟨k,hk⟩:=Zw (r:=Xm _ 0) (fine:=Co) (z:=Ak6) eI;exact Zp M.2 M.1 (Nat.zero_le _) _ k hk);rw[show Ki (Zj (Cc tkI).1).1 Fu8=true by kernel_rfl] at C;rw[eI] at E;generalize (Zj (Cc tkI).1).1=i at E C;have eD:Rt (Cc tkD).1=((Rt (Cc tkD).1).1,5,0):=by kernel_rfl
 have D:=λK=>Ze G K (Rt (Cc tkD).1).1 Fu9 (by obtain⟨k,hk⟩:=Zw (r:=Be3 _ 0) (fine:=Dt) (z:=Ak7) eD;exact Bm8 O.2 O.1 _ k hk);rw[show Nr (Rt (Cc tkD).1).1 Fu9=true by kernel_rfl] at D;rw[eD] at I;generalize (Rt (Cc tkD).1).1=d at I D;have eE:Rt (Cc tkE).1=((Rt (Cc tkE).1).1,4,40):=by kernel_rfl
 rw[eE] at J;generalize (Rt (Cc tkE).1).1=d2 at J;have eP:Zk (Cc tkP).1=((Zk (Cc tkP).1).1,13,0):=by kernel_rfl
 have sP:=λK=>Aa8 G K (Zk (Cc tkP).1).1 Dj4 (by obtain⟨k,hk⟩:=Zw (r:=Bx6 _ 0) (fine:=Es) (z:= []) eP;exact Bz3 S.2 S.1 (Nat.zero_le _) _ k hk) Dy6;rw[show Ni Ml (Zk (Cc tkP).1).1 Dj4=true by kernel_rfl] at sP;rw[eP] at L;generalize (Zk (Cc tkP).1).1=pp at L sP;have wT:=λK=>Ld hG K [Wj] Dj5;have sQ:=λK=>Dq8 G K (Am0 [Wj]).1 (Cc tkQ).1 (by decide+kernel);rw[show Aa3 (Am0 [Wj]).1 (Cc tkQ).1=true by kernel_rfl] at sQ;rw[show(Am0 [Wj]).2=0 by kernel_rfl] at wT;generalize (Am0 [Wj]).1=mq at sQ wT;have m1:=λK=>Qe hG K (nm0 [80]) (Ca2 _ (by decide));rw[show Ga (nm0 [80])=true by kernel_rfl] at m1;have m2:=λK=>Qe hG K Ex3 Ex4;rw[show Ga Ex3=false by kernel_rfl] at m2;have m3:=λK=>Ug hG K [] Gc;rw[show Es []=true from rfl] at m3;rw[show Db Fu8=dEx (.mk 3 0 0 [73,110,116,101,103,101,114] [] [] 0 0 0)++(dEx (.mk 1 0 1 [] [] [] 0 0 0)++(dEx (.mk 1 0 10 [] [] [] 0 0 0)++dEx ex0)) from rfl,Vu] at C;rw[show Du Fu9=dEx (.mk 3 0 0 [84] [] [] 0 0 0)++(dEx (.mk 1 0 1 [] [] [] 0 0 0)++dEx (.mk 3 0 0 [78] [] [] 0 0 0)) from rfl] at D;simp only[Gf,tkI,tkD,tkE,tkP,tkQ] at*
 refine dci Tryz.func19 Tryz.call19 ?_
 repeat' first
  |(with_reducible refine Ad.monoR (V _) ?_)
  |(with_reducible refine Ad.monoR (W _) ?_)
  |(with_reducible refine Ad.monoR (X _) ?_)
  |(with_reducible refine Ad.monoR (Y _) ?_)
  |(with_reducible refine Ad.monoR (Z _) ?_)
  |(with_reducible refine Ad.monoR (tD _) ?_)
  |(with_reducible refine Ad.monoR (tE _) ?_)
  |(with_reducible refine Ad.monoR (tP _) ?_)
  |(with_reducible refine Ad.monoR (U _) ?_)
  |(with_reducible refine Ad.monoR (E _) ?_)
  |(with_reducible refine Ad.monoR (I _) ?_)
  |(with_reducible refine Ad.monoR (J _) ?_)
  |(with_reducible refine Ad.monoR (L _) ?_)
  |(with_reducible refine Ad.monoR (Oa G _ _) ?_)
  |(with_reducible refine Ad.monoR (Sr G _ _) ?_)
  |((with_reducible show Ad _ _ 37 _ _ _);refine Ad.nz2 ?_;simp only[jN,jP,nz2,List.map_append,Be9,Ul,nz];refine Ad.monoR (C _) ?_)
  |((with_reducible show Ad _ _ 33 _ _ _);refine Ad.nz2 ?_;simp only[jN,jP,nz2,List.map_append,Bf0,Ul,nz];refine Ad.monoR (D _) ?_)
  |with_reducible refine And.intro ?_ ?_
  |((with_reducible show Dd _ _ _ _ _);intro q hq;dsimp only at hq;(try simp only[Aq] at hq);(repeat (have y:=hq.1;have hq:=hq.2)))
  |simp(disch:=omega)only[go_sem, *,Di,Au,Xj,jH,jG,jA,jB,jE,jR,jL,jI]
 refine An (.take 0 (.take 1 (.take 2 (.take 3 (.take 4 (.take 5 (.take 6 (.take 7 (.go 8 [7] (.go 9 [7] (.go 10 [7] (.take 11 (.go 12 [] (.take 13 (.take 14 .done))))))))))))))) ?_
 repeat' first
  |(with_reducible refine Ad.monoR (V _) ?_)
  |(with_reducible refine Ad.monoR (W _) ?_)
  |(with_reducible refine Ad.monoR (X _) ?_)
  |(with_reducible refine Ad.monoR (Y _) ?_)
  |(with_reducible refine Ad.monoR (Z _) ?_)
  |(with_reducible refine Ad.monoR (tD _) ?_)
  |(with_reducible refine Ad.monoR (tE _) ?_)
  |(with_reducible refine Ad.monoR (tP _) ?_)
  |(with_reducible refine Ad.monoR (U _) ?_)
  |(with_reducible refine Ad.monoR (E _) ?_)
  |(with_reducible refine Ad.monoR (I _) ?_)
  |(with_reducible refine Ad.monoR (J _) ?_)
  |(with_reducible refine Ad.monoR (L _) ?_)
  |(with_reducible refine Ad.monoR (Oa G _ _) ?_)
  |(with_reducible refine Ad.monoR (Sr G _ _) ?_)
  |((with_reducible show Ad _ _ 37 _ _ _);refine Ad.nz2 ?_;simp only[jN,jP,nz2,List.map_append,Be9,Ul,nz];refine Ad.monoR (C _) ?_)
  |((with_reducible show Ad _ _ 33 _ _ _);refine Ad.nz2 ?_;simp only[jN,jP,nz2,List.map_append,Bf0,Ul,nz];refine Ad.monoR (D _) ?_)
  |with_reducible refine And.intro ?_ ?_
  |((with_reducible show Dd _ _ _ _ _);intro q hq;dsimp only at hq;(try simp only[Aq] at hq);(repeat (have y:=hq.1;have hq:=hq.2)))
  |simp(disch:=omega)only[go_sem, *,dE,Di,List.take_append,List.drop_append,Zr,Aj7,Ax5,jC,Af,Au,Bd,Af5,jO,jH,jG,jA,jB,jE,jJ,jR,jL]
 refine An (.take 0 (.take 1 (.take 2 (.take 3 (.take 4 (.take 5 (.take 6 (.take 7 (.take 8 (.take 9 (.take 10 (.go 11 [10] (.go 12 [10] (.go 13 [10] (.take 14 (.go 15 [] (.take 16 (.take 17 .done)))))))))))))))))) ?_
 repeat' first
  |(with_reducible refine Ad.monoR (V _) ?_)
  |(with_reducible refine Ad.monoR (W _) ?_)
  |(with_reducible refine Ad.monoR (X _) ?_)
  |(with_reducible refine Ad.monoR (Y _) ?_)
  |(with_reducible refine Ad.monoR (Z _) ?_)
  |(with_reducible refine Ad.monoR (tD _) ?_)
  |(with_reducible refine Ad.monoR (tE _) ?_)
  |(with_reducible refine Ad.monoR (tP _) ?_)
  |(with_reducible refine Ad.monoR (U _) ?_)
  |(with_reducible refine Ad.monoR (E _) ?_)
  |(with_reducible refine Ad.monoR (I _) ?_)
  |(with_reducible refine Ad.monoR (J _) ?_)
  |(with_reducible refine Ad.monoR (L _) ?_)
  |(with_reducible refine Ad.monoR (Oa G _ _) ?_)
  |(with_reducible refine Ad.monoR (Sr G _ _) ?_)
  |((with_reducible show Ad _ _ 37 _ _ _);refine Ad.nz2 ?_;simp only[jN,jP,nz2,List.map_append,Be9,Ul,nz];refine Ad.monoR (C _) ?_)
  |((with_reducible show Ad _ _ 33 _ _ _);refine Ad.nz2 ?_;simp only[jN,jP,nz2,List.map_append,Bf0,Ul];refine Ad.monoR (D _) ?_)
  |with_reducible refine And.intro ?_ ?_
  |((with_reducible show Dd _ _ _ _ _);intro q hq;dsimp only at hq;(try simp only[Aq] at hq);(repeat (have y:=hq.1;have hq:=hq.2)))
  |simp(disch:=omega)only[go_sem, *,dE,List.take_append,List.drop_append,Zr,Aj7,Ax6,jC,Af,Bd,jO,jH,jG,jA,jB,jE,jJ,jR,jL]
 intro r6 hq
 (try simp only[Aq] at hq)
 (repeat (have y:=hq.1;have hq:=hq.2));have aa:=hq;simp(disch:=omega)only[go_sem,jH,jG];refine Ad.monoR (Oa G _ _) ?_;simp(disch:=omega)only[go_sem,Af,jH,jG,jA,jB,jE,jM,jJ,jR,jL,jI,dE];intro r7 hq;have ab:=hq
 (try simp only[Aq] at hq)
 (repeat (have y:=hq.1;have hq:=hq.2));have ag:=hq;simp(disch:=omega)only[go_sem,jH,jG];refine Ad.monoR (Oa G _ _) ?_;simp(disch:=omega)only[go_sem,jH,jG,dE];refine Ad.monoR (Sr G _ _) ?_;simp(disch:=omega)only[go_sem,List.take_append,List.drop_append,Zr,Aj7,jC,Af,jO,jH,jG,jA,jB,jE,jM,jJ,jR,jI,dE];intro r8 hq;have ac:=hq
 (try simp only[Aq] at hq)
 (repeat (have y:=hq.1;have hq:=hq.2));have ad:=hq;simp(disch:=omega)only[go_sem,jH,jG];have ah:r7≠r8:=Ac ac (Aa _ _ _);have ae:r6≠r8:=Ac ac (Ae (Aa _ _ _) (Ac ab (Aa _ _ _)));have af:r6≠r7:=Ac ab (Aa _ _ _);refine Ad.monoR (Km.lent (args':= [Gh pp,Gh Dj4]) (H:=H) (.cons (Ln.keep (by repeat (first|exact Sub.refl _|refine Sub.up ?_ (by assumption) _)) _) (.cons ?_ .nil)) (sP h0) rfl) ?_
 ·refine Ln.cells (e:=136) (by repeat (first|exact Sub.refl _|refine Sub.up ?_ (by assumption) _)) ad (Aa _ _ _) (by simp [Af,By]) ?_;rw[show Dj4.flatMap Gw=dW [[65]]:: .int .u8 3::(dEx (.mk 3 0 0 [84] [] [] 0 0 0)++(dEx ex0++(dI 0::dW [[66],[67]]:: .int .u8 1::(dEx (.mk 3 0 0 [84] [] [] 0 0 0)++(dEx (.mk 1 0 1 [] [] [] 0 0 0)++ [dI 0]))))) by simp [Dj4,Gw,nm0,nr0],Vu];refine Km.cons (Ln.block (e:=9) (by repeat (first|exact Sub.refl _|refine Sub.up ?_ (by assumption) _)) aa (Ae (Ae (Aa _ _ _) af) ae) rfl) ?_
  repeat' first
   |exact Km.nil
   |refine Km.cons (Ln.keep (by repeat (first|exact Sub.refl _|refine Sub.up ?_ (by assumption) _)) _) ?_
   |refine Km.cons (Ln.nil (by repeat (first|exact Sub.refl _|refine Sub.up ?_ (by assumption) _))) ?_
   |refine Km.append (Km.keep (by repeat (first|exact Sub.refl _|refine Sub.up ?_ (by assumption) _)) _) ?_
   |refine Km.cons (Ln.block (e:=9) (by repeat (first|exact Sub.refl _|refine Sub.up ?_ (by assumption) _)) ag (Ae (Aa _ _ _) ah) rfl) ?_
   |fail
 simp(disch:=omega)only[go_sem,jH,jG];refine Km.call (by repeat (first|exact Sub.refl _|refine Sub.up ?_ (by assumption) _)) (.cons (Ln.part (e:=136) (cs:= .oslice 1 r6 0 1 1:: .int .u8 3::(dEx (.mk 3 0 0 [84] [] [] 0 0 0)++ [.int .u8 0,.int .u8 0,.int .i64 0,.str [],.nilSlice,.nilSlice,.int .i64 0,.int .i64 0,.int .i64 0,.int .i64 0])) ad (Aa _ _ _) (by simp [List.take_append,Af,Zr]) (by simp [Af]) ?_) .nil) (Ad.monoR (wT H) ?_)
 ·rw[show [Wj].flatMap Gw=dW [[65]]:: .int .u8 3::(dEx (.mk 3 0 0 [84] [] [] 0 0 0)++(dEx ex0++ [dI 0])) by simp [Wj,Gw,nm0],Vu];refine Km.cons (Ln.block (e:=9) (by repeat (first|exact Sub.refl _|refine Sub.up ?_ (by assumption) _)) aa (Ae (Ae (Aa _ _ _) af) ae) rfl) ?_
  repeat' first
   |exact Km.nil
   |refine Km.cons (Ln.keep (by repeat (first|exact Sub.refl _|refine Sub.up ?_ (by assumption) _)) _) ?_
   |refine Km.cons (Ln.nil (by repeat (first|exact Sub.refl _|refine Sub.up ?_ (by assumption) _))) ?_
   |refine Km.append (Km.keep (by repeat (first|exact Sub.refl _|refine Sub.up ?_ (by assumption) _)) _) ?_
   |fail
 simp(disch:=omega)only[go_sem,jH,jG];refine Ad.monoR (Oa G _ _) ?_;simp(disch:=omega)only[go_sem,Af,jG,jA,jB,jR,dE];intro r9 hq
 (try simp only[Aq] at hq)
 (repeat (have y:=hq.1;have hq:=hq.2));have ai:=hq;simp(disch:=omega)only[go_sem,jG,jA,jB,jE,jM,jJ,jR,jI];intro ra hq;have aj:=hq
 (try simp only[Aq] at hq)
 (repeat (have y:=hq.1;have hq:=hq.2));have ak:r9≠ra:=Ac aj (Aa _ _ _)
 repeat' first
  |(with_reducible refine Ad.monoR (U _) ?_)
  |(with_reducible refine Ad.monoR (sQ _) ?_)
  |(with_reducible refine Ad.monoR (Oa G _ _) ?_)
  |((with_reducible show Ad _ _ 89 [.agg (dEx _)] _ _);refine Ad.monoR (m1 _) ?_)
  |((with_reducible show Ad _ _ 28 _ _ _);refine Ad.nz2 ?_;refine Ad.monoR (m3 _) ?_)
  |((with_reducible show Ad _ _ 89 [.agg (_::_)] _ _);refine Ad.monoR (Km.lent (args':= [.agg (dEx Ex3)]) (H:=H) (.cons (Ln.agg (Ln.ex (l:= [nm0 [80]]) (a:= []) (by repeat (first|exact Sub.refl _|refine Sub.up ?_ (by assumption) _)) (by rw[show dXs [nm0 [80]]= .vslice (dEx (nm0 [80])) 1 by rw[dXs,List.flatMap_singleton];rfl];exact Ln.block (e:=27) (by repeat (first|exact Sub.refl _|refine Sub.up ?_ (by assumption) _)) ai (Ae (Aa _ _ _) ak) (by rw[Af])) (Ln.as0 (by repeat (first|exact Sub.refl _|refine Sub.up ?_ (by assumption) _))))) .nil) (m2 h0) rfl) ?_)
  |simp(disch:=omega)only[go_sem, *,Di,List.all_cons,List.all_nil,jH,jG,jA,jB,jE,jM,jJ,jR,jL,List.take_nil,dE]
  |((with_reducible show Dj _ _ _);exact Dj.sub (by repeat (first|exact Sub.refl _|refine Sub.up ?_ (by assumption) _)) (.refl ⟨rfl,rfl⟩))
  |fail
end
section
variable {G:Nat->DVal}
theorem Ak2 (G:Nat->DVal) (H:Ab) (ls:List Lin) (hn:ls.length<=16000000) (hl:(Hw ls).length<=100000000):Ad Tryz.prog G 22 [Dy3 ls] H (Am (Be (Hw ls)) H):=by
 have W:=Ak Ua ls;refine dci Tryz.func22 Tryz.call22 ?_;simp(disch:=omega)only[go_sem,Dy3];obtain⟨I,C⟩: ∃I:Nat->(Nat->DVal)->Ab->Prop,∀j env heap,I j env heap↔(env 6=Dy3 ls/\env 7=dI ls.length/\env 8=dI j/\j<=ls.length/\Ik H 31 4 (Hw (ls.take j)).length ((Hw (ls.take j)).flatMap Cu) (env 3) heap):=⟨_,λ_ _ _=>Iff.rfl⟩;refine Ea9.run I (λj=>ls.length-j) 0 ((C _ _ _).2 ?_) ?_
 ·simp(disch:=omega)only[go_sem,Dy3];(repeat' apply And.intro)<;>(try first|rfl|assumption|omega);exact Ik.nil _ _ (Sub.refl H)
 ·intro j env heap hi;obtain⟨L,D,E,hj,hv⟩:=(C _ _ _).1 hi;by_cases M:j<ls.length
  ·(have J:(j:Int)<(ls.length:Int):=by omega);have O:=Bh Ua ls j M;(have y:Hw (ls.take (j+1))=Hw (ls.take j)++ls[j].l:=by rw[Qc M,Tb,Qi];simp [Hw]);have hle:(Hw (ls.take (j+1))).length<=(Hw ls).length:=by
    conv=>rhs;rw[<-List.take_append_drop (j+1) ls,Tb,jC]
    omega
   obtain⟨x,hx⟩: ∃x,x=ls[j]:=⟨_,rfl⟩;rw[<-hx] at O y;rw[y,jC] at hle;obtain⟨ts,hts⟩: ∃ts,ts=x.l:=⟨_,rfl⟩;have S:=Ak Az ts;have X:(ts.flatMap Cu).take (ts.length*4)=ts.flatMap Cu:=List.take_of_length_le (by omega);obtain⟨v,U⟩: ∃v,v=env 3:=⟨_,rfl⟩;rw[<-U] at hv;have Y:(ts.flatMap Cu).all (λd=>d.one)=true:=by
    rw[List.all_eq_true];intro d hd;obtain⟨t,_,hd⟩:=List.mem_flatMap.1 hd;exact List.all_eq_true.1 (Ix t) d hd
   rw[<-hts] at y hle;simp(disch:=omega)only[go_sem,L,D,E,J,Dy3,O,W,jD];intro q hq;have V:=Ik.new hv hq (some (.cells (Xg x) 154));simp(disch:=omega)only[go_sem,<-U,Xg,<-hts,Be,X,Y,S];rw[show Xg x= [dI x.depth,Be ts] by rw[Xg,hts]] at V;refine Ik.append (m:=ts.length) V S (by omega) λv2 H2 Z=> ?_;simp(disch:=omega)only[go_sem,E];refine⟨j+1,_,Rn.refl _,(C _ _ _).2 ?_,by omega⟩;simp(disch:=omega)only[go_sem,L,D];(repeat' apply And.intro)<;>(try first|rfl|assumption|omega);rw[y,jC,List.flatMap_append];exact Z
  ·(have:j=ls.length:=by omega);subst this;(have J: ¬(ls.length:Int)<(ls.length:Int):=by omega);rw[List.take_length] at hv;simp(disch:=omega)only[go_sem,D,E,J];exact Ik.fin hv ⟨rfl,rfl⟩
end
section
variable {n:Nat}
theorem Eh4 {e:Ex} (y:Int) (h:Cp n e):fT (Ap e y):=Cr7 (By1 e h.2)
theorem Ak3 {a b:Ex} (ha:Cp n a) (hb:Cp n b):fT (Dh a b):=Bm (Eh4 2 ha) (Av (by decide) (Eh4 2 hb))
theorem Ca4 {s:Ind} (h:Sa n s):fT (Ie s):=Bm (By1 _ h.1.2) (Iq (Iq Fb (Av (by decide) (Ak3 h.2.1 h.2.2.1))) (Av (by decide) (Bm (By1 _ h.2.2.2.2) (Av (by decide) Fb))))
theorem Fv1 {d:Dis} (h:Ud n d):fT (Nj d):=Iq (By1 _ h.1.2) (Iq (Ak3 h.2.1 h.2.2) (Bm (By1 _ h.1.2) (Av (by decide) (Ak3 h.2.1 h.2.2))))
theorem Bn2 {β:Type} {s:List UInt8} (hs:(Ag s).text.length<=9223372036854775807) (g:β->List Tok) (l:List β) (h: ∀x∈l,fT (g x)):fT (Dw s (l.map g)):=By0 hs λt ht=>by
 obtain⟨x,hx,rfl⟩:=List.mem_map.1 ht;exact h x hx
theorem Eh5 {β:Type} (g:β->List Tok) (l:List β) (h: ∀x∈l,fT (g x)):fT (l.flatMap g):=λt ht=>by
 obtain⟨x,hx,y⟩:=List.mem_flatMap.1 ht;exact h x hx t y
theorem Ca5 {l:List (List UInt8)} (h:Aa4 n l):fT (Cq l):=Bn2 (by decide) (λs=> [Eg s]) l λs hs=>Av (h.2 s hs) Fb
theorem Fv2 {e:Ex} (h:Cp n e):fT (Ph e):=Iq Fb (Av (by decide) (By1 e h.2))
theorem Gk7 (m:Int):fT (Xi m):=Iq (Av (by decide) Fb) (Iq (Av (by decide) (Av (by decide) Fb)) Fb)
theorem Ha3 {p:Par} (h:Nk n p):fT (Pj p):=Bm (Ca5 h.1) (Av (by decide) (Bm (Gk7 _) (Bm (By1 _ h.2.1.2) (Fv2 h.2.2))))
theorem Gk8 {l:List Par} (h:Ei Nk n l):fT (Lx l):=Bn2 (by decide) _ l λp hp=>Ha3 (h.2 p hp)
theorem Ha4 {c:Cmp} (h:Ka n c):fT (Uc c):=Bm (Ca5 h.1) (Av (by decide) (Bm (Ca4 h.2.1) (Bm (Fv2 h.2.2) (Av (by decide) Fb))))
theorem Cu2 {l:List Cmp} (h:Ei Ka n l):fT (Fs l):=Iq (Av (by decide) (Av (by decide) Fb)) (Eh5 _ _ λc hc=>Ha4 (h.2 c hc))
theorem Ha5 {a:Arm} (h:Aa5 n a):fT (So a):=Av (by decide) (Bm (Bn2 (by decide) Da _ λc hc=>Hg0 c (Au0 h.1.2 c hc)) (Av (by decide) (Cu2 h.2)))
theorem Gk9 {v:List UInt8} {l:List Arm} (hv:v.length<=9223372036854775807) (h:Ei Aa5 n l):fT (Ow v l):=Iq Fb (Av (by decide) (Av hv (Av (by decide) (Bm (Eh5 _ _ λa ha=>Ha5 (h.2 a ha)) (Av (by decide) (Av (by decide) (Av (by decide) Fb)))))))
theorem Ha6 {t:Typ} (h:Lb n t):fT (Bl0 t):=Av (by decide) (Bm (Iq Fb (Cu2 h.2.2.2.2.2.1)) (Bm (Gk9 h.2.2.2.2.2.2.1.1 h.2.2.2.2.2.2.2) (Av (by decide) (Av (by decide) Fb))))
theorem Ha7 {t:Typ} (h:Lb n t):fT (Mn t):=
 Iq (Av (by decide) (Bm (Ca5 h.1) (Av (by decide) Fb))) (Iq (Av (by decide) (Ak3 h.2.1 h.2.2.1)) (Iq (Av (by decide) (Ca4 h.2.2.2.1))
  (Iq (Av (by decide) (Av (by decide) (Bm (Fv1 h.2.2.2.2.1) (Av (by decide) (Av (by decide) (Ca4 h.2.2.2.1)))))) (Iq (Av (by decide) (Ca4 h.2.2.2.1))
  (Iq (Bm (Iq (Av (by decide) Fb) Fb) (Av (by decide) Fb)) (Iq (Av (by decide) (Av (by decide) Fb)) (Ha6 h)))))))
end
section
variable {G:Nat->DVal}
theorem Fv3 {t:Typ} (h:Dn t=true):(Ig t 0).length<=(Mn t).length:=by
 have key: ∀ls:List Lin,(∀x∈ls,x.l≠ [])->ls.length<=(Hw ls).length:=λls hl=>by
  induction ls with
  |nil=>simp
  |cons x ls ih=>
   have h1:=ih λy C=>hl y (List.mem_cons_of_mem _ C);have h2:=List.length_pos_iff.2 (hl x (by simp));rw[Qi,jC,jA];omega
 rw[<-By6 h 0];refine key _ λx hx=> ?_;have hc: ∀(cs:List Cmp) (d:Int),∀y∈Ly cs d,y.l≠ []:=λcs d y C=>by
  rw[Ly] at C;split at C
  ·rw[List.mem_singleton.1 C];simp
  ·obtain⟨c,_,rfl⟩:=List.mem_map.1 C;simp [Uc]
 rw[Ig] at hx
 repeat' split at hx
 all_goals first|(rw[List.mem_singleton.1 hx];simp;done)|skip
 rw[Bx0] at hx;simp only[List.mem_cons,List.mem_append,List.not_mem_nil,or_false] at hx;rcases hx with rfl|hx|hx|rfl
 ·simp
 ·split at hx
  ·cases hx
  ·exact hc _ _ _ hx
 ·split at hx
  ·cases hx
  ·simp only[List.mem_cons,List.mem_append,List.not_mem_nil,or_false,List.mem_flatMap] at hx;rcases hx with rfl|⟨a,_,ha⟩|rfl
   ·simp
   ·rw[Af4] at ha;rcases List.mem_cons.1 ha with rfl|ha
    ·simp
    ·exact hc _ _ _ ha
   ·simp
 ·simp
end
section
variable (x:Fms)
theorem Fv4:((Zd x).drop 9).take 36=Db x.s:=by rw[Zd,Dv _ _ 0,jJ,List.take_left' (Au _)]
theorem Cu3:((Zd x).drop 45).take 27=Du x.d:=by
 rw[Zd,Dv _ _ 36,List.drop_left' (Au _),List.take_left' (Bd _)]
theorem Ca6 (k:Nat):(Zd x)[72+k]? =(Gh x.p::Ib x.a::Ci x.c::Cf x.t)[k]? :=by
 have h1:Zd x=(dEx x.e++(Db x.s++Du x.d))++(Gh x.p::Ib x.a::Ci x.c::Cf x.t):=by simp [Zd]
 rw[h1,List.getElem?_append_right (by simp [Af,Au,Bd])];congr 1;simp [Af,Au,Bd]
theorem Ca7:(Zd x)[72]? =some (Gh x.p):=Ca6 x 0
theorem Bf2:(Zd x)[73]? =some (Ib x.a):=Ca6 x 1
theorem Ca8:(Zd x)[74]? =some (Ci x.c):=Ca6 x 2
theorem Cu4:((Zd x).drop 75).take 87=Cf x.t:=by
 have h1:Zd x=(dEx x.e++(Db x.s++(Du x.d++ [Gh x.p,Ib x.a,Ci x.c])))++Cf x.t:=by simp [Zd]
 rw[h1,List.drop_left' (by simp [Af,Au,Bd]),List.take_of_length_le (by rw[Fq];omega)]
end
section
theorem Gl0 {n:Nat} {l:List Asp} (h:Ei Ue n l):fT (Mq l):=Bn2 (by decide) _ l λa ha=>Av (h.2 a ha).1 (Av (by decide) (By1 _ (h.2 a ha).2.2))
theorem Dy7 {l:List Par} (hm:Es l=true):(Lx l).length<=90000:=by
 rw[Es,jF,decide_eq_true_eq] at hm;have h8:=Go5 hm.1 hm.2;have:=Ca1 (List.all_eq_true.1 hm.1) l.length (Nat.le_refl _);rw[List.take_length] at this;omega
theorem Dy8 {l:List Asp} (hm:Gv l=true):(Mq l).length<=90000:=by
 rw[Gv,jF,decide_eq_true_eq] at hm;have:=Bz9 (List.all_eq_true.1 hm.1) l.length (Nat.le_refl _);rw[List.take_length] at this;omega
theorem Ca9: ∀ {l:List Cmp},l.all En=true->(l.flatMap Uc).length<=30000*Cr l/\l.length<=Cr l
 | [],_=>⟨Nat.zero_le _,Nat.zero_le _⟩
 |c::l,h=>by
  rw[List.all_cons,jF] at h;obtain⟨h1,h2⟩:=Ca9 h.2;have h3:=Gk4 h.1;have h4:=h.1;simp only[En,Ey,jF,decide_eq_true_eq] at h4;have h5:Cr (c::l)=c.names.length+Cr l:=by simp [Cr]
  rw[h5,List.flatMap_cons,jC,jA];omega
theorem Cb0 {l:List Cmp} (h:l.all En=true):(Fs l).length<=2+30000*Cr l:=by
 have:=(Ca9 h).1;rw[Fs];split
 ·simp
 ·omega
theorem Dy9 {l:List Cmp} (hm:Gn l=true):(Fs l).length<=1000000:=by
 rw[Gn,jF,decide_eq_true_eq] at hm;have:=Cb0 hm.1;omega
theorem Ex5 {l:List Cmp} (hm:Gn l=true) (d:Int):(Ly l d).length<=100:=by
 rw[Gn,jF,decide_eq_true_eq] at hm;have:=(Ca9 hm.1).2;rw[Ly];split
 ·simp
 ·rw[jK];omega
theorem Dj7: ∀ {l:List Arm},l.all Eu=true->(l.flatMap So).length<=200010*l.length+30000*Lu l
 | [],_=>Nat.zero_le _
 |a::l,h=>by
  rw[List.all_cons,jF] at h;have h1:=Dj7 h.2;have h2:=h.1;rw[Eu,jF] at h2;have h3:=Cb0 h2.1;have h4:=Bd6 h2.2;have h5:Lu (a::l)=Cr a.comps+Lu l:=by simp [Lu]
  have h6:(So a).length=1+(Dw Gp (a.c.map Da)).length+1+(Fs a.comps).length:=by
   rw[show So a=Ag Pg::(Dw Gp (a.c.map Da)++(Ag Bp::Fs a.comps)) from rfl];simp only[jC,jA];omega
  rw[h5,List.flatMap_cons,jC,jA];omega
theorem Ex6 {t:Typ} (h:Gs t=true):(Bl0 t).length<=5000000:=by
 simp only[Gs,jF,decide_eq_true_eq] at h;obtain⟨⟨⟨⟨⟨y,-⟩,D⟩,-⟩,C⟩,E⟩:=h;have h1:=Cb0 y;have h2:=Dj7 C;have h3:(if t.comps.isEmpty then [] else Fs t.comps).length<=2+30000*Cr t.comps:=by
  split
  ·exact Nat.zero_le _
  ·exact h1
 have h4:(Ow t.var t.arms).length<=6+(t.arms.flatMap So).length:=by
  rw[Ow];split
  ·simp
  ·simp only[jC,jA,jB];omega
 have h5:(Bl0 t).length=1+(if t.comps.isEmpty then [] else Fs t.comps).length+(Ow t.var t.arms).length+2:=by
  rw[show Bl0 t=Ag Cs::((if t.comps.isEmpty then [] else Fs t.comps)++(Ow t.var t.arms++ [Ag Ri,Ag Cs])) from rfl];simp only[jC,jA,jB];omega
 omega
theorem Ex7 {t:Typ} (h:Dn t=true):(Mn t).length<=5000000:=by
 obtain⟨k1,y,D,E,C,I,J⟩:=Eh3 h;rw[Mn];split
 ·have:=Td (k1 ‹_›);simp;omega
 split
 ·have:=Zt (y ‹_›).1 (y ‹_›).2;simp;omega
 split
 ·have:=Qp (D ‹_›);simp;omega
 split
 ·have:=Qp (C ‹_›).1;have:=Bn1 (C ‹_›).2;simp;omega
 split
 ·have:=Qp (E ‹_›);simp;omega
 split
 ·split<;>simp
 split
 ·simp
 ·exact Ex6 (I (by omega))
end
theorem Ck0 (dst:Option Nat) (e:TypeId) (l:List Par) (K:DK) (s:DS):dLen dst (some (.slice e)) (Gh l) K s=Br dst (dI l.length) K s:=rfl
theorem Ck1 (dst:Option Nat) (e:TypeId) (l:List Asp) (K:DK) (s:DS):dLen dst (some (.slice e)) (Ib l) K s=Br dst (dI l.length) K s:=rfl
section
variable {G:Nat->DVal}
theorem Cd7 (hG:GX G) (H:Ab) (x:Fms) (q:Ef5 16777216 x):Ad Tryz.prog G 5 [.agg (Zd x)] H (Am (.bool true) H):=by
 have aw:=λY=>Dj6 hG Y;have ab:Bv []:=Ag3 Fb;refine dci Tryz.func5 Tryz.call5 ?_;simp(disch:=omega)only[go_sem,DVal.cells];intro r1 ae;obtain⟨K,hK⟩: ∃K',K'=upd H r1 (some (.cells (Zd x) 87)):=⟨_,rfl⟩;rw[<-hK];have ac:=hK.symm▸Aa _ _ _;have sK:=hK.symm▸(Sub.refl _).new ae _;simp(disch:=omega)only[go_sem,ac,Pk,Fv4];clear hK ae;have J:=Sub.refl K;apply Ev3 (q:=λ(T:DK) (V:DExit->DS->Prop)=>Hid (∀E X,Sub K X->E 1= .optr r1 0->Ad Tryz.prog G 31 [.agg (Du x.d)] X (Xy (some 53) T V E)))
 case a=>
  intro tail;have W:=J _ _ ac;cases hm:Co x.s with
  |false=>
   have C:=λY=>Vw hG Y x.s q.2.1;simp only[Dj1,hm,↓reduceIte,Bool.false_eq_true] at C;have D:=λY=>Ag9 hG Y (l:= []) (by simp) ab;have I:=λY=>Sk G Y x.s q.2.1;rw[hm] at I;simp only[Be,Gf,List.flatMap_nil,jB] at C D
   repeat' first
    |(apply tail.h;exact J.trans (by repeat (first|assumption|exact Sub.refl _|refine Sub.new ?_ (by assumption) _));first|rfl|simp(disch:=omega)only[go_sem, *])
    |(with_reducible refine Ad.monoR (C _) ?_)
    |(with_reducible refine Ad.monoR (M _) ?_)
    |(with_reducible refine Ad.monoR (D _) ?_)
    |(with_reducible refine Ad.monoR (I _) ?_)
    |(with_reducible refine Ad.monoR (O _) ?_)
    |(with_reducible refine Ad.monoR (aw _) ?_)
    |((with_reducible show Dd _ _ _ _ _);intro q hq;dsimp only at hq;have L:=Ac hq W;have aa:=L.symm)
    |simp(disch:=omega)only[go_sem, *,Pk,Fv4,Cu3,jB,Au,jH,jL]
    |((with_reducible show Dj _ _ _);exact Dj.sub (sK.trans (J.trans (by repeat (first|assumption|exact Sub.refl _|refine Sub.new ?_ (by assumption) _)))) (.refl ⟨rfl,rfl⟩))
    |fail
  |true=>
   have C:=λY=>Vw hG Y x.s q.2.1;have S:=Ag3 (Ca4 q.2.1);(have U:(Ie x.s).length<=8000000:=by have:=Qp hm;omega);obtain⟨y,hb,hs,-,-⟩:=Dh1 hm;(have Z:Sa 16777216 y:=by obtain⟨k,hk⟩:=Zw hb;exact Zp S U (Nat.zero_le _) y k hk);simp only[Dj1,hm,↓reduceIte] at C;have D:=λY=>Ag9 hG Y (l:=Ie x.s) U S;rw[hb] at D;have O:=λY=>Sj G Y y x.s Z;rw[hs] at O;have I:=λY=>Sk G Y x.s q.2.1;rw[hm] at I;simp only[Be,Gf] at C D;clear hb hs Z S U
   repeat' first
    |(apply tail.h;exact J.trans (by repeat (first|assumption|exact Sub.refl _|refine Sub.new ?_ (by assumption) _));first|rfl|simp(disch:=omega)only[go_sem, *])
    |(with_reducible refine Ad.monoR (C _) ?_)
    |(with_reducible refine Ad.monoR (M _) ?_)
    |(with_reducible refine Ad.monoR (D _) ?_)
    |(with_reducible refine Ad.monoR (I _) ?_)
    |(with_reducible refine Ad.monoR (O _) ?_)
    |(with_reducible refine Ad.monoR (aw _) ?_)
    |((with_reducible show Dd _ _ _ _ _);intro q hq;dsimp only at hq;have L:=Ac hq W;have aa:=L.symm)
    |simp(disch:=omega)only[go_sem, *,Pk,Fv4,Cu3,jB,Au,Aj8,jH,jL]
    |((with_reducible show Dj _ _ _);exact Dj.sub (sK.trans (J.trans (by repeat (first|assumption|exact Sub.refl _|refine Sub.new ?_ (by assumption) _)))) (.refl ⟨rfl,rfl⟩))
    |fail
 case b=>
  refine⟨λE X J z1=> ?_⟩;apply Ev3 (q:=λ(T:DK) (V:DExit->DS->Prop)=>Hid (∀E X,Sub K X->E 1= .optr r1 0->Ad Tryz.prog G 27 [Gh x.p] X (Xy (some 89) T V E)))
  case a=>
   intro tail;have W:=J _ _ ac;cases hm:Dt x.d with
   |false=>
    have C:=λY=>Xr hG Y x.d q.2.2.1;simp only[Dj2,hm,↓reduceIte,Bool.false_eq_true] at C;have D:=λY=>Zs hG Y (l:= []) (by simp) ab;have I:=λY=>Zf G Y x.d q.2.2.1;rw[hm] at I;simp only[Be,Gf,List.flatMap_nil,jB] at C D
    repeat' first
     |(apply tail.h;exact J.trans (by repeat (first|assumption|exact Sub.refl _|refine Sub.new ?_ (by assumption) _));first|rfl|simp(disch:=omega)only[go_sem, *])
     |(with_reducible refine Ad.monoR (C _) ?_)
     |(with_reducible refine Ad.monoR (M _) ?_)
     |(with_reducible refine Ad.monoR (D _) ?_)
     |(with_reducible refine Ad.monoR (I _) ?_)
     |(with_reducible refine Ad.monoR (O _) ?_)
     |(with_reducible refine Ad.monoR (aw _) ?_)
     |((with_reducible show Dd _ _ _ _ _);intro q hq;dsimp only at hq;have L:=Ac hq W;have aa:=L.symm)
     |simp(disch:=omega)only[go_sem, *,Pk,Cu3,Ca7,jB,Bd,jH,jL]
     |((with_reducible show Dj _ _ _);exact Dj.sub (sK.trans (J.trans (by repeat (first|assumption|exact Sub.refl _|refine Sub.new ?_ (by assumption) _)))) (.refl ⟨rfl,rfl⟩))
     |fail
   |true=>
    have C:=λY=>Xr hG Y x.d q.2.2.1;have S:=Ag3 (Fv1 q.2.2.1);(have U:(Nj x.d).length<=8000000:=by have:=Bn1 hm;omega);obtain⟨y,hb,hs,-,-⟩:=Dh2 hm;(have Z:Ud 16777216 y:=by obtain⟨k,hk⟩:=Zw hb;exact Bm8 S U y k hk);simp only[Dj2,hm,↓reduceIte] at C;have D:=λY=>Zs hG Y (l:=Nj x.d) U S;rw[hb] at D;have O:=λY=>Ze G Y y x.d Z;rw[hs] at O;have I:=λY=>Zf G Y x.d q.2.2.1;rw[hm] at I;simp only[Be,Gf] at C D;clear hb hs Z S U
    repeat' first
     |(apply tail.h;exact J.trans (by repeat (first|assumption|exact Sub.refl _|refine Sub.new ?_ (by assumption) _));first|rfl|simp(disch:=omega)only[go_sem, *])
     |(with_reducible refine Ad.monoR (C _) ?_)
     |(with_reducible refine Ad.monoR (M _) ?_)
     |(with_reducible refine Ad.monoR (D _) ?_)
     |(with_reducible refine Ad.monoR (I _) ?_)
     |(with_reducible refine Ad.monoR (O _) ?_)
     |(with_reducible refine Ad.monoR (aw _) ?_)
     |((with_reducible show Dd _ _ _ _ _);intro q hq;dsimp only at hq;have L:=Ac hq W;have aa:=L.symm)
     |simp(disch:=omega)only[go_sem, *,Pk,Cu3,Ca7,jB,Bd,Aj9,jH,jL]
     |((with_reducible show Dj _ _ _);exact Dj.sub (sK.trans (J.trans (by repeat (first|assumption|exact Sub.refl _|refine Sub.new ?_ (by assumption) _)))) (.refl ⟨rfl,rfl⟩))
     |fail
  case b=>
   refine⟨λE X J z1=> ?_⟩;apply Ev3 (q:=λ(T:DK) (V:DExit->DS->Prop)=>Hid (∀E X,Sub K X->E 1= .optr r1 0->Ad Tryz.prog G 40 [Ib x.a] X (Xy (some 131) T V E)))
   case a=>
    intro tail;have W:=J _ _ ac;cases hm:Es x.p with
    |false=>
     have C:=λY=>Ld hG Y x.p q.2.2.2.1;simp only[Am0,hm,↓reduceIte,Bool.false_eq_true] at C;have D:=λY=>Sp hG Y (l:= []) (by simp) ab;have I:=λY=>Rr G Y x.p q.2.2.2.1;rw[hm] at I;simp only[Be,Gf,List.flatMap_nil,jB] at C D
     repeat' first
      |(apply tail.h;exact J.trans (by repeat (first|assumption|exact Sub.refl _|refine Sub.new ?_ (by assumption) _));first|rfl|simp(disch:=omega)only[go_sem, *])
      |(with_reducible refine Ad.monoR (C _) ?_)
      |(with_reducible refine Ad.monoR (M _) ?_)
      |(with_reducible refine Ad.monoR (D _) ?_)
      |(with_reducible refine Ad.monoR (I _) ?_)
      |(with_reducible refine Ad.monoR (O _) ?_)
      |(with_reducible refine Ad.monoR (aw _) ?_)
      |((with_reducible show Dd _ _ _ _ _);intro q hq;dsimp only at hq;have L:=Ac hq W;have aa:=L.symm)
      |simp(disch:=omega)only[go_sem, *,Ca7,Bf2,jH]
      |((with_reducible show Dj _ _ _);exact Dj.sub (sK.trans (J.trans (by repeat (first|assumption|exact Sub.refl _|refine Sub.new ?_ (by assumption) _)))) (.refl ⟨rfl,rfl⟩))
      |fail
    |true=>
     by_cases h0:x.p= []
     ·have C:=λY=>Ld hG Y x.p q.2.2.2.1;rw[h0,show Am0 []=([],0) from rfl] at C;have D:=λY=>Sp hG Y (l:= []) (by simp) ab;have I:=λY=>Rr G Y x.p q.2.2.2.1;rw[hm,h0] at I;simp only[Be,Gf,List.flatMap_nil,jB] at C D
      skip
      repeat' first
       |(apply tail.h;exact J.trans (by repeat (first|assumption|exact Sub.refl _|refine Sub.new ?_ (by assumption) _));first|rfl|simp(disch:=omega)only[go_sem, *])
       |(with_reducible refine Ad.monoR (C _) ?_)
       |(with_reducible refine Ad.monoR (M _) ?_)
       |(with_reducible refine Ad.monoR (D _) ?_)
       |(with_reducible refine Ad.monoR (I _) ?_)
       |(with_reducible refine Ad.monoR (O _) ?_)
       |(with_reducible refine Ad.monoR (aw _) ?_)
       |((with_reducible show Dd _ _ _ _ _);intro q hq;dsimp only at hq;have L:=Ac hq W;have aa:=L.symm)
       |simp(disch:=omega)only[go_sem, *,Ca7,Bf2,Ck0,jB,jH]
       |((with_reducible show Dj _ _ _);exact Dj.sub (sK.trans (J.trans (by repeat (first|assumption|exact Sub.refl _|refine Sub.new ?_ (by assumption) _)))) (.refl ⟨rfl,rfl⟩))
       |fail
     ·(have af:0<(x.p.length:Int):=by have:=List.length_pos_iff.2 h0;omega);have C:=λY=>Ld hG Y x.p q.2.2.2.1;have S:=Ag3 (Gk8 q.2.2.2.1);(have U:(Lx x.p).length<=8000000:=by have:=Dy7 hm;omega);obtain⟨y,hb,hs,-,-⟩:=Cs9 hm h0;(have Z:Ei Nk 16777216 y:=by obtain⟨k,hk⟩:=Zw hb;exact Bz3 S U (Nat.zero_le _) y k hk);simp only[Am0,hm,↓reduceIte] at C;have D:=λY=>Sp hG Y (l:=Lx x.p) U S;rw[hb] at D;have O:=λY=>Aa8 G Y y x.p Z q.2.2.2.1;rw[hs] at O;have I:=λY=>Rr G Y x.p q.2.2.2.1;rw[hm] at I;simp only[Be,Gf] at C D;clear hb hs Z S U
      repeat' first
       |(apply tail.h;exact J.trans (by repeat (first|assumption|exact Sub.refl _|refine Sub.new ?_ (by assumption) _));first|rfl|simp(disch:=omega)only[go_sem, *])
       |(with_reducible refine Ad.monoR (C _) ?_)
       |(with_reducible refine Ad.monoR (M _) ?_)
       |(with_reducible refine Ad.monoR (D _) ?_)
       |(with_reducible refine Ad.monoR (I _) ?_)
       |(with_reducible refine Ad.monoR (O _) ?_)
       |(with_reducible refine Ad.monoR (aw _) ?_)
       |((with_reducible show Dd _ _ _ _ _);intro q hq;dsimp only at hq;have L:=Ac hq W;have aa:=L.symm)
       |simp(disch:=omega)only[go_sem, *,Ca7,Bf2,Ck0,jH]
       |((with_reducible show Dj _ _ _);exact Dj.sub (sK.trans (J.trans (by repeat (first|assumption|exact Sub.refl _|refine Sub.new ?_ (by assumption) _)))) (.refl ⟨rfl,rfl⟩))
       |fail
   case b=>
    refine⟨λE X J z1=> ?_⟩;apply Ev3 (q:=λ(T:DK) (V:DExit->DS->Prop)=>Hid (∀E X,Sub K X->E 1= .optr r1 0->Ad Tryz.prog G 44 [Ci x.c,dI 3] X (Xy (some 173) T V E)))
    case a=>
     intro tail;have W:=J _ _ ac;cases hm:Gv x.a with
     |false=>
      have C:=λY=>Nz hG Y x.a q.2.2.2.2.1;simp only[Cj8,hm,↓reduceIte,Bool.false_eq_true] at C;have D:=λY=>Wi hG Y (l:= []) (by simp) ab;have I:=λY=>Qg G Y x.a q.2.2.2.2.1;rw[hm] at I;simp only[Be,Gf,List.flatMap_nil,jB] at C D
      repeat' first
       |(apply tail.h;exact J.trans (by repeat (first|assumption|exact Sub.refl _|refine Sub.new ?_ (by assumption) _));first|rfl|simp(disch:=omega)only[go_sem, *])
       |(with_reducible refine Ad.monoR (C _) ?_)
       |(with_reducible refine Ad.monoR (M _) ?_)
       |(with_reducible refine Ad.monoR (D _) ?_)
       |(with_reducible refine Ad.monoR (I _) ?_)
       |(with_reducible refine Ad.monoR (O _) ?_)
       |(with_reducible refine Ad.monoR (aw _) ?_)
       |((with_reducible show Dd _ _ _ _ _);intro q hq;dsimp only at hq;have L:=Ac hq W;have aa:=L.symm)
       |simp(disch:=omega)only[go_sem, *,Bf2,Ca8,jH]
       |((with_reducible show Dj _ _ _);exact Dj.sub (sK.trans (J.trans (by repeat (first|assumption|exact Sub.refl _|refine Sub.new ?_ (by assumption) _)))) (.refl ⟨rfl,rfl⟩))
       |fail
     |true=>
      by_cases h0:x.a= []
      ·have C:=λY=>Nz hG Y x.a q.2.2.2.2.1;rw[h0,show Cj8 []=([],0) from rfl] at C;have D:=λY=>Wi hG Y (l:= []) (by simp) ab;have I:=λY=>Qg G Y x.a q.2.2.2.2.1;rw[hm,h0] at I;simp only[Be,Gf,List.flatMap_nil,jB] at C D
       skip
       repeat' first
        |(apply tail.h;exact J.trans (by repeat (first|assumption|exact Sub.refl _|refine Sub.new ?_ (by assumption) _));first|rfl|simp(disch:=omega)only[go_sem, *])
        |(with_reducible refine Ad.monoR (C _) ?_)
        |(with_reducible refine Ad.monoR (M _) ?_)
        |(with_reducible refine Ad.monoR (D _) ?_)
        |(with_reducible refine Ad.monoR (I _) ?_)
        |(with_reducible refine Ad.monoR (O _) ?_)
        |(with_reducible refine Ad.monoR (aw _) ?_)
        |((with_reducible show Dd _ _ _ _ _);intro q hq;dsimp only at hq;have L:=Ac hq W;have aa:=L.symm)
        |simp(disch:=omega)only[go_sem, *,Bf2,Ca8,Ck1,jB,jH]
        |((with_reducible show Dj _ _ _);exact Dj.sub (sK.trans (J.trans (by repeat (first|assumption|exact Sub.refl _|refine Sub.new ?_ (by assumption) _)))) (.refl ⟨rfl,rfl⟩))
        |fail
      ·(have af:0<(x.a.length:Int):=by have:=List.length_pos_iff.2 h0;omega);have C:=λY=>Nz hG Y x.a q.2.2.2.2.1;have S:=Ag3 (Gl0 q.2.2.2.2.1);(have U:(Mq x.a).length<=8000000:=by have:=Dy8 hm;omega);obtain⟨y,hb,hs,-,-⟩:=Cd4 hm h0;(have Z:Ei Ue 16777216 y:=by obtain⟨k,hk⟩:=Zw hb;exact Dh6 S U (Nat.zero_le _) y k hk);simp only[Cj8,hm,↓reduceIte] at C;have D:=λY=>Wi hG Y (l:=Mq x.a) U S;rw[hb] at D;have O:=λY=>Bf1 G Y y x.a Z;rw[hs] at O;have I:=λY=>Qg G Y x.a q.2.2.2.2.1;rw[hm] at I;simp only[Be,Gf] at C D;clear hb hs Z S U
       repeat' first
        |(apply tail.h;exact J.trans (by repeat (first|assumption|exact Sub.refl _|refine Sub.new ?_ (by assumption) _));first|rfl|simp(disch:=omega)only[go_sem, *])
        |(with_reducible refine Ad.monoR (C _) ?_)
        |(with_reducible refine Ad.monoR (M _) ?_)
        |(with_reducible refine Ad.monoR (D _) ?_)
        |(with_reducible refine Ad.monoR (I _) ?_)
        |(with_reducible refine Ad.monoR (O _) ?_)
        |(with_reducible refine Ad.monoR (aw _) ?_)
        |((with_reducible show Dd _ _ _ _ _);intro q hq;dsimp only at hq;have L:=Ac hq W;have aa:=L.symm)
        |simp(disch:=omega)only[go_sem, *,Bf2,Ca8,Ck1,jH]
        |((with_reducible show Dj _ _ _);exact Dj.sub (sK.trans (J.trans (by repeat (first|assumption|exact Sub.refl _|refine Sub.new ?_ (by assumption) _)))) (.refl ⟨rfl,rfl⟩))
        |fail
    case b=>
     refine⟨λE X J z1=> ?_⟩;apply Ev3 (q:=λ(T:DK) (V:DExit->DS->Prop)=>Hid (∀E X,Sub K X->E 1= .optr r1 0->Ad Tryz.prog G 21 [.agg (Cf x.t),dI 0] X (Xy (some 211) T V E)))
     case a=>
      intro tail;have W:=J _ _ ac;cases hm:Gn x.c with
      |false=>
       have C:=λY=>Aa7 hG Y x.c 3 q.2.2.2.2.2.1;simp only[Dj3,hm,↓reduceIte,Bool.false_eq_true] at C;have M:=λY=>Ak2 G Y [] (by simp) (by simp [Hw]);rw[show Hw []= [] from rfl] at M;have D:=λY=>Bj8 hG Y (l:= []) (by simp) ab;have I:=λY=>Ag0 G Y x.c q.2.2.2.2.2.1;rw[hm] at I;simp only[Be,Gf,List.flatMap_nil,jB] at C D M
       repeat' first
        |(apply tail.h;exact J.trans (by repeat (first|assumption|exact Sub.refl _|refine Sub.new ?_ (by assumption) _));first|rfl|simp(disch:=omega)only[go_sem, *])
        |(with_reducible refine Ad.monoR (C _) ?_)
        |(with_reducible refine Ad.monoR (M _) ?_)
        |(with_reducible refine Ad.monoR (D _) ?_)
        |(with_reducible refine Ad.monoR (I _) ?_)
        |(with_reducible refine Ad.monoR (O _) ?_)
        |(with_reducible refine Ad.monoR (aw _) ?_)
        |((with_reducible show Dd _ _ _ _ _);intro q hq;dsimp only at hq;have L:=Ac hq W;have aa:=L.symm)
        |simp(disch:=omega)only[go_sem, *,Pk,Ca8,Cu4,jH]
        |((with_reducible show Dj _ _ _);exact Dj.sub (sK.trans (J.trans (by repeat (first|assumption|exact Sub.refl _|refine Sub.new ?_ (by assumption) _)))) (.refl ⟨rfl,rfl⟩))
        |fail
      |true=>
       have C:=λY=>Aa7 hG Y x.c 3 q.2.2.2.2.2.1;have S:=Ag3 (Cu2 q.2.2.2.2.2.1);(have U:(Fs x.c).length<=8000000:=by have:=Dy9 hm;omega);obtain⟨y,hb,hs,-,-⟩:=Cd5 hm;(have Z:Ei Ka 16777216 y:=by obtain⟨k,hk⟩:=Zw hb;exact Ax4 S U (Nat.zero_le _) y k hk);simp only[Dj3,hm,↓reduceIte] at C;have ad:=Ex5 hm 3;have M:=λY=>Ak2 G Y (Ly x.c 3) (by omega) (by rw[Aj4];omega);rw[Aj4] at M;have D:=λY=>Bj8 hG Y (l:=Fs x.c) U S;rw[hb] at D;have O:=λY=>Un G Y y x.c Z q.2.2.2.2.2.1;rw[hs] at O;have I:=λY=>Ag0 G Y x.c q.2.2.2.2.2.1;rw[hm] at I;simp only[Be,Gf] at C D M;clear hb hs Z S U ad
       repeat' first
        |(apply tail.h;exact J.trans (by repeat (first|assumption|exact Sub.refl _|refine Sub.new ?_ (by assumption) _));first|rfl|simp(disch:=omega)only[go_sem, *])
        |(with_reducible refine Ad.monoR (C _) ?_)
        |(with_reducible refine Ad.monoR (M _) ?_)
        |(with_reducible refine Ad.monoR (D _) ?_)
        |(with_reducible refine Ad.monoR (I _) ?_)
        |(with_reducible refine Ad.monoR (O _) ?_)
        |(with_reducible refine Ad.monoR (aw _) ?_)
        |((with_reducible show Dd _ _ _ _ _);intro q hq;dsimp only at hq;have L:=Ac hq W;have aa:=L.symm)
        |simp(disch:=omega)only[go_sem, *,Pk,Ca8,Cu4,jH]
        |((with_reducible show Dj _ _ _);exact Dj.sub (sK.trans (J.trans (by repeat (first|assumption|exact Sub.refl _|refine Sub.new ?_ (by assumption) _)))) (.refl ⟨rfl,rfl⟩))
        |fail
     case b=>
      refine⟨λE X J z1=> ?_⟩;have W:=J _ _ ac;cases hm:Dn x.t with
      |false=>
       have C:=λY=>Rv hG Y x.t 0 q.2.2.2.2.2.2;simp only[Cj9,hm,↓reduceIte,Bool.false_eq_true] at C;have M:=λY=>Ak2 G Y [] (by simp) (by simp [Hw]);rw[show Hw []= [] from rfl] at M;have D:=λY=>Aq5 hG Y (l:= []) (by simp) ab;have I:=λY=>Ax8 G Y x.t q.2.2.2.2.2.2;rw[hm] at I;simp only[Be,Gf,List.flatMap_nil,jB] at C D M
       repeat' first
        |(apply tail.h;exact J.trans (by repeat (first|assumption|exact Sub.refl _|refine Sub.new ?_ (by assumption) _));first|rfl|simp(disch:=omega)only[go_sem, *])
        |(with_reducible refine Ad.monoR (C _) ?_)
        |(with_reducible refine Ad.monoR (M _) ?_)
        |(with_reducible refine Ad.monoR (D _) ?_)
        |(with_reducible refine Ad.monoR (I _) ?_)
        |(with_reducible refine Ad.monoR (O _) ?_)
        |(with_reducible refine Ad.monoR (aw _) ?_)
        |((with_reducible show Dd _ _ _ _ _);intro q hq;dsimp only at hq;have L:=Ac hq W;have aa:=L.symm)
        |simp(disch:=omega)only[go_sem, *,Pk,Cu4,jB,Fq,jH,jL]
        |((with_reducible show Dj _ _ _);exact Dj.sub (sK.trans (J.trans (by repeat (first|assumption|exact Sub.refl _|refine Sub.new ?_ (by assumption) _)))) (.refl ⟨rfl,rfl⟩))
        |fail
      |true=>
       have C:=λY=>Rv hG Y x.t 0 q.2.2.2.2.2.2;have S:=Ag3 (Ha7 q.2.2.2.2.2.2);(have U:(Mn x.t).length<=8000000:=by have:=Ex7 hm;omega);obtain⟨y,hb,hs,-,-⟩:=Dh3 hm;(have Z:Lb 16777216 y:=by obtain⟨k,hk⟩:=Zw hb;exact Ct1 S U (Nat.zero_le _) y k hk);simp only[Cj9,hm,↓reduceIte] at C;have ad:=Fv3 hm;have M:=λY=>Ak2 G Y (Ig x.t 0) (by omega) (by rw[By6 hm];omega);rw[By6 hm] at M;have D:=λY=>Aq5 hG Y (l:=Mn x.t) U S;rw[hb] at D;have O:=λY=>Cu1 G Y y x.t Z q.2.2.2.2.2.2;rw[hs] at O;have I:=λY=>Ax8 G Y x.t q.2.2.2.2.2.2;rw[hm] at I;simp only[Be,Gf] at C D M;clear hb hs Z S U ad
       repeat' first
        |(apply tail.h;exact J.trans (by repeat (first|assumption|exact Sub.refl _|refine Sub.new ?_ (by assumption) _));first|rfl|simp(disch:=omega)only[go_sem, *])
        |(with_reducible refine Ad.monoR (C _) ?_)
        |(with_reducible refine Ad.monoR (M _) ?_)
        |(with_reducible refine Ad.monoR (D _) ?_)
        |(with_reducible refine Ad.monoR (I _) ?_)
        |(with_reducible refine Ad.monoR (O _) ?_)
        |(with_reducible refine Ad.monoR (aw _) ?_)
        |((with_reducible show Dd _ _ _ _ _);intro q hq;dsimp only at hq;have L:=Ac hq W;have aa:=L.symm)
        |simp(disch:=omega)only[go_sem, *,Pk,Cu4,jB,Fq,Xq,jH,jL]
        |((with_reducible show Dj _ _ _);exact Dj.sub (sK.trans (J.trans (by repeat (first|assumption|exact Sub.refl _|refine Sub.new ?_ (by assumption) _)))) (.refl ⟨rfl,rfl⟩))
        |fail
end
end Go.Dl
-- R1
namespace Go.Dl
open Go
section
variable {H:Type} {enc:TypeId×Value->H} {P:Program} {w w':World}
def Aq7 (w w':World):Prop:= ∀b,b<w.heap.size->w'.heap[b]? =w.heap[b]?
theorem Aq7.cell (h:Aq7 w w') {a:Addr} {x:Value} (y:w.cell? a=some x):w'.cell? a=some x:=by
 have C:a.block<w.heap.size:=by
  unfold World.cell? at y;rcases Nat.lt_or_ge a.block w.heap.size with hl|hl
  ·exact hl
  ·simp [Array.getElem?_eq_none hl] at y
 unfold World.cell? at y⊢
 rw[h _ C];exact y
theorem Qk {α β:Type} {f g:α->Option β}: ∀ {l:List α} {r:List β},l.mapM f=some r->(∀x∈l,∀y,f x=some y->y∈r->g x=some y)->l.mapM g=some r
 | [],r,h,_=>by simpa using h
 |x::l,r,h,hg=>by
  rw[List.mapM_cons] at h⊢
  simp only[Option.bind_eq_bind,Option.bind_eq_some_iff,Option.pure_def,Option.some.injEq] at h⊢
  obtain⟨y,C,ys,hys,rfl⟩:=h;exact⟨y,hg x (by simp) y C (by simp),ys,Qk hys (λz hz u hu hm=>hg z (by simp [hz]) u hu (by simp [hm])),rfl⟩
theorem Aq7.cells (h:Aq7 w w') {base:Nat} {a:Addr} {n:Nat} {cs:List Value} (C:w.cells? base a n=some cs):w'.cells? base a n=some cs:=by
 unfold World.cells? at C⊢
 split at C
 ·rename_i hb;rw[if_pos hb];exact Qk C λi _ y D _=>h.cell D
 ·cases C
structure Closed (P:Program) (T:TypeId->Prop):Prop where
 ptr: ∀t e,T t->P.underlying t=some (.pointer e)->T e
 slice: ∀t e,T t->P.underlying t=some (.slice e)->0<P.cellsOf e/\T e
 struct: ∀t fs,T t->P.underlying t=some (.struct fs)-> ∀f∈fs.toList,T f.type
 array: ∀t n e,T t->P.underlying t=some (.array n e)->T e
 iface: ∀t m,T t->P.underlying t≠some (.interface m)
 map: ∀t k e,T t->P.underlying t=some (.map k e)->T e
def Eh6 (P:Program) (ts:List TypeId):Bool:=ts.all λt=>match P.underlying t with
 |some (.pointer e)=>ts.contains e
 |some (.slice e)=>decide (0<P.cellsOf e)&&ts.contains e
 |some (.struct fs)=>fs.toList.all λf=>ts.contains f.type
 |some (.array _ e)=>ts.contains e
 |some (.interface _)=>false
 |some (.map _ e)=>ts.contains e
 |_=>true
theorem Ex8 {P:Program} {ts:List TypeId} (h:Eh6 P ts=true):Closed P (· ∈ts):=by
 unfold Eh6 at h;rw[List.all_eq_true] at h;refine⟨λt e ht hu=> ?_,λt e ht hu=> ?_,λt fs ht hu=> ?_,λt n e ht hu=> ?_,λt m ht hu=> ?_,λt k e ht hu=> ?_⟩;all_goals have h1:=h t ht;rw[hu] at h1
 ·simpa using h1
 ·simpa using h1
 ·intro f hf;simpa using List.all_eq_true.1 h1 f hf
 ·simpa using h1
 ·cases h1
 ·simpa using h1
theorem Ck2 (h:Aq7 w w') {T:TypeId->Prop} (E:Closed P T) {base:Nat} {J:Nat->Bool} {held:Bool}:
  ∀(Cj:Nat) (t:TypeId) (cs:List Value) (d:DataW H) (L:List MemPlace),T t->DataW.trod enc P w base (λ_=>true) held Cj t cs=some (d,L)->(∀p∈L,J p.block=true)->
   DataW.trod enc P w' base J held Cj t cs=some (d,L)
 | 0,_,_,_,_,_,hh,_=>by simp [DataW.trod] at hh
 |Cj+1,t,cs,d,L,ht,hh,hp=>by
  have ih:= @Ck2 h T E base J held Cj;unfold DataW.trod at hh⊢
  split at hh<;>(try (first|exact hh|(simp at hh;done)))
  ·-- pointer
   rename_i e a hu
   simp only[Option.map_eq_some_iff,Option.bind_eq_some_iff,Prod.mk.injEq] at hh⊢
   obtain⟨x,⟨c,hc,hx⟩,rfl,rfl⟩:=hh;exact⟨x,⟨c,h.cells hc,ih _ _ x.1 x.2 (E.ptr _ _ ht hu) hx λp D=>hp p (by simp [D])⟩,rfl,rfl⟩
  ·-- slice
   rename_i e a len cap hu
   dsimp only at hh⊢
   split at hh
   ·rename_i hc
    rw[if_pos hc];simp only[Option.bind_eq_some_iff,Option.map_eq_some_iff,if_true,Prod.mk.injEq] at hh⊢
    obtain⟨O,he,rest,hr,rfl,rfl⟩:=hh;have hp1: ∀y∈O,∀p∈y.2,J p.block=true:=λy C p D=>hp p (by
     simp only[List.mem_append,List.mem_flatMap];exact .inr ⟨y,.inl C,D⟩)
    have hp2: ∀y∈rest,∀p∈y.2,J p.block=true:=λy C p D=>hp p (by
     simp only[List.mem_append,List.mem_flatMap];exact .inr ⟨y,.inr C,D⟩)
    refine⟨O,Qk he (λi _ y C I=> ?_),rest, ?_,rfl,rfl⟩
    ·simp only[Option.bind_eq_some_iff] at C⊢
     obtain⟨c,M,hc2⟩:=C;exact⟨c,h.cells M,ih _ _ y.1 y.2 (E.slice _ _ ht hu).2 hc2 (hp1 y I)⟩
    ·have S:(List.range (cap-len)).mapM (λj=>(w'.cells? base (a.add ((len+j)*P.cellsOf e)) (P.cellsOf e)).bind (DataW.trod enc P w' base J held Cj e))=some rest:=by
      refine Qk hr (λi _ y C I=> ?_);simp only[Option.bind_eq_some_iff] at C⊢
      obtain⟨c,M,hc2⟩:=C;exact⟨c,h.cells M,ih _ _ y.1 y.2 (E.slice _ _ ht hu).2 hc2 (hp2 y I)⟩
     by_cases hsp:J a.block=true
     ·rw[if_pos hsp];exact S
     ·rw[if_neg hsp];have U:=(E.slice t e ht hu).1;have V:rest.length=0:=by
       rcases Nat.eq_zero_or_pos rest.length with h0|h0
       ·exact h0
       ·exfalso;refine hsp (hp (.cell a.block a.off) ?_);refine List.mem_append_left _ ?_;unfold MemPlace.row;refine List.mem_map.2 ⟨0,List.mem_range.2 (Nat.mul_pos (by omega) U),by simp⟩
      rw[List.eq_nil_of_length_eq_zero V]
   ·cases hh
  ·-- struct
   rename_i fs hu
   split at hh
   ·rename_i hl
    rw[if_pos hl];simp only[Option.map_eq_some_iff,Prod.mk.injEq] at hh⊢
    obtain⟨xs,hx,rfl,rfl⟩:=hh;exact⟨xs,Qk hx (λf hf y C I=>ih _ _ y.1 y.2 (E.struct _ _ ht hu f hf) C λp D=>hp p (List.mem_flatMap.2 ⟨y,I,D⟩)),rfl,rfl⟩
   ·cases hh
  ·-- array
   rename_i hu
   split at hh
   ·rename_i hl
    rw[if_pos hl];simp only[Option.map_eq_some_iff,Prod.mk.injEq] at hh⊢
    obtain⟨xs,hx,rfl,rfl⟩:=hh;exact⟨xs,Qk hx (λf hf y C I=>ih _ _ y.1 y.2 (E.array _ _ _ ht hu) C λp D=>hp p (List.mem_flatMap.2 ⟨y,I,D⟩)),rfl,rfl⟩
   ·cases hh
  ·-- interface
   rename_i hu
   exact(E.iface _ _ ht hu).elim
  ·-- map
   rename_i k e b hu
   split at hh
   ·rename_i es Z hb
    have W:b<w.heap.size:=(Array.getElem?_eq_some_iff.1 hb).1;rw[h b W,hb];dsimp only at hh⊢
    split at hh
    ·rename_i hc
     rw[if_pos hc];simp only[Option.bind_eq_some_iff] at hh⊢
     obtain⟨entries,he,hr⟩:=hh;split at hr
     ·rename_i X
      simp only[Option.some.injEq,Prod.mk.injEq] at hr;obtain⟨rfl,rfl⟩:=hr;refine⟨entries,Qk he (λx _ y C I=> ?_),by rw[if_pos X]⟩;simp only[Option.bind_eq_some_iff] at C⊢
      obtain⟨key,hk,C⟩:=C;refine⟨key,hk, ?_⟩;split at C
      ·rename_i hf
       rw[if_pos hf];simp only[Option.map_eq_some_iff] at C⊢
       obtain⟨z,Y,rfl⟩:=C;exact⟨z,ih _ _ z.1 z.2 (E.map _ _ _ ht hu) Y λp D=>hp p (by
        simp only[List.mem_cons,List.mem_flatMap];exact .inr ⟨_,I,D⟩),rfl⟩
      ·cases C
     ·cases hr
    ·cases hh
   ·cases hh
theorem Trod.keep (h:Aq7 w w') {T:TypeId->Prop} (D:Closed P T) {base:Nat} {C:Nat->Bool} {held:Bool} {t:TypeId} {v:Value} {d:DataW H} {y:List MemPlace}
  (E:T t) (hh:DataW.Trod enc P w base (λ_=>true) held t v d y) (hp: ∀p∈y,C p.block=true):DataW.Trod enc P w' base C held t v d y:=by
 obtain⟨Cj,hh⟩:=hh;exact⟨Cj,Ck2 h D Cj _ _ _ _ E hh hp⟩
theorem TrodAll.keep (h:Aq7 w w') {T:TypeId->Prop} (D:Closed P T) {base:Nat} {E:Nat->Bool} {held:Bool}:
  ∀ {ts:List TypeId} {vs:List Value} {y:List (DataW H)} {C:List MemPlace},(∀t∈ts,T t)->DataW.TrodAll enc P w base (λ_=>true) held ts vs y C->(∀p∈C,E p.block=true)->DataW.TrodAll enc P w' base E held ts vs y C
 | [],[],[],_,_,hh,_=>hh
 | [],[],_::_,_,_,hh,_=>hh.elim
 | [],_::_,_,_,_,hh,_=>hh.elim
 |_::_,[],_,_,_,hh,_=>hh.elim
 |_::_,_::_,[],_,_,hh,_=>hh.elim
 |t::ts,v::vs,d::y,_,ht,⟨p,q,h1,h2,rfl⟩,hp=>
  ⟨p,q,Trod.keep h D (ht t (by simp)) h1 (λx hx=>hp x (by simp [hx])),TrodAll.keep h D (λu hu=>ht u (by simp [hu])) h2 (λx hx=>hp x (by simp [hx])),rfl⟩
end
end Go.Dl
-- R2
namespace Go.Dl
open Go Go.RowKit Go.Deep
def Js (P:Program) (H:Type) (w:World) (t:TypeId) (α:Type) (f:α->List DVal) (g:α->DataW H->Prop):Prop:=
 ∀(enc:TypeId×Value->H) base sp held Cj cs d ps,DataW.trod enc P w base sp held Cj t cs=some (d,ps)-> ∃x,g x d/\Ar w (λ_=>none) (f x) cs
section
variable {P:Program} {H:Type} {w:World}
theorem Bf3 {a:Addr} {x:Value} (h:w.cell? a=some x):a.spot=none:=by
 unfold World.cell? at h;split at h
 ·split at h
  ·cases h
  ·rename_i hs;simpa using hs
 ·cases h
theorem Xt {α β:Type} {f:α->Option β}: ∀ {l:List α} {r:List β},l.mapM f=some r->r.length=l.length/\ ∀(i:Nat) (x:α),l[i]? =some x-> ∃y,r[i]? =some y/\f x=some y
 | [],r,h=>by simp at h;subst h;simp
 |x::l,r,h=>by
  rw[List.mapM_cons] at h;simp only[Option.bind_eq_bind,Option.bind_eq_some_iff,Option.pure_def,Option.some.injEq] at h;obtain⟨y,C,ys,hys,rfl⟩:=h;obtain⟨h1,h2⟩:=Xt hys;refine⟨by simp [h1],λi z hz=> ?_⟩;cases i with
  |zero=>simp at hz;subst hz;exact⟨y,rfl,C⟩
  |succ i=>simp at hz;obtain⟨u,hu,hf⟩:=h2 i z hz;exact⟨u,by simpa using hu,hf⟩
theorem Bk0 {base:Nat} {a:Addr} {n:Nat} {cs:List Value} (h:w.cells? base a n=some cs):cs.length=n/\Mp w a.block a.off cs:=by
 unfold World.cells? at h;split at h
 ·obtain⟨h1,h2⟩:=Xt h;rw[List.length_range] at h1;refine⟨h1,λi x hx=> ?_⟩;have hi:i<n:=by
   have:=(List.getElem?_eq_some_iff.1 hx).1;omega
  obtain⟨y,C,hc⟩:=h2 i i (by simp [hi]);rw[hx] at C;cases C;by_cases h0:i=0
  ·subst h0;have:a.add 0=a:=rfl;rw[this] at hc;have hs:=Bf3 hc;(have:(⟨a.block,a.off+0,none⟩:Addr)=a:=by cases a;simp at hs⊢;exact hs.symm);rw[this];exact hc
  ·(have:a.add i=⟨a.block,a.off+i,none⟩:=by simp [Addr.add,h0]);rw[<-this];exact hc
 ·cases h
theorem Mp.append {b off:Nat} {xs ys:List Value} (h:Mp w b off xs) (k:Mp w b (off+xs.length) ys):Mp w b off (xs++ys):=by
 intro i x hx;by_cases hi:i<xs.length
 ·rw[List.getElem?_append_left hi] at hx;exact h i x hx
 ·rw[List.getElem?_append_right (by omega)] at hx;have:=k (i-xs.length) x hx;rw[show off+xs.length+(i-xs.length)=off+i by omega] at this;exact this
theorem Jt {t:TypeId} {k:IntKind} (y:P.underlying t=some (.int k)):Js P H w t Int (λn=> [.int k n]) (λn d=>(Lit.int k n).wf=true/\d= .lit (.int k n)):=by
 intro enc base C held Cj cs d ps h;cases Cj with
 |zero=>simp [DataW.trod] at h
 |succ Cj=>
  unfold DataW.trod at h;rw[y] at h;split at h<;>simp_all;obtain⟨⟨rfl,hw⟩,rfl,rfl⟩:=h;exact⟨_,⟨hw,rfl⟩,by simp [Ar,Rel]⟩
theorem Dz0 {t:TypeId} (y:P.underlying t=some .bool):Js P H w t Bool (λb=> [.bool b]) (λb d=>d= .lit (.bool b)):=by
 intro enc base C held Cj cs d ps h;cases Cj with
 |zero=>simp [DataW.trod] at h
 |succ Cj=>
  unfold DataW.trod at h;rw[y] at h;split at h<;>try (simp_all;done)
  simp only[Option.some.injEq,Prod.mk.injEq] at h;obtain⟨rfl,rfl⟩:=h;exact⟨_,rfl,by simp [Ar,Rel]⟩
theorem Ss {t:TypeId} (y:P.underlying t=some .string):Js P H w t (List UInt8) (λs=> [.str s]) (λs d=>s.length<=maxLen/\d= .lit (.string s)):=by
 intro enc base C held Cj cs d ps h;cases Cj with
 |zero=>simp [DataW.trod] at h
 |succ Cj=>
  unfold DataW.trod at h;rw[y] at h;split at h<;>simp_all
  rename_i s
  obtain⟨hl,rfl,rfl⟩:=h;exact⟨s.data.toList,⟨by simpa using hl,rfl⟩,by simp [Ar,Rel]⟩
def Ay3 {α:Type} (g:α->DataW H->Prop):List α->List (DataW H)->Prop
 | [],[]=>True
 |x::xs,d::ds=>g x d/\Ay3 g xs ds
 |_,_=>False
theorem Ay3.append {α:Type} {g:α->DataW H->Prop}: ∀ {xs ys:List α} {y es:List (DataW H)},Ay3 g xs y->Ay3 g ys es->Ay3 g (xs++ys) (y++es)
 | [],_,[],_,_,k=>k
 | [],_,_::_,_,h,_=>h.elim
 |_::_,_,[],_,h,_=>h.elim
 |x::xs,ys,d::y,es,h,k=>⟨h.1,Ay3.append h.2 k⟩
theorem Oy {t e:TypeId} {α:Type} {f:α->List DVal} {g:α->DataW H->Prop} (ht:P.underlying t=some (.slice e)) (he:Js P H w e α f g):
  Js P H w t (List α) (fun xs=> [.vslice (xs.flatMap f) xs.length]) (fun xs d=>(d= .nil/\xs= [])\/ ∃es sp,d= .slice es sp/\xs.length<=maxLen/\Ay3 g xs es):=by
 intro enc base sp held Cj cs d ps h;rcases open_slice ht h with⟨rfl,hx⟩ | ⟨a,len,cap,m,n,D,Pl,rfl,hb,hl,hm,hmm,hx,hall⟩
 ·cases hx;exact⟨[], .inl ⟨rfl,rfl⟩,by simp [Ar,Rel]⟩
 ·have hlm:len<=m:=by rw[hmm];split<;>omega
  simp only[Prod.mk.injEq] at hx;obtain⟨rfl,rfl⟩:=hx;have key: ∀k,k<=len-> ∃(xs:List α) (ys:List Value),xs.length=k/\Ay3 g xs ((List.range k).map D)/\ys.length=k*P.cellsOf e/\Mp w a.block a.off ys/\Ar w (fun _=>none) (xs.flatMap f) ys:=by
   intro k
   induction k with
   | zero=>intro _;exact⟨[],[],rfl,trivial,by simp,fun i x hx=>by simp at hx,by simp [Ar]⟩
   | succ k ih=>
    intro hk;obtain⟨xs,ys,h1,h2,h3,h4,h5⟩:=ih (by omega);obtain⟨cs',g1,g2⟩:=hall k (by omega);obtain⟨x,hg,hr⟩:=he _ _ _ _ _ _ _ _ g2;obtain⟨c1,c2⟩:=Bk0 g1;refine⟨xs++ [x],ys++cs',by simp [h1], ?_,by simp only[jC,h3,c1,Nat.succ_mul],h4.append ?_, ?_⟩
    ·rw[List.range_succ,List.map_append];exact h2.append ⟨hg,trivial⟩
    ·rw[h3];have ha:(a.add (k*P.cellsOf e)).block=a.block/\(a.add (k*P.cellsOf e)).off=a.off+k*P.cellsOf e:=by
      unfold Addr.add;split
      ·rename_i h0;rw[h0];exact⟨rfl,rfl⟩
      ·exact⟨rfl,rfl⟩
     rw[ha.1,ha.2] at c2;exact c2
    ·rw[List.flatMap_append];simpa using h5.append hr
  obtain⟨xs,ys,h1,h2,h3,h4,h5⟩:=key len (Nat.le_refl _);refine⟨xs, .inr ⟨_,_,rfl,by omega,h2⟩, ?_⟩;have hrel:Rel w (fun _=>none) (.vslice (xs.flatMap f) xs.length) (.slice (some a) len cap):=by
   simp only[Rel];refine⟨some a,cap,by rw[h1],by omega, ?_⟩;cases hys:ys with
   | nil=>subst hys;left;exact List.eq_nil_of_length_eq_zero (by rw[h5.length];rfl)
   | cons y yr=>
    right;have h6:=h4 0 y (by rw[hys];rfl);have hpos:0<len/\0<P.cellsOf e:=by
     rw[hys] at h3;simp only[jA] at h3;constructor
     ·rcases Nat.eq_zero_or_pos len with h0 | h0
      ·subst h0;simp at h3
      ·exact h0
     ·rcases Nat.eq_zero_or_pos (P.cellsOf e) with h0 | h0
      ·rw[h0] at h3;simp at h3
      ·exact h0
    have hsp:a.spot=none:=by
     obtain⟨cs',g1,g2⟩:=hall 0 (by omega);unfold World.cells? at g1;split at g1
     ·obtain⟨_,m2⟩:=Xt g1;obtain⟨z,_,hz⟩:=m2 0 0 (by simp [hpos.2]);(have:(a.add (0*P.cellsOf e)).add 0=a:=by simp [Addr.add]);rw[this] at hz;exact Bf3 hz
     ·cases g1
    refine⟨a.block,a.off,ys,by cases a;simp at hsp⊢;exact hsp, .inr ⟨rfl,h4⟩,h5⟩
  simp only[Ar];exact⟨_,_,rfl,hrel,rfl⟩
end
end Go.Dl
-- R3
namespace Go.Dl
open Go Go.RowKit
section
variable {P:Program} {w:World}
theorem Ext.stands {w':World} {H':Ab} (h:Ext (λ_=>none) w H' w'):Aq7 w w':=λb hb=>h.block b hb rfl
def Fv5 (W w':World):Prop:=W.keptBut w' (λ_=>False)/\(∀a,a.block<W.heap.size->w'.frozen? a=W.frozen? a)/\W.heap.size<=w'.heap.size
theorem Fv5.frame {W w':World} (h:Fv5 W w') (y:MemPlace->Prop):W.keptBut w' y:=World.keptBut_mono (λ_ f=>f.elim) h.1
theorem Ext.grown {w':World} {H':Ab} (h:Ext (λ_=>none) w H' w'):Fv5 w w':=by
 refine⟨⟨h.os,h.output,λi hi=> ?_⟩,λa ha=>h.fz a ha rfl,h.size⟩;rw[h.block i hi rfl];cases ho:w.heap[i]? with
 |none=>simp
 |some o=>cases o<;>simp
theorem Cu5 (w:World):Bg w (λ_=>none):=λr o h=>by cases h
theorem Ad.row {G:Nat->DVal} {f:FuncId} {args:List DVal} {vs:Array Value} (h:Ad P G f args (λ_=>none) (λe _=>e= .ret (.bool true))) (hv:Ar w (λ_=>none) args vs.toList) (hG:GOk G w (λ_=>none)):
  Calls P f vs w λe W'=>e= .returned (.bool true)/\Fv5 w W'/\Aq7 w W':=by
 have:=h.2 vs.toList w hv (Cu5 w) hG;simp only[Array.toArray_toList] at this;refine this.mono λe w' ⟨e',H',he,hr,_,hE⟩=> ?_;subst he;cases hr with
 |ret d v hv=>simp only[Rel] at hv;subst hv;exact⟨rfl,hE.grown,hE.stands⟩
theorem Ar.cons {y:Ab} {d:DVal} {v:Value} {C:List DVal} {vs:List Value} (h:Rel w y d v) (k:Ar w y C vs):Ar w y (d::C) (v::vs):=by
 simp only[Ar];exact⟨v,vs,rfl,h,k⟩
end
end Go.Dl
namespace Go.ChangeShapes
open Go.WideShapes
section
variable {H:Type} {enc:TypeId×Value->H} {P:Program}
theorem Dj8 {f:Func} {s:ChangeSpec} {S fresh ab Gm0:Bool} {W C:World} {args:Array Value} {v:Value} {E I:List (DataW H)} {y J L:List MemPlace}
  (O:DataW.Whole enc P f.params.toList s.vars S W args.toList E I y)
  (U: ∀(b:Nat) (D:Nat->Bool) (hd:Bool),DataW.TrodAll enc P C b D hd f.resultTypes.toList (v.resultList f.resultTypes.size) (s.fn H (E++I)).results [])
  (V: ∀D:Nat->Bool,(∀p∈y,D p.block=true)->DataW.TrodAll enc P C 0 D true f.params.toList args.toList (s.fn H (E++I)).args J)
  (X: ∀D:Nat->Bool,(∀p∈y,D p.block=true)->DataW.TrodVars enc P C D s.vars (s.fn H (E++I)).vars L)
  (M:y=J++L) (hk:W.keptBut C (· ∈y)) (ac: ∀a,a.block<W.heap.size->C.frozen? a=W.frozen? a)
  (ad: ∀(j:Nat) (t:TypeId) (r:Value),f.resultTypes[j]? =some t->(v.resultList f.resultTypes.size)[j]? =some r->Value.okWide P C .any 0 t r):
  s.post enc P f S fresh ab Gm0 W args v C:=by
 have Y:=O.lt;have Z: ∀p∈y,(λb=>decide (b<W.heap.size)) p.block=true:=λp hp=>by simpa using Y p hp
 refine⟨E,I,y,[],J,L,O,U _ _ _,V _ Z,X _ Z,World.keptBut_mono (λp hp=>⟨hp,.inr (List.mem_append.1 (M▸hp))⟩) hk,λ_=> ?_⟩;obtain⟨_,_,_,_,_,hz,hn⟩:=O;refine⟨ad,_,_,([]++J)++L,⟨[]++J,L,trodAll_append (V _ (λ_ _=>rfl)) (U _ _ _),X _ (λ_ _=>rfl),rfl, ?_, ?_⟩, ?_⟩
 ·intro b off hp;have aa:MemPlace.cell b off∈y:=by rw[M];simpa using hp
  exact(ac _ (Y _ aa)).trans (hz b off aa)
 ·intro ha;have:=hn ha;rw[M] at this;simpa using this
 ·intro p hp _;rw[M];simpa using hp
end
end Go.ChangeShapes
-- R5
namespace Go.Dl
open Go Go.RowKit Go.Proofs.YtddbdpcgikmiaaaGreatDoor
section
variable {H:Type}
theorem Dj9 (d:DataW H):1<=Rows.uptoBulk d:=by
 cases d
 case lit l=>cases l<;>simp only[Rows.uptoBulk]<;>omega
 all_goals simp only[Rows.uptoBulk]
 all_goals omega
theorem Dz1 {l:List (DataW H)} (h:Rows.uptoSmall H l=true):Rows.uptoBulkAll l<=1048576:=of_decide_eq_true h
theorem Dk0 {α:Type} {g:α->DataW H->Prop}: ∀ {xs:List α} {y:List (DataW H)},Ay3 g xs y->xs.length<=Rows.uptoBulkAll y
 | [],[],_=>by simp
 | [],_::_,h=>h.elim
 |_::_,[],h=>h.elim
 |x::xs,d::y,h=>by
  have:=Dk0 h.2;have:=Dj9 d;simp only[jA,Rows.uptoBulkAll];omega
def SlG {α:Type} (g:α->DataW H->Prop) (xs:List α) (d:DataW H):Prop:=(d= .nil/\xs= [])\/ ∃es sp,d= .slice es sp/\xs.length<=maxLen/\Ay3 g xs es
theorem Eh7 {α:Type} {g:α->DataW H->Prop} {xs:List α} {d:DataW H} (h:SlG g xs d):xs.length+1<=Rows.uptoBulk d:=by
 rcases h with⟨rfl,rfl⟩|⟨es,y,rfl,_,h⟩
 ·simp [Rows.uptoBulk]
 ·have:=Dk0 h;simp only[Rows.uptoBulk];omega
end
section
end
end Go.Dl
-- R6
namespace Go.Dl
open Go Go.RowKit Go.Proofs.YtddbdpcgikmiaaaGreatDoor
theorem Ha8 {k:IntKind} {n:Int} (h:(Lit.int k n).wf=true):k.min<=n/\n<=k.max:=by
 simpa [Lit.wf] using h
section
variable {P:Program} {H:Type} {w:World}
def Bn3 (P:Program) (H:Type) (w:World) (fs:List Field) (off total:Nat) (α:Type) (f:α->List DVal) (g:α->List (DataW H)->Prop):Prop:=
 ∀(enc:TypeId×Value->H) base sp held Cj (cs:List Value) xs,cs.length=total->(fs.mapM λfl=>DataW.trod enc P w base sp held Cj fl.type ((cs.drop fl.offset).take (P.cellsOf fl.type)))=some xs-> ∃x,g x (xs.map (·.1))/\Ar w (λ_=>none) (f x) (cs.drop off)
theorem Ja (n:Nat):Bn3 P H w [] n n Unit (λ_=> []) (λ_ ds=>ds= []):=by
 intro enc base y held Cj cs xs hl h;simp at h;subst h;exact⟨(),rfl,by rw[List.drop_of_length_le (by omega)];simp [Ar]⟩
theorem Ao {C:Field} {fs:List Field} {off D n:Nat} {α β:Type} {f:α->List DVal} {g:α->DataW H->Prop} {E:β->List DVal} {I:β->List (DataW H)->Prop} (h1:Js P H w C.type α f g) (M:C.offset=off) (O:P.cellsOf C.type=n)
  (h2:Bn3 P H w fs (off+n) D β E I):Bn3 P H w (C::fs) off D (α×β) (λx=>f x.1++E x.2) (λx ds=> ∃d ds',ds=d::ds'/\g x.1 d/\I x.2 ds'):=by
 intro enc base J held Cj cs xs hl h;rw[List.mapM_cons] at h;simp only[Option.bind_eq_bind,Option.bind_eq_some_iff,Option.pure_def,Option.some.injEq] at h;obtain⟨y,S,ys,hys,rfl⟩:=h;obtain⟨U,V,L⟩:=h1 enc base J held Cj _ y.1 y.2 S;obtain⟨W,X,Y⟩:=h2 enc base J held Cj cs ys hl hys;refine⟨(U,W),⟨y.1,ys.map (·.1),by simp,V,X⟩, ?_⟩;rw[M,O] at L;have:cs.drop off=(cs.drop off).take n++cs.drop (off+n):=by
  rw[<-List.drop_drop,List.take_append_drop]
 rw[this];exact L.append Y
theorem Jb {t:TypeId} {fs:List Field} {α:Type} {f:α->List DVal} {g:α->List (DataW H)->Prop} (y:P.underlying t=some (.struct fs.toArray)) (h:Bn3 P H w fs 0 (P.cellsOf t) α f g):
  Js P H w t α f (λx d=> ∃ds,d= .agg ds/\g x ds):=by
 intro enc base C held Cj cs d ps hh;cases Cj with
 |zero=>simp [DataW.trod] at hh
 |succ Cj=>
  unfold DataW.trod at hh;rw[y] at hh;dsimp only at hh;split at hh
  ·rename_i hl
   simp only[Option.map_eq_some_iff,Prod.mk.injEq] at hh;obtain⟨xs,hx,rfl,rfl⟩:=hh;obtain⟨x,D,E⟩:=h enc base C held Cj cs xs hl hx;exact⟨x,⟨_,rfl,D⟩,by simpa using E⟩
  ·cases hh
theorem Js.map {t:TypeId} {α β:Type} {f:α->List DVal} {g:α->DataW H->Prop} (h:Js P H w t α f g) {C:β->List DVal} {D:β->DataW H->Prop} (c: ∀x d,g x d-> ∃y,C y=f x/\D y d):Js P H w t β C D:=by
 intro enc base E held Cj cs d ps hh;obtain⟨x,I,J⟩:=h enc base E held Cj cs d ps hh;obtain⟨y,e,L⟩:=c x d I;exact⟨y,L,by rw[e];exact J⟩
theorem Gl1 {t:TypeId} {α:Type} {f:α->List DVal} {g:α->DataW H->Prop} (hr:Js P H w t α f g) {enc:TypeId×Value->H} {base:Nat} {y:Nat->Bool} {held:Bool} {v:Value} {d:DataW H} {C:List MemPlace}
  (h:DataW.Trod enc P w base y held t v d C) (hv: ∃xs,v= .agg xs): ∃x,g x d/\Rel w (λ_=>none) (.agg (f x)) v:=by
 obtain⟨Cj,h⟩:=h;obtain⟨xs,rfl⟩:=hv;obtain⟨x,hg,hx⟩:=hr _ _ _ _ _ _ _ _ h;exact⟨x,hg,by simp only[Rel];exact⟨xs,rfl,by simpa [Value.cells] using hx⟩⟩
theorem Ha9 {r:Reach} {base:Nat} {t:TypeId} {v:Value} {fs:Array Field} (y:P.underlying t=some (.struct fs)) (h:Value.okWide P w r base t v): ∃xs,v= .agg xs:=by
 unfold Value.okWide at h;rw[y] at h;cases v<;>first|exact⟨_,rfl⟩|(exfalso;revert h;unfold Cell.okWide;rw[y];simp [Cell.ok,y];done)|skip
end
end Go.Dl
-- W1
namespace Go.Dl
open Go Go.RowKit Go.Deep Go.Proofs Go.Proofs.YtddbdpcgikmiaaaGreatDoor
set_option maxRecDepth 100000
section
variable {P:Program} {H:Type} {w:World}
def Ob (N:Nat) (P:Program) (H:Type) (w:World) (t:TypeId) (α:Type) (f:α->List DVal) (g:α->DataW H->Prop):Prop:=
 ∀(enc:TypeId×Value->H) base sp held Cj cs d ps,DataW.trod enc P w base sp held Cj t cs=some (d,ps)->Rows.uptoBulk d<=N-> ∃x,g x d/\Ar w (λ_=>none) (f x) cs
def Ay4 (N:Nat) (P:Program) (H:Type) (w:World) (fs:List Field) (off total:Nat) (α:Type) (f:α->List DVal) (g:α->List (DataW H)->Prop):Prop:=
 ∀(enc:TypeId×Value->H) base sp held Cj (cs:List Value) xs,cs.length=total->(fs.mapM λfl=>DataW.trod enc P w base sp held Cj fl.type ((cs.drop fl.offset).take (P.cellsOf fl.type)))=some xs->(∀x∈xs,Rows.uptoBulk x.1<=N)-> ∃x,g x (xs.map (·.1))/\Ar w (λ_=>none) (f x) (cs.drop off)
theorem Js.n {t:TypeId} {α:Type} {f:α->List DVal} {g:α->DataW H->Prop} (h:Js P H w t α f g) (N:Nat):Ob N P H w t α f g:=λenc base y held Cj cs d ps hh _=>h enc base y held Cj cs d ps hh
theorem Ck3 {t:TypeId} {α:Type} {f:α->List DVal} {g:α->DataW H->Prop} (h: ∀N,Ob N P H w t α f g):Js P H w t α f g:=λenc base y held Cj cs d ps hh=>h _ enc base y held Cj cs d ps hh (Nat.le_refl _)
theorem Ob.less {N M:Nat} {t:TypeId} {α:Type} {f:α->List DVal} {g:α->DataW H->Prop} (h:Ob N P H w t α f g) (hm:M<=N):Ob M P H w t α f g:=λenc base y held Cj cs d ps hh hb=>h enc base y held Cj cs d ps hh (by omega)
theorem Dk1 {l:List (DataW H)} {d:DataW H} (h:d∈l):Rows.uptoBulk d<=Rows.uptoBulkAll l:=by
 induction l with
 |nil=>cases h
 |cons x l ih=>
  rw[Rows.uptoBulkAll];rcases List.mem_cons.1 h with rfl|h
  ·omega
  ·have:=ih h;omega
theorem Su {N:Nat} {t e:TypeId} {α:Type} {f:α->List DVal} {g:α->DataW H->Prop} (ht:P.underlying t=some (.slice e)) (he:Ob N P H w e α f g):
  Ob N P H w t (List α) (fun xs=> [.vslice (xs.flatMap f) xs.length]) (SlG g):=by
 intro enc base sp held Cj cs d ps h hbulk;rcases open_slice ht h with⟨rfl,hx⟩ | ⟨a,len,cap,m,n,D,Pl,rfl,hb,hl,hm,hmm,hx,hall⟩
 ·cases hx;exact⟨[], .inl ⟨rfl,rfl⟩,by simp [Ar,Rel]⟩
 ·have hlm:len<=m:=by rw[hmm];split<;>omega
  simp only[Prod.mk.injEq] at hx;obtain⟨rfl,rfl⟩:=hx;have hbk: ∀k,k<len->Rows.uptoBulk (D k)<=N:=fun k hk=>by
   have:=Dk1 (l:=(List.range len).map D) (List.mem_map.2 ⟨k,List.mem_range.2 hk,rfl⟩);rw[Rows.uptoBulk] at hbulk;omega
  have key: ∀k,k<=len-> ∃(xs:List α) (ys:List Value),xs.length=k/\Ay3 g xs ((List.range k).map D)/\ys.length=k*P.cellsOf e/\Mp w a.block a.off ys/\Ar w (fun _=>none) (xs.flatMap f) ys:=by
   intro k
   induction k with
   | zero=>intro _;exact⟨[],[],rfl,trivial,by simp,fun i x hx=>by simp at hx,by simp [Ar]⟩
   | succ k ih=>
    intro hk;obtain⟨xs,ys,h1,h2,h3,h4,h5⟩:=ih (by omega);obtain⟨cs',g1,g2⟩:=hall k (by omega);obtain⟨x,hg,hr⟩:=he _ _ _ _ _ _ _ _ g2 (hbk k (by omega));obtain⟨c1,c2⟩:=Bk0 g1;refine⟨xs++ [x],ys++cs',by simp [h1], ?_,by simp only[jC,h3,c1,Nat.succ_mul],h4.append ?_, ?_⟩
    ·rw[List.range_succ,List.map_append];exact h2.append ⟨hg,trivial⟩
    ·rw[h3];have ha:(a.add (k*P.cellsOf e)).block=a.block/\(a.add (k*P.cellsOf e)).off=a.off+k*P.cellsOf e:=by
      unfold Addr.add;split
      ·rename_i h0;rw[h0];exact⟨rfl,rfl⟩
      ·exact⟨rfl,rfl⟩
     rw[ha.1,ha.2] at c2;exact c2
    ·rw[List.flatMap_append];simpa using h5.append hr
  obtain⟨xs,ys,h1,h2,h3,h4,h5⟩:=key len (Nat.le_refl _);refine⟨xs, .inr ⟨_,_,rfl,by omega,h2⟩, ?_⟩;have hrel:Rel w (fun _=>none) (.vslice (xs.flatMap f) xs.length) (.slice (some a) len cap):=by
   simp only[Rel];refine⟨some a,cap,by rw[h1],by omega, ?_⟩;cases hys:ys with
   | nil=>subst hys;left;exact List.eq_nil_of_length_eq_zero (by rw[h5.length];rfl)
   | cons y yr=>
    right;have h6:=h4 0 y (by rw[hys];rfl);have hpos:0<len/\0<P.cellsOf e:=by
     rw[hys] at h3;simp only[jA] at h3;constructor
     ·rcases Nat.eq_zero_or_pos len with h0 | h0
      ·subst h0;simp at h3
      ·exact h0
     ·rcases Nat.eq_zero_or_pos (P.cellsOf e) with h0 | h0
      ·rw[h0] at h3;simp at h3
      ·exact h0
    have hsp:a.spot=none:=by
     obtain⟨cs',g1,g2⟩:=hall 0 (by omega);unfold World.cells? at g1;split at g1
     ·obtain⟨_,m2⟩:=Xt g1;obtain⟨z,_,hz⟩:=m2 0 0 (by simp [hpos.2]);(have:(a.add (0*P.cellsOf e)).add 0=a:=by simp [Addr.add]);rw[this] at hz;exact Bf3 hz
     ·cases g1
    refine⟨a.block,a.off,y::yr,by cases a;simp at hsp⊢;exact hsp, .inr ⟨rfl,hys▸h4⟩,hys▸h5⟩
  simp only[Ar];exact⟨_,_,rfl,hrel,rfl⟩
theorem Zx (N n:Nat):Ay4 N P H w [] n n Unit (λ_=> []) (λ_ ds=>ds= []):=λenc base y held Cj cs xs hl h _=>Ja n enc base y held Cj cs xs hl h
theorem Ec {N:Nat} {C:Field} {fs:List Field} {off D n:Nat} {α β:Type} {f:α->List DVal} {g:α->DataW H->Prop} {E:β->List DVal} {I:β->List (DataW H)->Prop} (h1:Ob N P H w C.type α f g) (M:C.offset=off) (O:P.cellsOf C.type=n)
  (h2:Ay4 N P H w fs (off+n) D β E I):Ay4 N P H w (C::fs) off D (α×β) (λx=>f x.1++E x.2) (λx ds=> ∃d ds',ds=d::ds'/\g x.1 d/\I x.2 ds'):=by
 intro enc base J held Cj cs xs hl h hb;rw[List.mapM_cons] at h;simp only[Option.bind_eq_bind,Option.bind_eq_some_iff,Option.pure_def,Option.some.injEq] at h;obtain⟨y,S,ys,hys,rfl⟩:=h;obtain⟨U,V,L⟩:=h1 enc base J held Cj _ y.1 y.2 S (hb y (by simp));obtain⟨W,X,Y⟩:=h2 enc base J held Cj cs ys hl hys λx hx=>hb x (by simp [hx]);refine⟨(U,W),⟨y.1,ys.map (·.1),by simp,V,X⟩, ?_⟩;rw[M,O] at L;have:cs.drop off=(cs.drop off).take n++cs.drop (off+n):=by
  rw[<-List.drop_drop,List.take_append_drop]
 rw[this];exact L.append Y
theorem Wk {N:Nat} {t:TypeId} {fs:List Field} {α:Type} {f:α->List DVal} {g:α->List (DataW H)->Prop} (C:P.underlying t=some (.struct fs.toArray)) (h:Ay4 N P H w fs 0 (P.cellsOf t) α f g):
  Ob (N+1) P H w t α f (λx d=> ∃ds,d= .agg ds/\g x ds):=by
 intro enc base D held Cj cs d ps hh E;cases Cj with
 |zero=>simp [DataW.trod] at hh
 |succ Cj=>
  unfold DataW.trod at hh;rw[C] at hh;dsimp only at hh;split at hh
  ·rename_i hl
   simp only[Option.map_eq_some_iff,Prod.mk.injEq] at hh;obtain⟨xs,hx,rfl,rfl⟩:=hh;obtain⟨x,I,J⟩:=h enc base D held Cj cs xs hl hx λy L=>by
    have:=Dk1 (l:=xs.map (·.1)) (List.mem_map.2 ⟨y,L,rfl⟩);rw[Rows.uptoBulk] at E;omega
   exact⟨x,⟨_,rfl,I⟩,by simpa using J⟩
  ·cases hh
theorem Ob.map {N:Nat} {t:TypeId} {α β:Type} {f:α->List DVal} {g:α->DataW H->Prop} (h:Ob N P H w t α f g) {C:β->List DVal} {D:β->DataW H->Prop} (c: ∀x d,g x d-> ∃y,C y=f x/\D y d):Ob N P H w t β C D:=by
 intro enc base E held Cj cs d ps hh hb;obtain⟨x,I,J⟩:=h enc base E held Cj cs d ps hh hb;obtain⟨y,e,L⟩:=c x d I;exact⟨y,L,by rw[e];exact J⟩
end
section
variable {H:Type} {w:World}
def GE (e:Ex) (d:DataW H):Prop:=Ej e<=Rows.uptoBulk d/\okE e
def GA (a:As) (d:DataW H):Prop:=Us a<=Rows.uptoBulk d/\okA a
def GC (c:Ch) (d:DataW H):Prop:=Ak5 c<=Rows.uptoBulk d/\okC c
theorem Go6: ∀ {l:List Ex} {y:List (DataW H)},Ay3 GE l y->He l<=Rows.uptoBulkAll y/\okL l
 | [],[],_=>⟨Nat.le_refl _,trivial⟩
 | [],_::_,h=>h.elim
 |_::_,[],h=>h.elim
 |x::l,d::y,h=>by
  obtain⟨a,b⟩:=Go6 h.2;have:=h.1.1;rw[He,Rows.uptoBulkAll,okL];exact⟨by omega,h.1.2,b⟩
theorem Go7: ∀ {l:List As} {y:List (DataW H)},Ay3 GA l y->El l<=Rows.uptoBulkAll y/\Mu l
 | [],[],_=>⟨Nat.le_refl _,trivial⟩
 | [],_::_,h=>h.elim
 |_::_,[],h=>h.elim
 |x::l,d::y,h=>by
  obtain⟨a,b⟩:=Go7 h.2;have:=h.1.1;rw[El,Rows.uptoBulkAll,Mu];exact⟨by omega,h.1.2,b⟩
theorem Go8: ∀ {l:List Ch} {y:List (DataW H)},Ay3 GC l y->Gq l<=Rows.uptoBulkAll y/\Ts l
 | [],[],_=>⟨Nat.le_refl _,trivial⟩
 | [],_::_,h=>h.elim
 |_::_,[],h=>h.elim
 |x::l,d::y,h=>by
  obtain⟨a,b⟩:=Go8 h.2;have:=h.1.1;rw[Gq,Rows.uptoBulkAll,Ts];exact⟨by omega,h.1.2,b⟩
theorem Hh0 {l:List Ex} {d:DataW H} (h:SlG GE l d):He l+1<=Rows.uptoBulk d/\okL l:=by
 rcases h with⟨rfl,rfl⟩|⟨es,y,rfl,_,h⟩
 ·exact⟨by simp [He,Rows.uptoBulk],trivial⟩
 ·have:=Go6 h;exact⟨by rw[Rows.uptoBulk];omega,this.2⟩
theorem Hj8 {l:List As} {d:DataW H} (h:SlG GA l d):El l+1<=Rows.uptoBulk d/\Mu l:=by
 rcases h with⟨rfl,rfl⟩|⟨es,y,rfl,_,h⟩
 ·exact⟨by simp [El,Rows.uptoBulk],trivial⟩
 ·have:=Go7 h;exact⟨by rw[Rows.uptoBulk];omega,this.2⟩
theorem Hb0 {l:List Ch} {d:DataW H} (h:SlG GC l d):Gq l+1<=Rows.uptoBulk d/\Ts l:=by
 rcases h with⟨rfl,rfl⟩|⟨es,y,rfl,_,h⟩
 ·exact⟨by simp [Gq,Rows.uptoBulk],trivial⟩
 ·have:=Go8 h;exact⟨by rw[Rows.uptoBulk];omega,this.2⟩
theorem Ck4 {N:Nat} (he:Ob N Tryz.prog H w 27 Ex dEx GE):Ob N Tryz.prog H w 47 Ch dCh GC:=by
 have h:=Wk (N:=N) (H:=H) (w:=w) Tryz.underlying47 (Ec (n:=1) ((Jt Tryz.underlying45).n N) rfl (by kernel_rfl) (Ec (n:=1) (Su Tryz.underlying24 he) rfl (by kernel_rfl) (by
   rw[show Tryz.prog.cellsOf 47=0+1+1 by kernel_rfl];exact Zx _ _)))
 refine(h.less (Nat.le_succ N)).map λx d hg=>⟨.mk x.1 x.2.1, ?_, ?_⟩
 ·rw[An9];rfl
 ·obtain⟨ds,rfl,C,D,rfl,E,I,J,rfl,y,_⟩:=hg;have:=Hh0 y;exact⟨by rw[Ak5,Rows.uptoBulk,Rows.uptoBulkAll,Rows.uptoBulkAll];omega,by rw[okC];exact this.2⟩
theorem Ex9 {N:Nat} (he:Ob N Tryz.prog H w 27 Ex dEx GE):Ob N Tryz.prog H w 44 As dAs GA:=by
 have h:=Wk (N:=N) (H:=H) (w:=w) Tryz.underlying44 (Ec (n:=1) (Su Tryz.underlying41 (Ck4 he)) rfl (by kernel_rfl) (Ec (n:=9) he rfl (by kernel_rfl) (by
   rw[show Tryz.prog.cellsOf 44=0+1+9 by kernel_rfl];exact Zx _ _)))
 refine(h.less (Nat.le_succ N)).map λx d hg=>⟨.mk x.1 x.2.1, ?_, ?_⟩
 ·rw[Gi1];simp
 ·obtain⟨ds,rfl,D,E,rfl,y,I,J,rfl,C,_⟩:=hg;have:=Hb0 y;have:=C.1;exact⟨by rw[Us,Rows.uptoBulk,Rows.uptoBulkAll,Rows.uptoBulkAll];omega,by rw[okA];exact⟨(Hb0 y).2,C.2⟩⟩
theorem Bf4: ∀N,Ob N Tryz.prog H w 27 Ex dEx GE
 | 0=>λenc base E held Cj cs d ps _ hb=>by have:=Dj9 d;omega
 |N+1=>by
  have he:=Bf4 N;have h:=Wk (N:=N) (H:=H) (w:=w) Tryz.underlying27 (Ec (n:=1) ((Jt Tryz.underlying22).n N) rfl (by kernel_rfl) (Ec (n:=1) ((Jt Tryz.underlying23).n N) rfl (by kernel_rfl)
   (Ec (n:=1) ((Jt Tryz.underlying2).n N) rfl (by kernel_rfl) (Ec (n:=1) ((Ss Tryz.underlying9).n N) rfl (by kernel_rfl)
   (Ec (n:=1) (Su Tryz.underlying24 he) rfl (by kernel_rfl) (Ec (n:=1) (Su Tryz.underlying25 (Ex9 he)) rfl (by kernel_rfl)
   (Ec (n:=1) ((Jt Tryz.underlying3).n N) rfl (by kernel_rfl) (Ec (n:=1) ((Jt Tryz.underlying3).n N) rfl (by kernel_rfl) (Ec (n:=1) ((Jt Tryz.underlying3).n N) rfl (by kernel_rfl) (by
   rw[show Tryz.prog.cellsOf 27=0+1+1+1+1+1+1+1+1+1 by kernel_rfl];exact Zx _ _))))))))))
  refine h.map λx d hg=>⟨.mk x.1 x.2.1 x.2.2.1 x.2.2.2.1 x.2.2.2.2.1 x.2.2.2.2.2.1 x.2.2.2.2.2.2.1 x.2.2.2.2.2.2.2.1 x.2.2.2.2.2.2.2.2.1, ?_, ?_⟩
  ·rw[Ys];rfl
  ·obtain⟨ds,rfl,I,J,rfl,L,M,O,rfl,S,U,V,rfl,W,X,Y,rfl,y,Z,aa,rfl,C,d5,ab,rfl,D,_⟩:=hg;have h4:=Hh0 C;have h5:=Hj8 D;have h3:=y.1;unfold maxLen at h3;exact⟨by rw[Ej,Rows.uptoBulk];simp only[Rows.uptoBulkAll];omega,by rw[okE];exact⟨h3,h4.2,h5.2⟩⟩
theorem Jc:Js Tryz.prog H w 27 Ex dEx GE:=Ck3 Bf4
theorem Ey0:Js Tryz.prog H w 41 (List Ch) (λl=> [dCl l]) (SlG GC):=Oy Tryz.underlying41 (Ck3 λN=>Ck4 (Bf4 N))
end
section
variable {H:Type} {w:World}
theorem Ck5 {α:Type} {g:α->DataW H->Prop} {p:α->Prop} (hp: ∀x d,g x d->p x): ∀ {xs:List α} {C:List (DataW H)},Ay3 g xs C-> ∀x∈xs,p x
 | [],_,_,x,hx=>by cases hx
 |_::_,[],h,_,_=>h.elim
 |y::xs,d::C,h,x,hx=>by
  rcases List.mem_cons.1 hx with rfl|hx
  ·exact hp _ _ h.1
  ·exact Ck5 hp h.2 x hx
theorem Fv6 {α:Type} {g:α->DataW H->Prop} {p:α->Prop} (hp: ∀x d,g x d->p x) {xs:List α} {d:DataW H} (h:SlG g xs d): ∀x∈xs,p x:=by
 rcases h with⟨rfl,rfl⟩|⟨es,y,rfl,_,h⟩
 ·intro x hx;cases hx
 ·exact Ck5 hp h
theorem GE.fit {e:Ex} {d:DataW H} {n:Nat} (h:GE e d) (y:Rows.uptoBulk d<=n):Cp n e:=⟨Nat.le_trans h.1 y,h.2⟩
theorem Eh8 {α:Type} {f:Nat->α->Prop} {l:List α} {d:DataW H} {n:Nat} (hf: ∀(n m:Nat) (x:α),f n x->n<=m->f m x) (h:SlG (λx d=>f (Rows.uptoBulk d) x) l d) (D:Rows.uptoBulk d<=n):Ei f n l:=by
 have hl:=Eh7 h;refine⟨by omega,λx hx=> ?_⟩;rcases h with⟨rfl,rfl⟩|⟨es,E,rfl,_,h⟩
 ·cases hx
 ·have key: ∀ {l:List α} {es:List (DataW H)},Ay3 (λx d=>f (Rows.uptoBulk d) x) l es-> ∀x∈l,f (Rows.uptoBulkAll es) x:=by
   intro l
   induction l with
   |nil=>intro es _ x hx;cases hx
   |cons y l ih=>
    intro es C x hx;cases es with
    |nil=>exact C.elim
    |cons e es=>
     rcases List.mem_cons.1 hx with rfl|hx
     ·exact hf _ _ _ C.1 (by rw[Rows.uptoBulkAll];omega)
     ·exact hf _ _ _ (ih C.2 x hx) (by rw[Rows.uptoBulkAll];omega)
  exact hf _ _ _ (key h x hx) (by rw[Rows.uptoBulk] at D;omega)
theorem Ah5:Js Tryz.prog H w 54 (List (List UInt8)) (λl=> [dW l]) (λl d=>Aa4 (Rows.uptoBulk d) l):=by
 have h:=Oy (H:=H) (w:=w) Tryz.underlying54 (Ss Tryz.underlying9);refine h.map λx d hg=>⟨x, ?_, ?_⟩
 ·have e: ∀l:List (List UInt8),l.map DVal.str=l.flatMap λs=> [DVal.str s]:=λl=>by induction l<;>simp_all
  simp [dW,e]
 ·have hl:=Eh7 hg;refine⟨by omega,λs hs=> ?_⟩;exact Fv6 (p:=λs:List UInt8=>s.length<=9223372036854775807) (λs d h=>by have:=h.1;unfold maxLen at this;exact this) hg s hs
theorem Bf5:Js Tryz.prog H w 56 Ind Db (λs d=>Sa (Rows.uptoBulk d) s):=by
 have h:=Jb (H:=H) (w:=w) Tryz.underlying56 (Ao (n:=9) Jc rfl (by kernel_rfl) (Ao (n:=9) Jc rfl (by kernel_rfl) (Ao (n:=9) Jc rfl (by kernel_rfl) (Ao (n:=9) Jc rfl (by kernel_rfl) (by
   rw[show Tryz.prog.cellsOf 56=0+9+9+9+9 by kernel_rfl];exact Ja _)))))
 refine h.map λx d hg=>⟨⟨x.1,x.2.1,x.2.2.1,x.2.2.2.1⟩,by simp [Db], ?_⟩;obtain⟨ds,rfl,I,J,rfl,y,L,M,rfl,C,O,S,rfl,D,U,V,rfl,E,_⟩:=hg;exact⟨y.fit (by rw[Rows.uptoBulk];simp only[Rows.uptoBulkAll];omega),C.fit (by rw[Rows.uptoBulk];simp only[Rows.uptoBulkAll];omega),D.fit (by rw[Rows.uptoBulk];simp only[Rows.uptoBulkAll];omega),E.fit (by rw[Rows.uptoBulk];simp only[Rows.uptoBulkAll];omega)⟩
theorem Ck6:Js Tryz.prog H w 58 Dis Du (λs d=>Ud (Rows.uptoBulk d) s):=by
 have h:=Jb (H:=H) (w:=w) Tryz.underlying58 (Ao (n:=9) Jc rfl (by kernel_rfl) (Ao (n:=9) Jc rfl (by kernel_rfl) (Ao (n:=9) Jc rfl (by kernel_rfl) (by
   rw[show Tryz.prog.cellsOf 58=0+9+9+9 by kernel_rfl];exact Ja _))))
 refine h.map λx d hg=>⟨⟨x.1,x.2.1,x.2.2.1⟩,by simp [Du], ?_⟩;obtain⟨ds,rfl,E,I,rfl,y,J,L,rfl,C,M,O,rfl,D,_⟩:=hg;exact⟨y.fit (by rw[Rows.uptoBulk];simp only[Rows.uptoBulkAll];omega),C.fit (by rw[Rows.uptoBulk];simp only[Rows.uptoBulkAll];omega),D.fit (by rw[Rows.uptoBulk];simp only[Rows.uptoBulkAll];omega)⟩
theorem Ey1:Js Tryz.prog H w 136 Par Gw (λs d=>Nk (Rows.uptoBulk d) s):=by
 have h:=Jb (H:=H) (w:=w) Tryz.underlying136 (Ao (n:=1) Ah5 rfl (by kernel_rfl) (Ao (n:=1) (Jt Tryz.underlying134) rfl (by kernel_rfl) (Ao (n:=9) Jc rfl (by kernel_rfl) (Ao (n:=9) Jc rfl (by kernel_rfl) (Ao (n:=1) (Jt Tryz.underlying3) rfl (by kernel_rfl) (by
   rw[show Tryz.prog.cellsOf 136=0+1+1+9+9+1 by kernel_rfl];exact Ja _))))))
 refine h.map λx d hg=>⟨⟨x.1,x.2.1,x.2.2.1,x.2.2.2.1,x.2.2.2.2.1⟩,by simp [Gw], ?_⟩;obtain⟨ds,rfl,E,I,rfl,y,J,L,rfl,M,O,S,rfl,C,U,V,rfl,D,W,X,rfl,Y,_⟩:=hg;exact⟨y.up (by rw[Rows.uptoBulk];simp only[Rows.uptoBulkAll];omega),C.fit (by rw[Rows.uptoBulk];simp only[Rows.uptoBulkAll];omega),D.fit (by rw[Rows.uptoBulk];simp only[Rows.uptoBulkAll];omega)⟩
theorem Ey2:Js Tryz.prog H w 187 Asp Ip (λs d=>Ue (Rows.uptoBulk d) s):=by
 have h:=Jb (H:=H) (w:=w) Tryz.underlying187 (Ao (n:=1) (Ss Tryz.underlying9) rfl (by kernel_rfl) (Ao (n:=9) Jc rfl (by kernel_rfl) (by
   rw[show Tryz.prog.cellsOf 187=0+1+9 by kernel_rfl];exact Ja _)))
 refine h.map λx d hg=>⟨⟨x.1,x.2.1⟩,by simp [Ip], ?_⟩;obtain⟨ds,rfl,D,E,rfl,y,I,J,rfl,C,_⟩:=hg;have h0:=y.1;unfold maxLen at h0;exact⟨h0,C.fit (by rw[Rows.uptoBulk];simp only[Rows.uptoBulkAll];omega)⟩
theorem Ey3:Js Tryz.prog H w 202 Cmp Ih (λs d=>Ka (Rows.uptoBulk d) s):=by
 have h:=Jb (H:=H) (w:=w) Tryz.underlying202 (Ao (n:=1) Ah5 rfl (by kernel_rfl) (Ao (n:=36) Bf5 rfl (by kernel_rfl) (Ao (n:=9) Jc rfl (by kernel_rfl) (Ao (n:=1) (Jt Tryz.underlying3) rfl (by kernel_rfl) (by
   rw[show Tryz.prog.cellsOf 202=0+1+36+9+1 by kernel_rfl];exact Ja _)))))
 refine h.map λx d hg=>⟨⟨x.1,x.2.1,x.2.2.1,x.2.2.2.1⟩,by simp [Ih], ?_⟩;obtain⟨ds,rfl,E,I,rfl,y,J,L,rfl,C,M,O,rfl,D,S,U,rfl,V,_⟩:=hg;exact⟨y.up (by rw[Rows.uptoBulk];simp only[Rows.uptoBulkAll];omega),C.up (by rw[Rows.uptoBulk];simp only[Rows.uptoBulkAll];omega),D.fit (by rw[Rows.uptoBulk];simp only[Rows.uptoBulkAll];omega)⟩
theorem Dz2:Js Tryz.prog H w 72 (List Par) (λl=> [Gh l]) (λl d=>Ei Nk (Rows.uptoBulk d) l):=
 (Oy Tryz.underlying72 Ey1).map λx d hg=>⟨x,rfl,Eh8 (λ_ _ _=>Nk.up) hg (Nat.le_refl _)⟩
theorem Dz3:Js Tryz.prog H w 85 (List Asp) (λl=> [Ib l]) (λl d=>Ei Ue (Rows.uptoBulk d) l):=
 (Oy Tryz.underlying85 Ey2).map λx d hg=>⟨x,rfl,Eh8 (λ_ _ _=>Ue.up) hg (Nat.le_refl _)⟩
theorem Aq8:Js Tryz.prog H w 59 (List Cmp) (λl=> [Ci l]) (λl d=>Ei Ka (Rows.uptoBulk d) l):=
 (Oy Tryz.underlying59 Ey3).map λx d hg=>⟨x,rfl,Eh8 (λ_ _ _=>Ka.up) hg (Nat.le_refl _)⟩
theorem Ey4:Js Tryz.prog H w 164 Arm Kk (λs d=>Aa5 (Rows.uptoBulk d) s):=by
 have h:=Jb (H:=H) (w:=w) Tryz.underlying164 (Ao (n:=1) Ey0 rfl (by kernel_rfl) (Ao (n:=1) Aq8 rfl (by kernel_rfl) (by
   rw[show Tryz.prog.cellsOf 164=0+1+1 by kernel_rfl];exact Ja _)))
 refine h.map λx d hg=>⟨⟨x.1,x.2.1⟩,by simp [Kk], ?_⟩;obtain⟨ds,rfl,D,E,rfl,y,I,J,rfl,C,_⟩:=hg;have h0:=Hb0 y;exact⟨⟨by rw[Rows.uptoBulk];simp only[Rows.uptoBulkAll];omega,h0.2⟩,C.up (λ_ _ _=>Ka.up) (by rw[Rows.uptoBulk];simp only[Rows.uptoBulkAll];omega)⟩
theorem Dz4:Js Tryz.prog H w 60 (List Arm) (λl=> [Ep l]) (λl d=>Ei Aa5 (Rows.uptoBulk d) l):=
 (Oy Tryz.underlying60 Ey4).map λx d hg=>⟨x,rfl,Eh8 (λ_ _ _=>Aa5.up) hg (Nat.le_refl _)⟩
theorem Ey5:Js Tryz.prog H w 62 Typ Cf (λs d=>Lb (Rows.uptoBulk d) s):=by
 have h:=Jb (H:=H) (w:=w) Tryz.underlying62 (Ao (n:=1) (Jt Tryz.underlying53) rfl (by kernel_rfl) (Ao (n:=1) Ah5 rfl (by kernel_rfl) (Ao (n:=9) Jc rfl (by kernel_rfl) (Ao (n:=9) Jc rfl (by kernel_rfl)
   (Ao (n:=36) Bf5 rfl (by kernel_rfl) (Ao (n:=27) Ck6 rfl (by kernel_rfl) (Ao (n:=1) Aq8 rfl (by kernel_rfl) (Ao (n:=1) (Ss Tryz.underlying9) rfl (by kernel_rfl)
   (Ao (n:=1) Dz4 rfl (by kernel_rfl) (Ao (n:=1) (Dz0 Tryz.underlying4) rfl (by kernel_rfl) (by
   rw[show Tryz.prog.cellsOf 62=0+1+1+9+9+36+27+1+1+1+1 by kernel_rfl];exact Ja _)))))))))))
 refine h.map λx d hg=>⟨⟨x.1,x.2.1,x.2.2.1,x.2.2.2.1,x.2.2.2.2.1,x.2.2.2.2.2.1,x.2.2.2.2.2.2.1,x.2.2.2.2.2.2.2.1,x.2.2.2.2.2.2.2.2.1,x.2.2.2.2.2.2.2.2.2.1⟩,by simp [Cf], ?_⟩;obtain⟨ds,rfl,y,aa,rfl,V,C,ab,rfl,W,D,ac,rfl,X,E,ad,rfl,Y,I,ae,rfl,Z,J,af,rfl,g5,L,ag,rfl,g6,M,ah,rfl,g7,O,ai,rfl,g8,S,U,rfl,g9,_⟩:=hg;have hk:=Ha8 V.1;have h7:=g7.1;unfold maxLen at h7;have hb:Rows.uptoBulk (DataW.agg (y::C::D::E::I::J::L::M::O::S::U))=1+(Rows.uptoBulk y+(Rows.uptoBulk C+(Rows.uptoBulk D+(Rows.uptoBulk E+(Rows.uptoBulk I+(Rows.uptoBulk J+(Rows.uptoBulk L+(Rows.uptoBulk M+(Rows.uptoBulk O+(Rows.uptoBulk S+Rows.uptoBulkAll U)))))))))):=by
  rw[Rows.uptoBulk];simp only[Rows.uptoBulkAll];omega
 exact⟨W.up (by omega),X.fit (by omega),Y.fit (by omega),Z.up (by omega),g5.up (by omega),g6.up (λ_ _ _=>Ka.up) (by omega),⟨h7,hk.1,hk.2⟩,g8.up (λ_ _ _=>Aa5.up) (by omega)⟩
theorem Ey6:Js Tryz.prog H w 87 Fms Zd (λs d=>Ef5 (Rows.uptoBulk d) s):=by
 have h:=Jb (H:=H) (w:=w) Tryz.underlying87 (Ao (n:=9) Jc rfl (by kernel_rfl) (Ao (n:=36) Bf5 rfl (by kernel_rfl) (Ao (n:=27) Ck6 rfl (by kernel_rfl) (Ao (n:=1) Dz2 rfl (by kernel_rfl)
   (Ao (n:=1) Dz3 rfl (by kernel_rfl) (Ao (n:=1) Aq8 rfl (by kernel_rfl) (Ao (n:=87) Ey5 rfl (by kernel_rfl) (by
   rw[show Tryz.prog.cellsOf 87=0+9+36+27+1+1+1+87 by kernel_rfl];exact Ja _))))))))
 refine h.map λx d hg=>⟨⟨x.1,x.2.1,x.2.2.1,x.2.2.2.1,x.2.2.2.2.1,x.2.2.2.2.2.1,x.2.2.2.2.2.2.1⟩,by simp [Zd], ?_⟩;obtain⟨ds,rfl,y,Z,rfl,O,C,aa,rfl,S,D,ab,rfl,U,E,ac,rfl,V,I,ad,rfl,W,J,ae,rfl,X,L,M,rfl,Y,_⟩:=hg;have hb:Rows.uptoBulk (DataW.agg (y::C::D::E::I::J::L::M))=1+(Rows.uptoBulk y+(Rows.uptoBulk C+(Rows.uptoBulk D+(Rows.uptoBulk E+(Rows.uptoBulk I+(Rows.uptoBulk J+(Rows.uptoBulk L+Rows.uptoBulkAll M))))))):=by
  rw[Rows.uptoBulk];simp only[Rows.uptoBulkAll];omega
 exact⟨O.fit (by omega),S.up (by omega),U.up (by omega),V.up (λ_ _ _=>Nk.up) (by omega),W.up (λ_ _ _=>Ue.up) (by omega),X.up (λ_ _ _=>Ka.up) (by omega),Y.up (by omega)⟩
end
end Go.Dl
