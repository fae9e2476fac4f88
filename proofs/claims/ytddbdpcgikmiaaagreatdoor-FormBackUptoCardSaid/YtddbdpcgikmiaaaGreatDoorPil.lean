/- The data level and the contracts of the functions that are reached (part 12). -/
import Derived.Test.YtddbdpcgikmiaaaGreatDoorPik
set_option linter.unusedSimpArgs false
set_option linter.unusedVariables false
set_option linter.unusedSectionVars false
set_option maxHeartbeats 400000000
-- Cn
namespace Go.Dl
open Go Go.Proofs
set_option maxRecDepth 100000
section
variable (G:Nat->DVal) (H:Ab)
theorem Di6 (s:Ind) (hs:Sa 16777216 s):Ad Tryz.prog G 154 [.agg (Db s)] H (Am (.bool (Rg s)) H):=by
 obtain⟨E,I,J,L⟩:=hs;refine dci Tryz.func154 Tryz.call154 ?_;simp only[go_sem,DVal.cells];intro M O;obtain⟨K,D⟩: ∃K',K'=upd H M (some (.cells (Db s) 56)):=⟨_,rfl⟩;rw[<-D];have y:=D.symm▸Aa _ _ _;have C:=D.symm▸(Sub.refl _).new O _;simp only[go_sem,y,Au,Aw2];refine Ad.monoR (Df G K s.name E) ?_;cases h1:noE s.name
 ·simp only[go_sem];exact Dj.sub C (.refl ⟨by simp [Rg, *],rfl⟩)
 simp only[go_sem,y,Au,Aw3];refine Ad.monoR (Df G K s.lo I) ?_;cases h2:noE s.lo
 ·simp only[go_sem];exact Dj.sub C (.refl ⟨by simp [Rg, *],rfl⟩)
 simp only[go_sem,y,Au,Bi9];refine Ad.monoR (Df G K s.hi J) ?_;cases h3:noE s.hi
 ·simp only[go_sem];exact Dj.sub C (.refl ⟨by simp [Rg, *],rfl⟩)
 simp only[go_sem,y,Au,Al4];refine Ad.monoR (Df G K s.value L) ?_;simp only[go_sem];exact Dj.sub C (.refl ⟨by simp [Rg, *],rfl⟩)
theorem Di7 (d:Dis) (E:Ud 16777216 d):Ad Tryz.prog G 155 [.agg (Du d)] H (Am (.bool (Rh d)) H):=by
 obtain⟨I,J,L⟩:=E;refine dci Tryz.func155 Tryz.call155 ?_;simp only[go_sem,DVal.cells];intro M O;obtain⟨K,y⟩: ∃K',K'=upd H M (some (.cells (Du d) 58)):=⟨_,rfl⟩;rw[<-y];have C:=y.symm▸Aa _ _ _;have D:=y.symm▸(Sub.refl _).new O _;simp only[go_sem,C,Bd,Vr];refine Ad.monoR (Df G K d.name I) ?_;cases h1:noE d.name
 ·simp only[go_sem];exact Dj.sub D (.refl ⟨by simp [Rh, *],rfl⟩)
 simp only[go_sem,C,Bd,Al5];refine Ad.monoR (Df G K d.lo J) ?_;cases h2:noE d.lo
 ·simp only[go_sem];exact Dj.sub D (.refl ⟨by simp [Rh, *],rfl⟩)
 simp only[go_sem,C,Bd,Aw4];refine Ad.monoR (Df G K d.hi L) ?_;simp only[go_sem];exact Dj.sub D (.refl ⟨by simp [Rh, *],rfl⟩)
theorem Ct9 (t:Typ) (ht:Lb 16777216 t):Ad Tryz.prog G 156 [.agg (Cf t)] H (Am (.bool (Gs t)) H):=by
 obtain⟨f0,f1,f2,f3,f4,f5,f6,f7⟩:=ht;refine dci Tryz.func156 Tryz.call156 ?_;simp only[go_sem,DVal.cells];intro r1 ah;obtain⟨K,hK⟩: ∃K',K'=upd H r1 (some (.cells (Cf t) 62)):=⟨_,rfl⟩;rw[<-hK];have y:=hK.symm▸Aa _ _ _;have C:=hK.symm▸(Sub.refl _).new ah _;simp only[go_sem,y];refine Ad.monoR (Ns G K t.comps f5) ?_;cases h1:t.comps.all En
 ·simp(disch:=omega)only[go_sem];exact Dj.sub C (.refl ⟨by simp [Gs,h1],rfl⟩)
 have J: ¬((Cr t.comps:Nat):Int)<0:=by omega
 by_cases hv:t.var= []
 ·by_cases ha:t.arms.length=0
  ·(have E:(t.arms.length:Int)=0:=by omega);(have M:Gs t=(t.arms.all Eu&&decide (Cr t.comps+Lu t.arms<=32)):=by simp [Gs,h1,hv,ha]);simp(disch:=omega)only[go_sem,y,Ep,J,hv,E,xtt];have ai:=Rj f5;(have aa:t.arms.length<=16:=by omega);obtain⟨I,O⟩: ∃I:Nat->(Nat->DVal)->Ab->Prop,∀k env heap,I k env heap↔(env 1= .optr r1 0/\env 3=dI (Jh t k:Nat)/\env 4=dI k/\k<=t.arms.length/\Jh t k<=(k+1)*281474976710656/\(∀x∈t.arms.take k,Eu x=true)/\heap=K):=⟨_,λ_ _ _=>Iff.rfl⟩;refine Ea9.run I (λk=>t.arms.length-k) 0 ((O _ _ _).2 ?_) ?_
   ·simp only[go_sem,Cr4];simp;try omega
   ·(try clear E);(try clear ha);intro k env heap hi;obtain⟨e1,X,L,hk,hs,hp,rfl⟩:=(O _ _ _).1 hi;have hfl:=Ak Fa t.arms;by_cases D:k<t.arms.length
    ·(have Y:(k:Int)<(t.arms.length:Int):=by omega);(have ab:IntKind.i64.wrap ((k:Int)+1)=((k+1:Nat):Int):=by rw[IntKind.wrap_i64];omega);have mx:=List.getElem_mem D;have hst:Eu t.arms[k]=true-> ∀x∈t.arms.take (k+1),Eu x=true:=Qf D hp;(have Z:Jh t (k+1)=Jh t k+Cr t.arms[k].comps:=by rw[Jh,Zh D,Jh];omega);have S:=Bz Fa t.arms k D 0 (by decide);rw[Ci5] at S;have U:=S;rw[Nat.add_zero] at U;have V:=Bz Fa t.arms k D 1 (by decide);rw[Ci6] at V;obtain⟨x,hx⟩: ∃x,x=t.arms[k]:=⟨_,rfl⟩;rw[<-hx] at S U V mx hst Z;have W:=f7.2 x mx;have fn:=Rj W.2;have fc:=W.1.1;have ac:IntKind.i64.wrap ((Jh t k:Nat)+(Cr x.comps:Int))=((Jh t (k+1):Nat):Int):=by
      rw[Z,IntKind.wrap_i64];omega
     simp(disch:=omega)only[go_sem,y,e1,L,Ep,Y,hfl,jD,V];refine Ad.monoR (Ns G _ x.comps W.2) ?_;cases h3:x.comps.all En
     ·simp(disch:=omega)only[go_sem];exact Dj.sub C (.refl ⟨by rw[M,Hz mx (by simp [Eu,h3])];rfl,rfl⟩)
     (have J: ¬((Cr x.comps:Nat):Int)<0:=by omega);simp(disch:=omega)only[go_sem,y,e1,L,Ep,Y,hfl,jD,U,J];refine Ad.monoR (Wy G _ x.c (by omega)) ?_;cases h4:Ia x.c
     ·simp only[go_sem];exact Dj.sub C (.refl ⟨by rw[M,Hz mx (by simp [Eu,h4])];rfl,rfl⟩)
     simp only[go_sem,X,L,ac];refine⟨k+1,_,Rn.refl _,(O _ _ _).2 ?_,by omega⟩;simp only[go_sem,e1,ab];(repeat' apply And.intro)<;>(try first|rfl|assumption|omega);exact hst (by simp [Eu,h3,h4])
    ·(have:k=t.arms.length:=by omega);subst this;have ad:=Uh hp;(have hN:Jh t t.arms.length=Cr t.comps+Lu t.arms:=by rw[Jh,List.take_length]);(have ae: ¬(t.arms.length:Int)<(t.arms.length:Int):=by omega);simp only[go_sem,y,e1,X,L,Ep,ae];exact Dj.sub C (.refl ⟨by rw[M,ad,hN,jS];congr 2;simp;omega,rfl⟩)
  ·(have E: ¬(t.arms.length:Int)=0:=by omega);simp only[go_sem,y,Ep,J,hv,E,xtf];have af: ¬t.arms= []:=λe=>ha (by rw[e];rfl);exact Dj.sub C (.refl ⟨by simp [Gs,h1,hv,af],rfl⟩)
 ·by_cases ha:t.arms.length=0
  ·(have E:(t.arms.length:Int)=0:=by omega);simp only[go_sem,y,Ep,J,hv,E,xft];exact Dj.sub C (.refl ⟨by simp [Gs,h1,hv,ha],rfl⟩)
  ·(have E: ¬(t.arms.length:Int)=0:=by omega);by_cases h2:16<t.arms.length
   ·(have ag:(16:Int)<(t.arms.length:Int):=by omega);simp only[go_sem,y,Ep,J,hv,E,ag,xff];exact Dj.sub C (.refl ⟨by simp [Gs,h1];omega,rfl⟩)
   (have ag: ¬(16:Int)<(t.arms.length:Int):=by omega);simp only[go_sem,y,Ep,J,hv,E,ag,xff];refine Ad.monoR (Qb G K t.var) ?_;cases h3:Iv t.var
   ·simp only[go_sem];exact Dj.sub C (.refl ⟨by simp [Gs,hv,h3],rfl⟩)
   ·have M:Gs t=(t.arms.all Eu&&decide (Cr t.comps+Lu t.arms<=32)):=by
     (have aa:t.arms.length<=16:=by omega);have af: ¬t.arms= []:=λe=>ha (by rw[e];rfl);simp [Gs,h1,hv,af,h3,aa]
    simp only[go_sem];have ai:=Rj f5;(have aa:t.arms.length<=16:=by omega);obtain⟨I,O⟩: ∃I:Nat->(Nat->DVal)->Ab->Prop,∀k env heap,I k env heap↔(env 1= .optr r1 0/\env 3=dI (Jh t k:Nat)/\env 4=dI k/\k<=t.arms.length/\Jh t k<=(k+1)*281474976710656/\(∀x∈t.arms.take k,Eu x=true)/\heap=K):=⟨_,λ_ _ _=>Iff.rfl⟩;refine Ea9.run I (λk=>t.arms.length-k) 0 ((O _ _ _).2 ?_) ?_
    ·simp only[go_sem,Cr4];simp;try omega
    ·(try clear E);(try clear ha);intro k env heap hi;obtain⟨e1,X,L,hk,hs,hp,rfl⟩:=(O _ _ _).1 hi;have hfl:=Ak Fa t.arms;by_cases D:k<t.arms.length
     ·(have Y:(k:Int)<(t.arms.length:Int):=by omega);(have ab:IntKind.i64.wrap ((k:Int)+1)=((k+1:Nat):Int):=by rw[IntKind.wrap_i64];omega);have mx:=List.getElem_mem D;have hst:Eu t.arms[k]=true-> ∀x∈t.arms.take (k+1),Eu x=true:=Qf D hp;(have Z:Jh t (k+1)=Jh t k+Cr t.arms[k].comps:=by rw[Jh,Zh D,Jh];omega);have S:=Bz Fa t.arms k D 0 (by decide);rw[Ci5] at S;have U:=S;rw[Nat.add_zero] at U;have V:=Bz Fa t.arms k D 1 (by decide);rw[Ci6] at V;obtain⟨x,hx⟩: ∃x,x=t.arms[k]:=⟨_,rfl⟩;rw[<-hx] at S U V mx hst Z;have W:=f7.2 x mx;have fn:=Rj W.2;have fc:=W.1.1;have ac:IntKind.i64.wrap ((Jh t k:Nat)+(Cr x.comps:Int))=((Jh t (k+1):Nat):Int):=by
       rw[Z,IntKind.wrap_i64];omega
      simp(disch:=omega)only[go_sem,y,e1,L,Ep,Y,hfl,jD,V];refine Ad.monoR (Ns G _ x.comps W.2) ?_;cases h3:x.comps.all En
      ·simp(disch:=omega)only[go_sem];exact Dj.sub C (.refl ⟨by rw[M,Hz mx (by simp [Eu,h3])];rfl,rfl⟩)
      (have J: ¬((Cr x.comps:Nat):Int)<0:=by omega);simp(disch:=omega)only[go_sem,y,e1,L,Ep,Y,hfl,jD,U,J];refine Ad.monoR (Wy G _ x.c (by omega)) ?_;cases h4:Ia x.c
      ·simp only[go_sem];exact Dj.sub C (.refl ⟨by rw[M,Hz mx (by simp [Eu,h4])];rfl,rfl⟩)
      simp only[go_sem,X,L,ac];refine⟨k+1,_,Rn.refl _,(O _ _ _).2 ?_,by omega⟩;simp only[go_sem,e1,ab];(repeat' apply And.intro)<;>(try first|rfl|assumption|omega);exact hst (by simp [Eu,h3,h4])
     ·(have:k=t.arms.length:=by omega);subst this;have ad:=Uh hp;(have hN:Jh t t.arms.length=Cr t.comps+Lu t.arms:=by rw[Jh,List.take_length]);(have ae: ¬(t.arms.length:Int)<(t.arms.length:Int):=by omega);simp only[go_sem,y,e1,X,L,Ep,ae];exact Dj.sub C (.refl ⟨by rw[M,ad,hN,jS];congr 2;simp;omega,rfl⟩)
theorem Ax8 (t:Typ) (J:Lb 16777216 t):Ad Tryz.prog G 48 [.agg (Cf t)] H (Am (.bool (Dn t)) H):=by
 have L:=J;obtain⟨M,C,D,E,I,S,U,V⟩:=J;refine dci Tryz.func48 Tryz.call48 ?_;simp only[go_sem,DVal.cells];intro W O;obtain⟨K,y⟩: ∃K',K'=upd H W (some (.cells (Cf t) 62)):=⟨_,rfl⟩;rw[<-y];have X:=y.symm▸Aa _ _ _;have Y:=y.symm▸(Sub.refl _).new O _;clear y O;have w:=Af8 G K t.names 64 M;rw[dW] at w
 repeat' first
  |with_reducible refine Ad.monoR (Df G K t.lo C) ?_
  |with_reducible refine Ad.monoR (Df G K t.hi D) ?_
  |with_reducible refine Ad.monoR (Di6 G K t.sub E) ?_
  |with_reducible refine Ad.monoR (Di7 G K t.disc I) ?_
  |with_reducible refine Ad.monoR w ?_
  |with_reducible refine Ad.monoR (Uf G K t.lo t.hi C D) ?_
  |with_reducible refine Ad.monoR (Sk G K t.sub E) ?_
  |with_reducible refine Ad.monoR (Zf G K t.disc I) ?_
  |with_reducible refine Ad.monoR (Ct9 G K t L) ?_
  |simp only[go_sem,dW,Ci,Ep, *]
  |(with_reducible refine Kd ?_ ?_<;>intro hb)
  |(with_reducible refine Iu ?_ ?_<;>intro hb)
  |(clear w L M C D E I S U V X;refine Dj.sub Y (.refl ?_);refine⟨?_,rfl⟩;simp only[decide_eq_true_eq,decide_eq_false_iff_not,Gv3] at*;simp [Dn,Ub,Vq,Xh, *];done)
end
def SAt (B:Ab) (r:Nat) (ts:List Tok) (H:Ab):Prop:= ∃v,Ik (upd B r (some (.cells [v] 146))) 31 4 ts.length (ts.flatMap Cu) v H
def SrC (P:Program) (G:Nat->DVal) (f:FuncId) (args:List DVal) (t:List Tok):Prop:=
 ∀B r ts H,B r=none->ts.length+t.length<=1000000000->SAt B r ts H->Ad P G f (.optr r 0::args) H (λe H'=>e= .ret (.optr r 0)/\SAt B r (ts++t) H')
section
variable {B B1 H H':Ab} {r x:Nat} {ts:List Tok}
theorem SAt.keep (h:SAt B r ts H) {o:DObj} (hx:B x=some o) (n:x≠r):H x=some o:=by
 obtain⟨v,h⟩:=h;exact h.keep (by rw[Ah _ _ _ _ n];exact hx)
theorem SAt.lo (h:SAt B r ts H) (hx:H x=none):B x=none/\x≠r:=by
 obtain⟨v,h⟩:=h;have:=h.sub.lo hx;simp only[upd] at this;split at this
 ·cases this
 ·exact⟨this,‹_›⟩
theorem SAt.frame (h:SAt B r ts H) (hx:H x=none) (o:DObj):SAt (upd B x (some o)) r ts (upd H x (some o)):=by
 have n:=(h.lo hx).2;obtain⟨v,h⟩:=h;refine⟨v, ?_⟩;rw[Ad3 n.symm];exact h.frame hx o
theorem SAt.less (h:SAt B r ts H) (s:Sub B1 B):SAt B1 r ts H:=by
 obtain⟨v,h⟩:=h;exact⟨v,h.less (s.both r _)⟩
theorem SAt.drop {o:DObj} (h:SAt (upd B x (some o)) r ts H) (hx:B x=none):SAt B r ts H:=h.less ((Sub.refl B).new hx _)
end
section
variable {G:Nat->DVal} {H:Ab}
theorem Ak0 (hG:GX G) (ws:List (List UInt8)):SrC Tryz.prog G 92 [dW ws] (ws.map Ag):=by
 intro B r ts H hB ag hw;rw[jK] at ag;refine dci Tryz.func92 Tryz.call92 ?_;simp only[go_sem,dW];obtain⟨I,U⟩: ∃I:Nat->(Nat->DVal)->Ab->Prop,∀j env heap,I j env heap↔(env 0= .optr r 0/\env 8=dW ws/\env 9=dI ws.length/\env 10=dI j/\j<=ws.length/\SAt B r (ts++(ws.take j).map Ag) heap):=⟨_,λ_ _ _=>Iff.rfl⟩;refine Ea9.run I (λj=>ws.length-j) 0 ((U _ _ _).2 ?_) ?_
 ·simp only[go_sem];(repeat' apply And.intro)<;>(try first|rfl|assumption|omega);simpa using hw
 ·intro j env heap hi;obtain⟨J,X,V,W,hj,Y⟩:=(U _ _ _).1 hi;by_cases ad:j<ws.length
  ·(have Z:(j:Int)<(ws.length:Int):=by omega);(have ae:IntKind.i64.wrap ((j:Int)+1)=((j+1:Nat):Int):=by rw[IntKind.wrap_i64];omega);(have af:(ws.map DVal.str)[j]? =some (.str ws[j]):=by rw[List.getElem?_map,List.getElem?_eq_getElem ad];rfl);have ah:(ws.map DVal.str).length=ws.length:=jK _;(have aa:(ws.take (j+1)).map Ag=(ws.take j).map Ag++ [Ag ws[j]]:=by rw[List.take_add_one,List.getElem?_eq_getElem ad,Option.toList_some,List.map_append,List.map_singleton]);obtain⟨s,ai⟩: ∃s,s=ws[j]:=⟨_,rfl⟩;rw[<-ai] at af aa;simp(disch:=omega)only[go_sem,X,V,W,Z,dW,af,ah,jD];intro r6 ab;simp only[go_sem];obtain⟨v,hv⟩:=Y;have y:=hv.keep (Aa _ _ _);have E:r≠r6:=Ac ab y;(have ak:(ts++(ws.take j).map Ag).length<=1000000000:=by rw[jC,jK,List.length_take];omega);refine(Wt hG _ s).mono ?_;rintro _ H2 ⟨rfl,rfl⟩;cases hkb:Uq s with
   |true=>
    (have hk:Ag s=⟨2,0,s,0⟩:=by rw[Ag,Im,hkb];rfl);simp only[go_sem];refine An pL2 ?_;simp only[go_sem,J,y,E];intro ac C;dsimp only at C;have L:r≠ac:=Ac C (Aj y E);have aj:=L.symm;have M:=(hv.new ab _).new C (some (.cells (Cu (Ag s)) 31));simp only[go_sem,y,E,L];rw[hk] at M;refine Ik.append (m:=1) M rfl (by omega) λO H6 D=> ?_;have g6:=D.keep (Aa _ _ _);obtain⟨j1,j2⟩:=D.cell1;simp only[go_sem,W,g6,j1,j2];refine⟨j+1,_,Rn.refl _,(U _ _ _).2 ?_,by omega⟩;simp only[go_sem,J,X,V,ae];(repeat' apply And.intro)<;>(try first|rfl|assumption|omega);refine⟨O, ?_⟩;have S:=D.at (Aa _ _ _) (some (.cells [O] 146));rw[Gt] at S;rw[aa,<-jO,Hu,hk,jC,jQ];exact S
   |false=>
    (have hk:Ag s=⟨4,0,s,0⟩:=by rw[Ag,Im,hkb];rfl);simp only[go_sem];refine An pL2 ?_;simp only[go_sem,J,y,E];intro ac C;dsimp only at C;have L:r≠ac:=Ac C (Aj y E);have aj:=L.symm;have M:=(hv.new ab _).new C (some (.cells (Cu (Ag s)) 31));simp only[go_sem,y,E,L];rw[hk] at M;refine Ik.append (m:=1) M rfl (by omega) λO H6 D=> ?_;have g6:=D.keep (Aa _ _ _);obtain⟨j1,j2⟩:=D.cell1;simp only[go_sem,W,g6,j1,j2];refine⟨j+1,_,Rn.refl _,(U _ _ _).2 ?_,by omega⟩;simp only[go_sem,J,X,V,ae];(repeat' apply And.intro)<;>(try first|rfl|assumption|omega);refine⟨O, ?_⟩;have S:=D.at (Aa _ _ _) (some (.cells [O] 146));rw[Gt] at S;rw[aa,<-jO,Hu,hk,jC,jQ];exact S
  ·(have:j=ws.length:=by omega);subst this;(have Z: ¬(ws.length:Int)<(ws.length:Int):=by omega);rw[List.take_length] at Y;simp only[go_sem,J,V,W,Z];exact Dj.refl ⟨rfl,Y⟩
theorem Dx9 (hG:GX G) (ws:List (List UInt8)) {B H:Ab} {r q:Nat} {ts:List Tok} (Y:B q=some (.cells (ws.map .str) 9)) (hB:B r=none) (ah:ts.length+(ws.map Ag).length<=1000000000) (hw:SAt B r ts H):
  Ad Tryz.prog G 92 [.optr r 0,.oslice 1 q 0 ws.length ws.length] H (λe H'=>e= .ret (.optr r 0)/\SAt B r (ts++ws.map Ag) H'):=by
 have ai:q≠r:=λe=>by rw[e,hB] at Y;cases Y
 rw[jK] at ah;refine dci Tryz.func92 Tryz.call92 ?_;simp only[go_sem];obtain⟨I,U⟩: ∃I:Nat->(Nat->DVal)->Ab->Prop,∀j env heap,I j env heap↔(env 0= .optr r 0/\env 8= .oslice 1 q 0 ws.length ws.length/\env 9=dI ws.length/\env 10=dI j/\j<=ws.length/\SAt B r (ts++(ws.take j).map Ag) heap):=⟨_,λ_ _ _=>Iff.rfl⟩;refine Ea9.run I (λj=>ws.length-j) 0 ((U _ _ _).2 ?_) ?_
 ·simp only[go_sem];(repeat' apply And.intro)<;>(try first|rfl|assumption|omega);simpa using hw
 ·intro j env heap hi;obtain⟨J,Z,V,W,hj,X⟩:=(U _ _ _).1 hi;have gq:=X.keep Y ai;by_cases ae:j<ws.length
  ·(have aa:(j:Int)<(ws.length:Int):=by omega);(have af:IntKind.i64.wrap ((j:Int)+1)=((j+1:Nat):Int):=by rw[IntKind.wrap_i64];omega);(have ag:(ws.map DVal.str)[j]? =some (.str ws[j]):=by rw[List.getElem?_map,List.getElem?_eq_getElem ae];rfl);(have ab:(ws.take (j+1)).map Ag=(ws.take j).map Ag++ [Ag ws[j]]:=by rw[List.take_add_one,List.getElem?_eq_getElem ae,Option.toList_some,List.map_append,List.map_singleton]);obtain⟨s,aj⟩: ∃s,s=ws[j]:=⟨_,rfl⟩;rw[<-aj] at ag ab;simp(disch:=omega)only[go_sem,Z,V,W,aa,gq,ag,jD];intro r6 ac;simp only[go_sem];obtain⟨v,hv⟩:=X;have y:=hv.keep (Aa _ _ _);have E:r≠r6:=Ac ac y;(have al:(ts++(ws.take j).map Ag).length<=1000000000:=by rw[jC,jK,List.length_take];omega);refine(Wt hG _ s).mono ?_;rintro _ H2 ⟨rfl,rfl⟩;cases hkb:Uq s with
   |true=>
    (have hk:Ag s=⟨2,0,s,0⟩:=by rw[Ag,Im,hkb];rfl);simp only[go_sem];refine An pL2 ?_;simp only[go_sem,J,y,E];intro ad C;dsimp only at C;have L:r≠ad:=Ac C (Aj y E);have ak:=L.symm;have M:=(hv.new ac _).new C (some (.cells (Cu (Ag s)) 31));simp only[go_sem,y,E,L];rw[hk] at M;refine Ik.append (m:=1) M rfl (by omega) λO H6 D=> ?_;have g6:=D.keep (Aa _ _ _);obtain⟨j1,j2⟩:=D.cell1;simp only[go_sem,W,g6,j1,j2];refine⟨j+1,_,Rn.refl _,(U _ _ _).2 ?_,by omega⟩;simp only[go_sem,J,Z,V,af];(repeat' apply And.intro)<;>(try first|rfl|assumption|omega);refine⟨O, ?_⟩;have S:=D.at (Aa _ _ _) (some (.cells [O] 146));rw[Gt] at S;rw[ab,<-jO,Hu,hk,jC,jQ];exact S
   |false=>
    (have hk:Ag s=⟨4,0,s,0⟩:=by rw[Ag,Im,hkb];rfl);simp only[go_sem];refine An pL2 ?_;simp only[go_sem,J,y,E];intro ad C;dsimp only at C;have L:r≠ad:=Ac C (Aj y E);have ak:=L.symm;have M:=(hv.new ac _).new C (some (.cells (Cu (Ag s)) 31));simp only[go_sem,y,E,L];rw[hk] at M;refine Ik.append (m:=1) M rfl (by omega) λO H6 D=> ?_;have g6:=D.keep (Aa _ _ _);obtain⟨j1,j2⟩:=D.cell1;simp only[go_sem,W,g6,j1,j2];refine⟨j+1,_,Rn.refl _,(U _ _ _).2 ?_,by omega⟩;simp only[go_sem,J,Z,V,af];(repeat' apply And.intro)<;>(try first|rfl|assumption|omega);refine⟨O, ?_⟩;have S:=D.at (Aa _ _ _) (some (.cells [O] 146));rw[Gt] at S;rw[ab,<-jO,Hu,hk,jC,jQ];exact S
  ·(have:j=ws.length:=by omega);subst this;(have aa: ¬(ws.length:Int)<(ws.length:Int):=by omega);rw[List.take_length] at X;simp only[go_sem,J,V,W,aa];exact Dj.refl ⟨rfl,X⟩
end
section
variable {G:Nat->DVal} {H B:Ab} {r:Nat} {ts:List Tok}
theorem SAt.ne {x:Nat} (h:SAt B r ts H) (hx:H x=none):r≠x:=λe=>(h.lo hx).2 e.symm
theorem SAt.start {B:Ab} {r:Nat} (hr:B r=none):SAt B r [] (upd B r (some (.cells [.nilSlice] 146))):=⟨_,.inl ⟨rfl,rfl,rfl,Sub.refl _⟩⟩
theorem SAt.cell (h:SAt B r ts H) (hr:B r=none): ∃v,H r=some (.cells [v] 146)/\Ln H v B (Be ts):=by
 obtain⟨v,h⟩:=h;exact⟨v,h.keep (Aa _ _ _),Ln.own (h.less ((Sub.refl B).up hr _))⟩
theorem SAt.sub (h:SAt B r ts H) (hr:B r=none):Sub B H:=by
 obtain⟨v,h⟩:=h;exact((Sub.refl B).up hr _).trans h.sub
def SQ (B:Ab) (r:Nat) (ts:List Tok) (e:DEnd) (H':Ab):Prop:=e= .ret (.optr r 0)/\SAt B r ts H'
theorem Al8 (hG:GX G) (s:List UInt8) {q:Nat} (y:H q=none) (C:B r=none) (D:ts.length+1<=1000000000) (hw:SAt B r ts H):Ad Tryz.prog G 92 [.optr r 0,.oslice 1 q 0 1 1] (upd H q (some (.cells [.str s] 9))) (SQ B r (ts++ [Ag s])):=by
 refine Ad.fzA q y ?_;have n:r≠q:=hw.ne y;simp only[fzs,fz,if_neg n,if_pos];exact Ak0 hG [s] B r ts H C D hw
theorem Hg5 (hG:GX G) (s t:List UInt8) {q:Nat} (y:H q=none) (C:B r=none) (D:ts.length+2<=1000000000) (hw:SAt B r ts H):Ad Tryz.prog G 92 [.optr r 0,.oslice 1 q 0 2 2] (upd H q (some (.cells [.str s,.str t] 9))) (SQ B r (ts++ [Ag s,Ag t])):=by
 refine Ad.fzA q y ?_;have n:r≠q:=hw.ne y;simp only[fzs,fz,if_neg n,if_pos];exact Ak0 hG [s,t] B r ts H C D hw
end
theorem Ax9 (ts:List Tok):(ts.flatMap Cu).all (λd=>d.one)=true:=by
 rw[List.all_eq_true];intro d hd;obtain⟨t,_,hd⟩:=List.mem_flatMap.1 hd;exact List.all_eq_true.1 (Ix t) d hd
theorem Al9 (ts:List Tok):(ts.flatMap Cu).take (ts.length*4)=ts.flatMap Cu:=List.take_of_length_le (by rw[Ak Az];omega)
section
end
section
end
theorem Aq6 {ws:List (List UInt8)} (h:0<ws.length):Cq (ws.take 1)= [Eg ws[0]]:=by
 cases ws with
 |nil=>simp at h
 |cons s l=>rfl
theorem Ah0 {ws:List (List UInt8)} {j:Nat} (y:j<ws.length) (C:0<j):Cq (ws.take (j+1))=Cq (ws.take j)++ [Ag Dm,Eg ws[j]]:=by
 unfold Cq;rw[Qc y,List.map_append,List.map_singleton,Xa _ _ _ (by
  intro e;have:=congrArg List.length e;rw[jK,List.length_take,jB] at this;omega)]
theorem Qj {ws:List (List UInt8)}: ∀j,j<=ws.length->(Cq (ws.take j)).length=2*j-1
 | 0,_=>rfl
 | 1,h=>by rw[Aq6 (by omega)];rfl
 |j+2,h=>by
  rw[Ah0 (by omega) (by omega),jC,Qj (j+1) (by omega)];simp only[jA,jB];omega
section
variable {G:Nat->DVal}
theorem Ah1 (hG:GX G) (ws:List (List UInt8)) (ak:ws.length<=100000000):SrC Tryz.prog G 93 [dW ws] (Cq ws):=by
 intro B r ts H hB al hw;have ah:=Qj ws.length (Nat.le_refl _);rw[List.take_length] at ah;refine dci Tryz.func93 Tryz.call93 ?_;simp only[go_sem,dW];obtain⟨I,V⟩: ∃I:Nat->(Nat->DVal)->Ab->Prop,∀j env heap,I j env heap↔(env 0= .optr r 0/\env 7=dW ws/\env 8=dI ws.length/\env 9=dI j/\j<=ws.length/\SAt B r (ts++Cq (ws.take j)) heap):=⟨_,λ_ _ _=>Iff.rfl⟩;refine Ea9.run I (λj=>ws.length-j) 0 ((V _ _ _).2 ?_) ?_
 ·simp only[go_sem];(repeat' apply And.intro)<;>(try first|rfl|assumption|omega);rw[show Cq []= [] from rfl,jH];exact hw
 ·intro j env heap hi;obtain⟨D,W,J,L,hj,X⟩:=(V _ _ _).1 hi;by_cases aa:j<ws.length
  ·(have Y:(j:Int)<(ws.length:Int):=by omega);(have af:IntKind.i64.wrap ((j:Int)+1)=((j+1:Nat):Int):=by rw[IntKind.wrap_i64];omega);(have Z:(ws.map DVal.str)[j]? =some (.str ws[j]):=by rw[List.getElem?_map,List.getElem?_eq_getElem aa];rfl);have ag:(ws.map DVal.str).length=ws.length:=jK _;have am:=Qj j hj;by_cases j0:j=0
   ·subst j0;have E:Cq (ws.take (0+1))= []++ [Eg ws[0]]:=Aq6 aa;obtain⟨s,ab⟩: ∃s,s=ws[0]:=⟨_,rfl⟩;rw[<-ab] at Z E;have M:SAt B r (ts++ []) heap:=X;simp only[go_sem,W,J,L,Y,dW,Z,ag,jD];(have ao:(ts++([]:List Tok)).length+1<=1000000000:=by rw[jH];omega);rw[jH] at M;rw[jG] at E;obtain⟨v,hv⟩:=M;have O:=hv.keep (Aa _ _ _);simp(disch:=omega)only[go_sem,D,O];intro ac y;dsimp only at y;have ad:r≠ac:=Ac y O;have ai:=ad.symm;have ae:=hv.new y (some (.cells (Cu (Eg s)) 31));simp only[go_sem];refine Ik.append (m:=1) ae rfl (by omega) λS H6 C=> ?_;have g6:=C.keep (Aa _ _ _);obtain⟨j1,j2⟩:=C.cell1;simp only[go_sem,L,g6,j1,j2];refine⟨0+1,_,Rn.refl _,(V _ _ _).2 ?_,by omega⟩;simp only[go_sem,D,W,J,af];(repeat' apply And.intro)<;>(try first|rfl|assumption|omega);refine⟨S, ?_⟩;have U:=C.at (Aa _ _ _) (some (.cells [S] 146));rw[Gt] at U;rw[E,Hu,jC,jQ];exact U
   ·(have aj:(0:Int)<(j:Int):=by omega);(have E:Cq (ws.take (j+1))=(Cq (ws.take j)++ [Ag Dm])++ [Eg ws[j]]:=by rw[Ah0 aa (by omega)];simp);obtain⟨s,ab⟩: ∃s,s=ws[j]:=⟨_,rfl⟩;rw[<-ab] at Z E;simp(disch:=omega)only[go_sem,D,W,J,L,Y,dW,Z,ag,jD,aj];intro q hq;dsimp only at hq;simp only[go_sem];refine(Al8 hG Dm hq hB (by rw[jC];omega) X).mono ?_;rintro _ H2 ⟨rfl,M⟩;rw[jO] at M;simp only[go_sem,D];obtain⟨v,hv⟩:=M;have O:=hv.keep (Aa _ _ _);simp only[go_sem,O];intro ac y;dsimp only at y;have ad:r≠ac:=Ac y O;have ai:=ad.symm;have ae:=hv.new y (some (.cells (Cu (Eg s)) 31));simp only[go_sem];refine Ik.append (m:=1) ae rfl (by simp only[jC,jA,jB];omega) λS H6 C=> ?_;have g6:=C.keep (Aa _ _ _);obtain⟨j1,j2⟩:=C.cell1;simp only[go_sem,L,g6,j1,j2];refine⟨j+1,_,Rn.refl _,(V _ _ _).2 ?_,by omega⟩;simp only[go_sem,D,W,J,af];(repeat' apply And.intro)<;>(try first|rfl|assumption|omega);refine⟨S, ?_⟩;have U:=C.at (Aa _ _ _) (some (.cells [S] 146));rw[Gt] at U;rw[E,<-jO,Hu,jC,jQ];exact U
  ·(have:j=ws.length:=by omega);subst this;(have Y: ¬(ws.length:Int)<(ws.length:Int):=by omega);rw[List.take_length] at X;simp only[go_sem,D,J,L,Y];exact Dj.refl ⟨rfl,X⟩
theorem Cu0 (hG:GX G) (ws:List (List UInt8)) (am:ws.length<=100000000) {B H:Ab} {r W:Nat} {ts:List Tok} (ab:B W=some (.cells (ws.map .str) 9)) (hB:B r=none) (ao:ts.length+(Cq ws).length<=1000000000) (hw:SAt B r ts H):
  Ad Tryz.prog G 93 [.optr r 0,.oslice 1 W 0 ws.length ws.length] H (λe H'=>e= .ret (.optr r 0)/\SAt B r (ts++Cq ws) H'):=by
 have ai:W≠r:=λe=>by rw[e,hB] at ab;cases ab
 have aj:=Qj ws.length (Nat.le_refl _);rw[List.take_length] at aj;refine dci Tryz.func93 Tryz.call93 ?_;simp only[go_sem];obtain⟨I,X⟩: ∃I:Nat->(Nat->DVal)->Ab->Prop,∀j env heap,I j env heap↔(env 0= .optr r 0/\env 7= .oslice 1 W 0 ws.length ws.length/\env 8=dI ws.length/\env 9=dI j/\j<=ws.length/\SAt B r (ts++Cq (ws.take j)) heap):=⟨_,λ_ _ _=>Iff.rfl⟩;refine Ea9.run I (λj=>ws.length-j) 0 ((X _ _ _).2 ?_) ?_
 ·simp only[go_sem];(repeat' apply And.intro)<;>(try first|rfl|assumption|omega);rw[show Cq []= [] from rfl,jH];exact hw
 ·intro j env heap hi;obtain⟨D,Y,J,L,hj,M⟩:=(X _ _ _).1 hi;have gq:=M.keep ab ai;by_cases ac:j<ws.length
  ·(have Z:(j:Int)<(ws.length:Int):=by omega);(have ah:IntKind.i64.wrap ((j:Int)+1)=((j+1:Nat):Int):=by rw[IntKind.wrap_i64];omega);(have aa:(ws.map DVal.str)[j]? =some (.str ws[j]):=by rw[List.getElem?_map,List.getElem?_eq_getElem ac];rfl);have ap:(ws.map DVal.str).length=ws.length:=jK _;have aq:=Qj j hj;by_cases j0:j=0
   ·subst j0;have E:Cq (ws.take (0+1))= []++ [Eg ws[0]]:=Aq6 ac;obtain⟨s,ad⟩: ∃s,s=ws[0]:=⟨_,rfl⟩;rw[<-ad] at aa E;have O:SAt B r (ts++ []) heap:=M;simp only[go_sem,Y,J,L,Z,gq,aa,jD];(have ar:(ts++([]:List Tok)).length+1<=1000000000:=by rw[jH];omega);rw[jH] at O;rw[jG] at E;obtain⟨v,hv⟩:=O;have S:=hv.keep (Aa _ _ _);simp(disch:=omega)only[go_sem,D,S];intro ae y;dsimp only at y;have af:r≠ae:=Ac y S;have ak:=af.symm;have ag:=hv.new y (some (.cells (Cu (Eg s)) 31));simp only[go_sem];refine Ik.append (m:=1) ag rfl (by omega) λU H6 C=> ?_;have g6:=C.keep (Aa _ _ _);obtain⟨j1,j2⟩:=C.cell1;simp only[go_sem,L,g6,j1,j2];refine⟨0+1,_,Rn.refl _,(X _ _ _).2 ?_,by omega⟩;simp only[go_sem,D,Y,J,ah];(repeat' apply And.intro)<;>(try first|rfl|assumption|omega);refine⟨U, ?_⟩;have V:=C.at (Aa _ _ _) (some (.cells [U] 146));rw[Gt] at V;rw[E,Hu,jC,jQ];exact V
   ·(have al:(0:Int)<(j:Int):=by omega);(have E:Cq (ws.take (j+1))=(Cq (ws.take j)++ [Ag Dm])++ [Eg ws[j]]:=by rw[Ah0 ac (by omega)];simp);obtain⟨s,ad⟩: ∃s,s=ws[j]:=⟨_,rfl⟩;rw[<-ad] at aa E;simp(disch:=omega)only[go_sem,D,Y,J,L,Z,gq,aa,jD,al];intro q hq;dsimp only at hq;simp only[go_sem];refine(Al8 hG Dm hq hB (by rw[jC];omega) M).mono ?_;rintro _ H2 ⟨rfl,O⟩;rw[jO] at O;simp only[go_sem,D];obtain⟨v,hv⟩:=O;have S:=hv.keep (Aa _ _ _);simp only[go_sem,S];intro ae y;dsimp only at y;have af:r≠ae:=Ac y S;have ak:=af.symm;have ag:=hv.new y (some (.cells (Cu (Eg s)) 31));simp only[go_sem];refine Ik.append (m:=1) ag rfl (by simp only[jC,jA,jB];omega) λU H6 C=> ?_;have g6:=C.keep (Aa _ _ _);obtain⟨j1,j2⟩:=C.cell1;simp only[go_sem,L,g6,j1,j2];refine⟨j+1,_,Rn.refl _,(X _ _ _).2 ?_,by omega⟩;simp only[go_sem,D,Y,J,ah];(repeat' apply And.intro)<;>(try first|rfl|assumption|omega);refine⟨U, ?_⟩;have V:=C.at (Aa _ _ _) (some (.cells [U] 146));rw[Gt] at V;rw[E,<-jO,Hu,jC,jQ];exact V
  ·(have:j=ws.length:=by omega);subst this;(have Z: ¬(ws.length:Int)<(ws.length:Int):=by omega);rw[List.take_length] at M;simp only[go_sem,D,J,L,Z];exact Dj.refl ⟨rfl,M⟩
theorem Fj (hG:GX G) (e:Ex) (hm:Bu e=true) (he:Fit e):SrC Tryz.prog G 122 [.agg (dEx e)] (Ai e):=by
 intro B r ts H hB ab hw;have O:Av6 e=(Ai e,0):=by rw[Av6,hm];rfl
 refine dci Tryz.func122 Tryz.call122 ?_;simp only[go_sem,DVal.cells];intro y I;have J:=hw.frame I (.cells (dEx e) 27);have S:B y=none:=(hw.lo I).1;obtain⟨K,C⟩: ∃K,K=upd H y (some (.cells (dEx e) 27)):=⟨_,rfl⟩;rw[<-C] at J⊢
 have U:=C.symm▸Aa _ _ _;clear C;simp only[go_sem,U];refine Ad.monoR (De7 hG K e he) ?_;rw[O];obtain⟨v,hv⟩:=J;have V:=hv.keep (Aa _ _ _);have L:=Ak Az (Ai e);simp only[go_sem,V,Be,Ax9,Al9,L];refine Ik.append (m:=(Ai e).length) hv L (by omega) λD W E=> ?_;have X:=E.keep (Aa _ _ _);obtain⟨Y,Z⟩:=E.cell1;simp only[go_sem,X,Y,Z];have M:=E.at (Aa _ _ _) (some (.cells [D] 146));rw[Gt] at M;have aa:SAt (upd B y (some (.cells (dEx e) 27))) r (ts++Ai e) (upd W r (some (.cells [D] 146))):=⟨D,by rw[jC,List.flatMap_append];exact M⟩;exact Dj.refl ⟨rfl,aa.drop S⟩
structure St (B0 B:Ab) (r:Nat) (ts:List Tok) (K:Ab):Prop where
 hw:SAt B r ts K
 hr:B r=none
 hs:Sub B0 B
section
variable {B0 B K:Ab} {r:Nat} {ts:List Tok}
theorem St.g (h:St B0 B r ts K) {x:Nat} {o:DObj} (hx:B x=some o):K x=some o:=h.hw.keep hx λe=>by rw[e,h.hr] at hx;cases hx
theorem St.new (h:St B0 B r ts K) {q:Nat} (y:K q=none) (o:DObj): ∃B' K',upd K q (some o)=K'/\St B0 B' r ts K'/\Sub B B'/\B' q=some o:=by
 have hl:=h.hw.lo y;have s:Sub B (upd B q (some o)):=(Sub.refl B).up hl.1 _;exact⟨_,_,rfl,⟨h.hw.frame y o,by rw[Ah _ _ _ _ hl.2.symm];exact h.hr,h.hs.trans s⟩,s,Aa _ _ _⟩
theorem St.call {P:Program} {f:FuncId} {args:List DVal} {t:List Tok} (h:St B0 B r ts K) (c:SrC P G f args t) (y:ts.length+t.length<=1000000000):Ad P G f (.optr r 0::args) K (λe K'=>e= .ret (.optr r 0)/\St B0 B r (ts++t) K'):=
 (c B r ts K h.hr y h.hw).mono λ_ _ ⟨e,w⟩=>⟨e,w,h.hr,h.hs⟩
theorem St.put (h:St B0 B r ts K) (hG:GX G) (ws:List (List UInt8)) {q:Nat} (y:B q=some (.cells (ws.map .str) 9)) (C:ts.length+(ws.map Ag).length<=1000000000):Ad Tryz.prog G 92 [.optr r 0,.oslice 1 q 0 ws.length ws.length] K (λe K'=>e= .ret (.optr r 0)/\St B0 B r (ts++ws.map Ag) K'):=
 (Dx9 hG ws y h.hr C h.hw).mono λ_ _ ⟨e,w⟩=>⟨e,w,h.hr,h.hs⟩
theorem St.nms (h:St B0 B r ts K) (hG:GX G) (ws:List (List UInt8)) (y:ws.length<=100000000) {q:Nat} (C:B q=some (.cells (ws.map .str) 9)) (D:ts.length+(Cq ws).length<=1000000000):Ad Tryz.prog G 93 [.optr r 0,.oslice 1 q 0 ws.length ws.length] K (λe K'=>e= .ret (.optr r 0)/\St B0 B r (ts++Cq ws) K'):=
 (Cu0 hG ws y C h.hr D h.hw).mono λ_ _ ⟨e,w⟩=>⟨e,w,h.hr,h.hs⟩
theorem St.start (s:Sub B0 B) (hr:B r=none): ∃K,upd B r (some (.cells [.nilSlice] 146))=K/\St B0 B r [] K:=⟨_,rfl,SAt.start hr,hr,s⟩
theorem Sub.newK (s:Sub B0 K) {q:Nat} (y:K q=none) (o:DObj): ∃K',upd K q (some o)=K'/\Sub B0 K'/\Sub K K'/\K' q=some o:=⟨_,rfl,s.up (s.lo y) _,(Sub.refl K).up y _,Aa _ _ _⟩
end
end
theorem Hg6 {x:Ex}:noE x=true↔stE x=ex0:=by
 unfold noE;rw[Tv];rfl
theorem Eg8 {x:Ex} (h:Bu x=true):noE x=false:=by
 cases c:noE x with
 |false=>rfl
 |true=>
  exfalso;have hk:x.kind=0:=by rw[<-Jo,Hg6.1 c];rfl
  have hv:=(Hy (Qd h)).1;unfold Ax at hv;simp [hk] at hv
theorem Hg7 (e:Ex):(Ai e).length<=(Ap e 2).length:=by
 rw[Ap,Au3];split<;>omega
section
variable {G:Nat->DVal}
theorem Bj9 (hG:GX G) (e:Ex) (hm:Gk e=true) (he:Cp 16777216 e):SrC Tryz.prog G 123 [.agg (dEx e)] (Ph e):=by
 intro B0 r ts H Z E hw;refine dci Tryz.func123 Tryz.call123 ?_;simp only[go_sem,DVal.cells];intro C I;have J:=hw.frame I (.cells (dEx e) 27);have aa:B0 C=none:=(hw.lo I).1;have ab:C≠r:=(hw.lo I).2;obtain⟨B1,y⟩: ∃X,X=upd B0 C (some (.cells (dEx e) 27)):=⟨_,rfl⟩;have ac:=y.symm▸Aa _ _ _;have M:=y.symm▸(Sub.refl _).up aa _;have ad:B1 r=none:=by rw[y,Ah _ _ _ _ ab.symm];exact Z
 obtain⟨O,D⟩: ∃X,X=upd H C (some (.cells (dEx e) 27)):=⟨_,rfl⟩;rw[<-y,<-D] at J;rw[<-D];have L:=D.symm▸Aa _ _ _;clear y D;simp only[go_sem,L,Ea (Af _)];intro q hq;simp only[go_sem];refine Ad.monoR (Bj0 G O [e] q _ _ (by simp) hq (by simp) (by intro x hx;simp at hx;subst hx;assumption) rfl) ?_;rw[show [e].all noE=noE e by simp];cases h0:noE e
 ·have ae:Bu e=true:=by rw[Gk,h0,Bool.false_or] at hm;exact hm
  have ht:Ph e=Ag Pf::Ai e:=by rw[Ph,h0];rfl
  rw[ht] at E⊢
  simp only[go_sem];refine An (.take 0 (.take 3 (.go 1 [3] (.go 2 [3] (.go 4 [] (.take 5 .done)))))) ?_;simp only[go_sem,L];have h0:St B0 B1 r ts O:=⟨J,ad,M⟩;intro qa af;obtain⟨ak,al,ag,S,ah,ai⟩:=h0.new af (.cells [.str [58,61]] 9);rw[ag];have U:=ah _ _ ac;have V:=S.g U;try simp only[go_sem,L,V]
  refine(S.put hG [Pf] ai (by(try simp only[jA,jB,jN,jP] at E⊢)<;>omega)).mono ?_;rintro _ am ⟨rfl,W⟩;have aj:=W.g U;try simp only[go_sem,V,aj]
  refine(W.call (Fj hG e ae he.fitx) (by(try simp only[jC,jA,jB,jN,jP] at E⊢)<;>omega)).mono ?_;rintro _ ao ⟨rfl,Y⟩;try simp only[go_sem]
  exact Dj.refl ⟨rfl,by simpa using Y.hw.less Y.hs⟩
 ·simp only[go_sem];exact Dj.refl ⟨rfl,by rw[Ph,h0];simpa using J.less M⟩
theorem Vv (hG:GX G) (e:Ex) (hm:Bu e=true) (he:Cp 16777216 e):SrC Tryz.prog G 204 [.agg (dEx e)] (Ap e 2):=by
 intro B0 r ts H hB y hw;refine dci Tryz.func204 Tryz.call204 ?_;simp only[go_sem,DVal.cells];intro L S;have U:=hw.frame S (.cells (dEx e) 27);have a5:B0 L=none:=(hw.lo S).1;have a6:L≠r:=(hw.lo S).2;obtain⟨B1,I⟩: ∃X,X=upd B0 L (some (.cells (dEx e) 27)):=⟨_,rfl⟩;have ac:=I.symm▸Aa _ _ _;have ad:=I.symm▸(Sub.refl _).up a5 _;have ae:B1 r=none:=by rw[I,Ah _ _ _ _ a6.symm];exact hB
 obtain⟨V,M⟩: ∃X,X=upd H L (some (.cells (dEx e) 27)):=⟨_,rfl⟩;rw[<-I,<-M] at U;rw[<-M];have J:=M.symm▸Aa _ _ _;clear I M;simp only[go_sem,J];refine Ad.monoR (Yw G V e) ?_;by_cases c:Aw e<2
 ·have hp:Ap e 2=Ag Bc::(Ai e++ [Ag Bs]):=by rw[Ap,decide_eq_true c];rfl
  rw[hp] at y⊢
  simp only[go_sem,c];refine An (.take 0 (.take 3 (.alt (.go 5 [3] (.go 1 [3] (.go 2 [3] (.go 4 [] (.go 6 [] (.take 7 .done)))))) (.go 1 [3] (.alt (.go 5 [3] (.go 2 [3] (.go 4 [] (.go 6 [] (.take 7 .done))))) (.go 2 [3] (.alt (.go 5 [3] (.go 4 [] (.go 6 [] (.take 7 .done)))) (.go 4 [] (.go 5 [3] (.go 6 [] (.take 7 .done))))))))))) ?_;simp only[go_sem,J];have h0:St B0 B1 r ts V:=⟨U,ae,ad⟩;refine⟨?_, ?_⟩
  ·intro W C;obtain⟨bt,bu,a7,af,a8,D⟩:=h0.new C (.cells [.str [41]] 9);rw[a7];have ag:=a8 _ _ ac;have ah:=af.g ag;(try simp only[go_sem,J,ah]);intro qa Y;obtain⟨bv,bw,a9,ai,aj,O⟩:=af.new Y (.cells [.str [40]] 9);rw[a9];have ak:=aj _ _ ag;have ba:=aj _ _ D;have al:=ai.g ak;(try simp only[go_sem,ah,al]);refine(ai.put hG [Bc] O (by(try simp only[jC,jA,jB,jN,jP] at y⊢)<;>omega)).mono ?_;rintro _ bx ⟨rfl,am⟩;have bb:=am.g ak;(try simp only[go_sem,al,bb]);refine(am.call (Fj hG e hm he.fitx) (by(try simp only[jC,jA,jB,jN,jP] at y⊢)<;>omega)).mono ?_;rintro _ bz ⟨rfl,bc⟩;(try simp only[go_sem]);refine(bc.put hG [Bs] ba (by(try simp only[jC,jA,jB,jN,jP] at y⊢)<;>omega)).mono ?_;rintro _ b0 ⟨rfl,ao⟩;(try simp only[go_sem]);exact Dj.refl ⟨rfl,by simpa using ao.hw.less ao.hs⟩
  ·intro qa Y;obtain⟨b1,b2,bd,Z,be,O⟩:=h0.new Y (.cells [.str [40]] 9);rw[bd];have E:=be _ _ ac;have aa:=Z.g E;(try simp only[go_sem,J,aa]);refine⟨?_, ?_⟩
   ·intro W C;obtain⟨b3,b4,bf,ap,aq,D⟩:=Z.new C (.cells [.str [41]] 9);rw[bf];have ar:=aq _ _ E;have bg:=aq _ _ O;have au:=ap.g ar;(try simp only[go_sem,aa,au]);refine(ap.put hG [Bc] bg (by(try simp only[jC,jA,jB,jN,jP] at y⊢)<;>omega)).mono ?_;rintro _ b5 ⟨rfl,av⟩;have bh:=av.g ar;(try simp only[go_sem,au,bh]);refine(av.call (Fj hG e hm he.fitx) (by(try simp only[jC,jA,jB,jN,jP] at y⊢)<;>omega)).mono ?_;rintro _ b6 ⟨rfl,bi⟩;(try simp only[go_sem]);refine(bi.put hG [Bs] D (by(try simp only[jC,jA,jB,jN,jP] at y⊢)<;>omega)).mono ?_;rintro _ b7 ⟨rfl,aw⟩;(try simp only[go_sem]);exact Dj.refl ⟨rfl,by simpa using aw.hw.less aw.hs⟩
   ·refine(Z.put hG [Bc] O (by(try simp only[jC,jA,jB,jN,jP] at y⊢)<;>omega)).mono ?_;rintro _ b8 ⟨rfl,ab⟩;have ax:=ab.g E;(try simp only[go_sem,aa,ax]);refine⟨?_, ?_⟩
    ·intro W C;obtain⟨b9,ca,bj,ay,bk,D⟩:=ab.new C (.cells [.str [41]] 9);rw[bj];have bl:=bk _ _ E;have bm:=ay.g bl;(try simp only[go_sem,ax,bm]);refine(ay.call (Fj hG e hm he.fitx) (by(try simp only[jC,jA,jB,jN,jP] at y⊢)<;>omega)).mono ?_;rintro _ cb ⟨rfl,bn⟩;(try simp only[go_sem]);refine(bn.put hG [Bs] D (by(try simp only[jC,jA,jB,jN,jP] at y⊢)<;>omega)).mono ?_;rintro _ cc ⟨rfl,a0⟩;(try simp only[go_sem]);exact Dj.refl ⟨rfl,by simpa using a0.hw.less a0.hs⟩
    ·refine(ab.call (Fj hG e hm he.fitx) (by(try simp only[jC,jA,jB,jN,jP] at y⊢)<;>omega)).mono ?_;rintro _ cd ⟨rfl,a1⟩;have bo:=a1.g E;(try simp only[go_sem]);intro W C;obtain⟨ce,cf,bp,a2,bq,D⟩:=a1.new C (.cells [.str [41]] 9);rw[bp];have br:=bq _ _ E;have bs:=a2.g br;(try simp only[go_sem,bo,bs]);refine(a2.put hG [Bs] D (by(try simp only[jC,jA,jB,jN,jP] at y⊢)<;>omega)).mono ?_;rintro _ cg ⟨rfl,a3⟩;(try simp only[go_sem]);exact Dj.refl ⟨rfl,by simpa using a3.hw.less a3.hs⟩
 ·have hp:Ap e 2=Ai e:=by rw[Ap,decide_eq_false c];rfl
  rw[hp] at y⊢
  simp only[go_sem,c,J];have h0:St B0 B1 r ts V:=⟨U,ae,ad⟩;refine(h0.call (Fj hG e hm he.fitx) (by(try simp only[jC,jA,jB,jK,jN,jP,List.length_flatMap] at y⊢)<;>omega)).mono ?_;rintro _ ci ⟨rfl,a4⟩;simp only[go_sem];exact Dj.refl ⟨rfl,by simpa using a4.hw.less a4.hs⟩
theorem Sq (hG:GX G) (a b:Ex) (ha:Bu a=true) (hb:Bu b=true) (fa:Cp 16777216 a) (fb:Cp 16777216 b):SrC Tryz.prog G 94 [.agg (dEx a),.agg (dEx b)] (Dh a b):=by
 intro B0 r ts H hB y hw;rw[Dh] at y⊢
 refine dci Tryz.func94 Tryz.call94 ?_;simp only[go_sem,DVal.cells];intro C I;dsimp only at I;have J:=hw.frame I (.cells (dEx a) 27);have ax:B0 C=none:=(hw.lo I).1;have ag:C≠r:=(hw.lo I).2;obtain⟨B1,D⟩: ∃X,X=upd B0 C (some (.cells (dEx a) 27)):=⟨_,rfl⟩;have ay:=D.symm▸Aa _ _ _;have a0:=D.symm▸(Sub.refl _).up ax _;have a1:B1 r=none:=by rw[D,Ah _ _ _ _ ag.symm];exact hB
 obtain⟨K1,L⟩: ∃X,X=upd H C (some (.cells (dEx a) 27)):=⟨_,rfl⟩;rw[<-D,<-L] at J;rw[<-L];have bf:=L.symm▸Aa _ _ _;clear D L;simp only[go_sem,DVal.cells];intro M W;have Y:=J.frame W (.cells (dEx b) 27);have a2:B1 M=none:=(J.lo W).1;have a3:M≠r:=(J.lo W).2;obtain⟨O,E⟩: ∃X,X=upd B1 M (some (.cells (dEx b) 27)):=⟨_,rfl⟩;have Z:=E.symm▸Aa _ _ _;have ah:=E.symm▸(Sub.refl _).up a2 _;have a4:O r=none:=by rw[E,Ah _ _ _ _ a3.symm];exact a1
 obtain⟨K2,S⟩: ∃X,X=upd K1 M (some (.cells (dEx b) 27)):=⟨_,rfl⟩;rw[<-E,<-S] at Y;rw[<-S];have aa:=S.symm▸Aa _ _ _;clear E S;have a5:Sub B0 O:=a0.trans ah;have U:O C=some (.cells (dEx a) 27):=ah _ _ ay;have ai:=Y.keep U ag;simp only[go_sem];refine An (.take 0 (.take 1 (.take 5 (.alt (.go 3 [5,1] (.go 2 [5] (.go 4 [5] (.go 6 [] (.take 7 .done))))) (.go 2 [5] (.go 3 [5,1] (.go 4 [5] (.go 6 [] (.take 7 .done))))))))) ?_;simp only[go_sem,ai,aa];have h0:St B0 O r ts K2:=⟨Y,a4,a5⟩;refine⟨?_, ?_⟩
 ·intro qa V;dsimp only at V;obtain⟨bg,bh,a6,ab,s32,ac⟩:=h0.new V (.cells [.str [46,46]] 9);rw[a6];have a7:=s32 _ _ U;have ad:=s32 _ _ Z;have a8:=ab.g a7;have aj:=ab.g ad;try simp only[go_sem,ai,aa,a8,aj]
  refine(ab.call (Vv hG a ha fa) (by(try simp only[jC,jA] at y⊢)<;>omega)).mono ?_;rintro _ bi ⟨rfl,ak⟩;have al:=ak.g ad;try simp only[go_sem,aj,al]
  refine(ak.put hG [Et] ac (by(try simp only[jC,jA,jB,jN,jP] at y⊢)<;>omega)).mono ?_;rintro _ bj ⟨rfl,am⟩;have a9:=am.g ad;try simp only[go_sem,al,a9]
  refine(am.call (Vv hG b hb fb) (by(try simp only[jC,jA,jB,jN,jP] at y⊢)<;>omega)).mono ?_;rintro _ bk ⟨rfl,ao⟩;try simp only[go_sem]
  exact Dj.refl ⟨rfl,by simpa using ao.hw.less ao.hs⟩
 ·refine(h0.call (Vv hG a ha fa) (by(try simp only[jC,jA] at y⊢)<;>omega)).mono ?_;rintro _ bl ⟨rfl,ae⟩;have ba:=ae.g U;have ap:=ae.g Z;try simp only[go_sem,aa,ap]
  intro qa V;obtain⟨bm,bn,bb,af,aq,ac⟩:=ae.new V (.cells [.str [46,46]] 9);rw[bb];have bc:=aq _ _ U;have ar:=aq _ _ Z;have bd:=af.g bc;have au:=af.g ar;try simp only[go_sem,ba,ap,bd,au]
  refine(af.put hG [Et] ac (by(try simp only[jC,jA,jB,jN,jP] at y⊢)<;>omega)).mono ?_;rintro _ bo ⟨rfl,av⟩;have be:=av.g ar;try simp only[go_sem,au,be]
  refine(av.call (Vv hG b hb fb) (by(try simp only[jC,jA,jB,jN,jP] at y⊢)<;>omega)).mono ?_;rintro _ bp ⟨rfl,aw⟩;try simp only[go_sem]
  exact Dj.refl ⟨rfl,by simpa using aw.hw.less aw.hs⟩
theorem Eg9 {s:Ind} (hm:Co s=true):Bu s.name=true/\(noE s.value=false->Bu s.value=true)/\(noE s.value=true->noE s.lo=false->Bu s.lo=true/\Bu s.hi=true):=by
 rw[Co,jF] at hm;obtain⟨h1,h2⟩:=hm;refine⟨by rw[Ga,jF] at h1;exact h1.1,λc=> ?_,λc d=> ?_⟩
 ·rw[c] at h2;simp at h2;exact h2.2
 ·rw[c,d] at h2;simp at h2;exact h2
theorem Rk (hG:GX G) (s:Ind) (hm:Co s=true) (hs:Sa 16777216 s):SrC Tryz.prog G 95 [.agg (Db s)] (Ie s):=by
 intro B0 r ts H hB y hw;obtain⟨m1,m2,m3⟩:=Eg9 hm;obtain⟨f0,f1,f2,S⟩:=hs;have b3:ts.length+(Ai s.name).length<=1000000000:=by rw[Ie,jC] at y;omega
 refine dci Tryz.func95 Tryz.call95 ?_;simp only[go_sem,DVal.cells];intro I U;dsimp only at U;have af:=hw.frame U (.cells (Db s) 56);have bb:B0 I=none:=(hw.lo U).1;have ag:I≠r:=(hw.lo U).2;obtain⟨B1,M⟩: ∃X,X=upd B0 I (some (.cells (Db s) 56)):=⟨_,rfl⟩;have V:B1 I=some (.cells (Db s) 56):=by rw[M];exact Aa _ _ _
 have aa:Sub B0 B1:=by rw[M];exact(Sub.refl _).up bb _
 have ab:B1 r=none:=by rw[M,Ah _ _ _ _ ag.symm];exact hB
 obtain⟨K1,W⟩: ∃X,X=upd H I (some (.cells (Db s) 56)):=⟨_,rfl⟩;rw[<-M,<-W] at af;rw[<-W];have bc:K1 I=some (.cells (Db s) 56):=by rw[W];exact Aa _ _ _
 clear M W;simp only[go_sem,bc,Au,Aw2];refine(Fj hG s.name m1 f0.fitx B1 r _ _ ab (by omega) af).mono ?_;rintro _ Y ⟨rfl,Z⟩;have C:=Z.keep V ag;simp only[go_sem,C,Au,Al4,Ea (Af _)];intro p1 hp1;simp only[go_sem];refine Ad.monoR (Bj0 G Y [s.value] p1 _ _ (by simp) hp1 (by simp) (by intro x hx;simp at hx;subst hx;assumption) rfl) ?_;rw[show [s.value].all noE=noE s.value by simp];cases h0:noE s.value
 ·have ht:Ie s=Ai s.name++(Ag Bc::(Ai s.value++ [Ag Bs])):=by rw[Ie,h0];rfl
  rw[ht] at y⊢
  have mv:=m2 h0;simp only[go_sem];refine An pL6 ?_;simp only[go_sem,C,Au,Al4];have h0:St B0 B1 r _ Y:=⟨Z,ab,aa⟩;refine⟨?_, ?_⟩
  ·intro qb D;obtain⟨b4,b5,bd,ah,be,E⟩:=h0.new D (.cells [.str [41]] 9);rw[bd];have ai:=be _ _ V;have aj:=ah.g ai;(try simp only[go_sem,C,aj]);intro qa O;obtain⟨b6,b7,bf,ak,al,J⟩:=ah.new O (.cells [.str [40]] 9);rw[bf];have am:=al _ _ ai;have bg:=al _ _ E;have ao:=ak.g am;(try simp only[go_sem,aj,ao]);refine(ak.put hG [Bc] J (by(try simp only[jC,jA,jB,jN,jP] at y⊢)<;>omega)).mono ?_;rintro _ b8 ⟨rfl,ap⟩;have bh:=ap.g am;(try simp only[go_sem,ao,bh]);refine(ap.call (Fj hG s.value mv S.fitx) (by(try simp only[jC,jA,jB,jN,jP] at y⊢)<;>omega)).mono ?_;rintro _ b9 ⟨rfl,bi⟩;(try simp only[go_sem]);refine(bi.put hG [Bs] bg (by(try simp only[jC,jA,jB,jN,jP] at y⊢)<;>omega)).mono ?_;rintro _ ca ⟨rfl,aq⟩;(try simp only[go_sem]);exact Dj.refl ⟨rfl,by simpa using aq.hw.less aq.hs⟩
  ·intro qa O;obtain⟨cb,cc,bj,ac,bk,J⟩:=h0.new O (.cells [.str [40]] 9);rw[bj];have L:=bk _ _ V;have ad:=ac.g L;(try simp only[go_sem,C,ad]);refine⟨?_, ?_⟩
   ·intro qb D;obtain⟨cd,ce,bl,ar,au,E⟩:=ac.new D (.cells [.str [41]] 9);rw[bl];have av:=au _ _ L;have bm:=au _ _ J;have aw:=ar.g av;(try simp only[go_sem,ad,aw]);refine(ar.put hG [Bc] bm (by(try simp only[jC,jA,jB,jN,jP] at y⊢)<;>omega)).mono ?_;rintro _ cf ⟨rfl,ax⟩;have bn:=ax.g av;(try simp only[go_sem,aw,bn]);refine(ax.call (Fj hG s.value mv S.fitx) (by(try simp only[jC,jA,jB,jN,jP] at y⊢)<;>omega)).mono ?_;rintro _ cg ⟨rfl,bo⟩;(try simp only[go_sem]);refine(bo.put hG [Bs] E (by(try simp only[jC,jA,jB,jN,jP] at y⊢)<;>omega)).mono ?_;rintro _ ci ⟨rfl,ay⟩;(try simp only[go_sem]);exact Dj.refl ⟨rfl,by simpa using ay.hw.less ay.hs⟩
   ·refine(ac.put hG [Bc] J (by(try simp only[jC,jA,jB,jN,jP] at y⊢)<;>omega)).mono ?_;rintro _ cj ⟨rfl,ae⟩;have a0:=ae.g L;(try simp only[go_sem,ad,a0]);refine⟨?_, ?_⟩
    ·intro qb D;obtain⟨ck,cl,bp,a1,bq,E⟩:=ae.new D (.cells [.str [41]] 9);rw[bp];have br:=bq _ _ L;have bs:=a1.g br;(try simp only[go_sem,a0,bs]);refine(a1.call (Fj hG s.value mv S.fitx) (by(try simp only[jC,jA,jB,jN,jP] at y⊢)<;>omega)).mono ?_;rintro _ cm ⟨rfl,bt⟩;(try simp only[go_sem]);refine(bt.put hG [Bs] E (by(try simp only[jC,jA,jB,jN,jP] at y⊢)<;>omega)).mono ?_;rintro _ cn ⟨rfl,a2⟩;(try simp only[go_sem]);exact Dj.refl ⟨rfl,by simpa using a2.hw.less a2.hs⟩
    ·refine(ae.call (Fj hG s.value mv S.fitx) (by(try simp only[jC,jA,jB,jN,jP] at y⊢)<;>omega)).mono ?_;rintro _ co ⟨rfl,a3⟩;have bu:=a3.g L;(try simp only[go_sem]);intro qb D;obtain⟨cp,cq,bv,a4,bw,E⟩:=a3.new D (.cells [.str [41]] 9);rw[bv];have bx:=bw _ _ L;have bz:=a4.g bx;(try simp only[go_sem,bu,bz]);refine(a4.put hG [Bs] E (by(try simp only[jC,jA,jB,jN,jP] at y⊢)<;>omega)).mono ?_;rintro _ cr ⟨rfl,a5⟩;(try simp only[go_sem]);exact Dj.refl ⟨rfl,by simpa using a5.hw.less a5.hs⟩
 ·simp only[go_sem,C,Au,Aw3,Ea (Af _)];intro p2 hp2;simp only[go_sem];refine Ad.monoR (Bj0 G Y [s.lo] p2 _ _ (by simp) hp2 (by simp) (by intro x hx;simp at hx;subst hx;assumption) rfl) ?_;rw[show [s.lo].all noE=noE s.lo by simp];cases h1:noE s.lo
  ·(have ht:Ie s=Ai s.name++(Ag Ew::Dh s.lo s.hi):=by rw[Ie,h0,h1];rfl);rw[ht] at y⊢
   obtain⟨ml,mh⟩:=m3 h0 h1;simp only[go_sem];refine An pL14 ?_;simp only[go_sem,C,Au,Aw3,Bi9];have h0:St B0 B1 r _ Y:=⟨Z,ab,aa⟩;intro qa O;obtain⟨ct,cu,b0,a6,b1,J⟩:=h0.new O (.cells [.str [114,97,110,103,101]] 9);rw[b0];have a7:=b1 _ _ V;have a8:=a6.g a7;(try simp only[go_sem,C,a8]);refine(a6.put hG [Ew] J (by(try simp only[jC,jA,jB,jN,jP] at y⊢)<;>omega)).mono ?_;rintro _ cv ⟨rfl,a9⟩;have b2:=a9.g a7;(try simp only[go_sem,a8,b2]);refine(a9.call (Sq hG s.lo s.hi ml mh f1 f2) (by(try simp only[jC,jA,jB,jN,jP] at y⊢)<;>omega)).mono ?_;rintro _ cw ⟨rfl,ba⟩;(try simp only[go_sem]);exact Dj.refl ⟨rfl,by simpa using ba.hw.less ba.hs⟩
  ·(have ht:Ie s=Ai s.name:=by rw[Ie,h0,h1];simp);rw[ht];simp only[go_sem];exact Dj.refl ⟨rfl,by simpa using Z.less aa⟩
end
theorem Eh0 {d:Dis} (hm:Dt d=true):(noE d.lo=true->Bu d.name=true)/\(noE d.lo=false->Bu d.lo=true/\Bu d.hi=true/\(noE d.name=false->Bu d.name=true)):=by
 rw[Dt] at hm;by_cases c:(noE d.lo&&noE d.hi)=true
 ·rw[if_pos c] at hm;rw[jF] at c;refine⟨λ_=> ?_,λh=>(by rw[c.1] at h;cases h)⟩;rw[Bool.or_eq_true,jF] at hm;rcases hm with h|h
  ·rw[Ga,jF] at h;exact h.1
  ·exact h.2
 ·rw[if_neg c] at hm;rw[jF,jF] at hm;obtain⟨⟨h1,h2⟩,h3⟩:=hm;refine⟨λh=>(by rw[Eg8 h1] at h;cases h),λ_=>⟨h1,h2,λh=> ?_⟩⟩;rw[h,Bool.false_or,Ga,jF] at h3;exact h3.1
theorem Di8 {e:Ex} (h:Bu e=true):(Ap e 2).length<=5002:=by
 have:=Nq h;rw[Ap,Au3];split<;>omega
theorem Zt {a b:Ex} (ha:Bu a=true) (hb:Bu b=true):(Dh a b).length<=10005:=by
 have h1:=Di8 ha;have h2:=Di8 hb;rw[Dh,jC,jA];omega
theorem Bn0 {e:Ex} (h:Gk e=true):(Ph e).length<=5001:=by
 rw[Ph];cases c:noE e
 ·rw[Gk,c,Bool.false_or] at h;have:=Nq h;simp;omega
 ·simp
theorem Qp {s:Ind} (hm:Co s=true):(Ie s).length<=20000:=by
 obtain⟨C,D,y⟩:=Eg9 hm;have h1:=Nq C;rw[Ie,jC];cases h0:noE s.value
 ·have:=Nq (D h0);simp;omega
 ·cases h2:noE s.lo
  ·have:=Zt (y h0 h2).1 (y h0 h2).2;simp;omega
  ·simp;omega
theorem Bn1 {d:Dis} (hm:Dt d=true):(Nj d).length<=20000:=by
 obtain⟨y,C⟩:=Eh0 hm;rw[Nj];cases h1:noE d.lo
 ·obtain⟨D,E,I⟩:=C h1;have hb:=Zt D E;cases h0:noE d.name
  ·have:=Nq (I h0);simp;omega
  ·simp;omega
 ·have:=Nq (y h1);simp;omega
theorem Td {ws:List (List UInt8)} {m:Nat} (h:Ey ws m=true):ws.length<=m/\(Cq ws).length<=2*m:=by
 rw[Ey,jF,jF,decide_eq_true_eq,decide_eq_true_eq] at h;have h1:=Qj (ws:=ws) ws.length (Nat.le_refl _);rw[List.take_length] at h1;omega
theorem Gk4 {c:Cmp} (h:En c=true):(Uc c).length<=30000:=by
 rw[En,jF,jF] at h;have h1:=Td h.1.1;have h2:=Qp h.1.2;have h3:=Bn0 h.2;rw[Uc];simp;omega
section
variable {G:Nat->DVal}
theorem Bz6 (hG:GX G) (d:Dis) (hm:Dt d=true) (hs:Ud 16777216 d):SrC Tryz.prog G 96 [.agg (Du d)] (Nj d):=by
 intro B0 r ts H hB y hw;obtain⟨m1,J⟩:=Eh0 hm;obtain⟨f0,f1,f2⟩:=hs;refine dci Tryz.func96 Tryz.call96 ?_;simp only[go_sem,DVal.cells];intro D L;have M:=hw.frame L (.cells (Du d) 58);have ac:B0 D=none:=(hw.lo L).1;have O:D≠r:=(hw.lo L).2;obtain⟨B1,C⟩: ∃X,X=upd B0 D (some (.cells (Du d) 58)):=⟨_,rfl⟩;have aa:=C.symm▸Aa _ _ _;have S:=C.symm▸(Sub.refl _).up ac _;have E:B1 r=none:=by rw[C,Ah _ _ _ _ O.symm];exact hB
 obtain⟨K1,I⟩: ∃X,X=upd H D (some (.cells (Du d) 58)):=⟨_,rfl⟩;rw[<-C,<-I] at M;rw[<-I];have U:=I.symm▸Aa _ _ _;clear C I;simp only[go_sem,U,Bd,Vr,Ea (Af _)];intro p1 hp1;simp only[go_sem];refine Ad.monoR (Bj0 G K1 [d.name] p1 _ _ (by simp) hp1 (by simp) (by intro x hx;simp at hx;subst hx;assumption) rfl) ?_;rw[show [d.name].all noE=noE d.name by simp];cases h0:noE d.name
 ·have mn:Bu d.name=true:=by
   cases h1:noE d.lo
   ·exact(J h1).2.2 h0
   ·exact m1 h1
  have ad:ts.length+(Ai d.name).length<=1000000000:=by
   rw[Nj] at y;cases h1:noE d.lo
   ·rw[h1,h0] at y;simp at y;omega
   ·rw[h1] at y;simp at y;omega
  simp only[go_sem,U,Bd,Vr];refine(Fj hG d.name mn f0.fitx B1 r _ _ E ad M).mono ?_;rintro _ K2 ⟨rfl,V⟩;have g2:=V.keep aa O;simp only[go_sem,g2,Bd,Al5,Ea (Af _)];intro p2 hp2;simp only[go_sem];refine Ad.monoR (Bj0 G K2 [d.lo] p2 _ _ (by simp) hp2 (by simp) (by intro x hx;simp at hx;subst hx;assumption) rfl) ?_;rw[show [d.lo].all noE=noE d.lo by simp];cases h1:noE d.lo
  ·obtain⟨W,Y,-⟩:=J h1;(have ht:Nj d=Ai d.name++(Ag Ew::Dh d.lo d.hi):=by rw[Nj,h1,h0];rfl);rw[ht] at y⊢
   simp only[go_sem];intro q hq;simp only[go_sem];refine(Al8 hG Ew hq E (by(try simp only[jC,jA] at y⊢)<;>omega) V).mono ?_;rintro _ K3 ⟨rfl,ab⟩;have g3:=ab.keep aa O;simp only[go_sem,g3,Bd,Al5,Aw4];refine(Sq hG d.lo d.hi W Y f1 f2 B1 r _ _ E (by(try simp only[jC,jA,jB] at y⊢)<;>omega) ab).mono ?_;rintro _ K4 ⟨rfl,Z⟩;simp only[go_sem];exact Dj.refl ⟨rfl,by simpa using Z.less S⟩
  ·(have ht:Nj d=Ai d.name:=by rw[Nj,h1];rfl);rw[ht];simp only[go_sem];exact Dj.refl ⟨rfl,by simpa using V.less S⟩
 ·cases h1:noE d.lo
  ·obtain⟨W,Y,-⟩:=J h1;(have ht:Nj d=Dh d.lo d.hi:=by rw[Nj,h1,h0];rfl);rw[ht] at y⊢
   simp only[go_sem,U,Bd,Al5,Aw4];refine(Sq hG d.lo d.hi W Y f1 f2 B1 r _ _ E (by(try simp only[jC,jA,jB,jK,jN,jP,List.length_flatMap] at y⊢)<;>omega) M).mono ?_;rintro _ K4 ⟨rfl,Z⟩;simp only[go_sem];exact Dj.refl ⟨rfl,by simpa using Z.less S⟩
  ·exfalso;rw[Eg8 (m1 h1)] at h0;cases h0
end
def PAt (B:Ab) (r:Nat) (ls:List Lin) (H:Ab):Prop:= ∃v,Ik (upd B r (some (.cells [v] 143))) 154 2 ls.length (ls.flatMap Xg) v H
def PrC (P:Program) (G:Nat->DVal) (f:FuncId) (args:List DVal) (t:List Lin):Prop:=
 ∀B r ls H,B r=none->ls.length+t.length<=16000000->PAt B r ls H->Ad P G f (.optr r 0::args) H (λe H'=>e= .ret (.tuple [])/\PAt B r (ls++t) H')
section
variable {B B1 H H':Ab} {r x:Nat} {ls:List Lin}
theorem PAt.new (h:PAt B r ls H) (hx:H x=none) (o:Option DObj):PAt B r ls (upd H x o):=by
 obtain⟨v,h⟩:=h;exact⟨v,h.new hx o⟩
theorem PAt.more (h:PAt B r ls H) (s:Sub H H'):PAt B r ls H':=by
 obtain⟨v,h⟩:=h;exact⟨v,h.more s⟩
theorem PAt.less (h:PAt B r ls H) (s:Sub B1 B):PAt B1 r ls H:=by
 obtain⟨v,h⟩:=h;exact⟨v,h.less (s.both r _)⟩
theorem PAt.keep (h:PAt B r ls H) {o:DObj} (hx:B x=some o) (n:x≠r):H x=some o:=by
 obtain⟨v,h⟩:=h;exact h.keep (by rw[Ah _ _ _ _ n];exact hx)
theorem PAt.lo (h:PAt B r ls H) (hx:H x=none):B x=none/\x≠r:=by
 obtain⟨v,h⟩:=h;have:=h.sub.lo hx;simp only[upd] at this;split at this
 ·cases this
 ·exact⟨this,‹_›⟩
theorem PAt.frame (h:PAt B r ls H) (hx:H x=none) (o:DObj):PAt (upd B x (some o)) r ls (upd H x (some o)):=by
 have n:=(h.lo hx).2;obtain⟨v,h⟩:=h;refine⟨v, ?_⟩;rw[Ad3 n.symm];exact h.frame hx o
theorem PAt.start {B:Ab} {r:Nat} (hr:B r=none):PAt B r [] (upd B r (some (.cells [.nilSlice] 143))):=⟨_,.inl ⟨rfl,rfl,rfl,Sub.refl _⟩⟩
theorem PAt.cell (h:PAt B r ls H) (hr:B r=none): ∃v,H r=some (.cells [v] 143)/\Ln H v B (.vslice (ls.flatMap Xg) ls.length):=by
 obtain⟨v,h⟩:=h;exact⟨v,h.keep (Aa _ _ _),Ln.own (h.less ((Sub.refl B).up hr _))⟩
theorem PAt.sub (h:PAt B r ls H) (hr:B r=none):Sub B H:=by
 obtain⟨v,h⟩:=h;exact((Sub.refl B).up hr _).trans h.sub
theorem Li.cellF {K B:Ab} {q:Nat} {cs cs':List DVal} {e:TypeId} (C:K q=some (.cells cs e)) (D:Sub B K) (hs:Km K cs (upd B q (some (.cells cs' e))) cs') (v:DVal):Li K v (upd B q (some (.cells cs' e))) v:=λw y=>by
 have hd: ∀b,K b=none->(upd B q (some (.cells cs' e))) b=none:=λb hb=>by
  simp only[upd];split
  ·rename_i e1;rw[e1,C] at hb;cases hb
  ·exact D.lo hb
 refine⟨λb o hb=> ?_,λb hb h=>hb (hd b h),λx hx=>Rel.lasts (Wd hd w) _ _ hx⟩;simp only[upd] at hb;split at hb
 ·rename_i e1
  subst e1;cases hb;obtain⟨xs,c,fz,E,I,J,L⟩:=y _ _ C;exact⟨xs,c,fz,E,I,hs w y xs J,L⟩
 ·exact(y b o (D b o hb)).lasts (Wd hd w)
end
theorem Dy0 (ls:List Lin) (x:Lin):(ls++ [x]).flatMap Xg=ls.flatMap Xg++Xg x:=by simp
section
variable {G:Nat->DVal}
theorem Ir (G:Nat->DVal) {B y D:Ab} {r rw:Nat} {ls:List Lin} {ts:List Tok} (d:Int) (hp:PAt B r ls y) (hr:y rw=none) (hw:SAt y rw ts D) (hl:ls.length<=16000000):
  Ad Tryz.prog G 98 [.optr r 0,dI d,.optr rw 0] D (λe H'=>e= .ret (.tuple [])/\PAt B r (ls++ [⟨d,ts⟩]) H'):=by
 obtain⟨u,hu⟩:=hw;have S:=hu.keep (Aa _ _ _);have hs:Sub y D:=((Sub.refl y).up hr _).trans hu.sub;refine Ad.pre (Li.cellF (B:=y) (cs':= [Be ts]) S hs (.cons (Ln.ownD (λb hb=> ?_) (λb hb=> ?_) hu) .nil) _) ?_
 ·have h1:=hu.sub.lo hb;simp only[upd] at h1⊢
  split at h1
  ·cases h1
  ·rw[if_neg ‹_›];exact h1
 ·simp only[upd] at hb⊢
  split at hb
  ·cases hb
  ·rw[if_neg ‹_›];exact hb
 obtain⟨v,hv⟩:=hp;have J:=hv.keep (Aa _ _ _);have n:r≠rw:=Ac hr J;have L:=hv.new hr (some (.cells [Be ts] 146));obtain⟨H3,C⟩: ∃X,X=upd y rw (some (.cells [Be ts] 146)):=⟨_,rfl⟩;rw[<-C] at L⊢
 have U:=C.symm▸Aa _ _ _;have E:=C.symm▸Aj J n;clear C;refine dci Tryz.func98 Tryz.call98 ?_;simp only[go_sem];refine An (.take 0 (.take 1 (.take 2 (.take 3 (.take 4 (.take 5 (.take 6 (.take 7 (.take 8 (.take 9 (.take 10 (.go 11 [4] (.go 12 [] (.take 13 (.take 14 (.go 15 [] .done)))))))))))))))) ?_;simp only[go_sem,U,E,Be];intro q hq;have V:r≠q:=Ac hq E;have W:=L.new hq (some (.cells (Xg ⟨d,ts⟩) 154));simp only[go_sem,E,V];refine Ik.append (m:=1) W rfl (by omega) λM H6 I=> ?_;have Y:=I.keep (Aa _ _ _);obtain⟨Z,j2⟩:=I.cell1;simp only[go_sem,Y,Z,j2];refine Dj.refl ⟨rfl,M, ?_⟩;have O:=I.at (Aa _ _ _) (some (.cells [M] 143));rw[Gt] at O;rw[Dy0,jC,jQ];exact O
theorem Dy1 (hG:GX G) (d:Int) (ws:List (List UInt8)) (I:ws.length<=16000000):PrC Tryz.prog G 205 [dI d,dW ws] [⟨d,ws.map Ag⟩]:=by
 intro B r ls H J D hp;rw[jQ] at D;refine dci Tryz.func205 Tryz.call205 ?_;simp only[go_sem];intro rw y;simp only[go_sem];refine(Ak0 hG ws H rw [] _ y (by simp;omega) (SAt.start y)).mono ?_;rintro _ L ⟨rfl,C⟩;rw[jG] at C;simp only[go_sem];refine(Ir G d hp y C (by omega)).mono ?_;rintro _ M ⟨rfl,E⟩;simp only[go_sem];exact Dj.refl ⟨rfl,E⟩
theorem Bz7 (hG:GX G) (d:Int) (ws:List (List UInt8)) {B H:Ab} {r q:Nat} {ls:List Lin} (cs:List DVal) (C:ws.map .str=cs) (y:H q=none) (D:ws.length<=16000000) (E:B r=none) (I:ls.length+1<=16000000) (hp:PAt B r ls H):
  Ad Tryz.prog G 205 [.optr r 0,dI d,.oslice 1 q 0 ws.length ws.length] (upd H q (some (.cells cs 9))) (λe H'=>e= .ret (.tuple [])/\PAt B r (ls++ [⟨d,ws.map Ag⟩]) H'):=by
 subst C;refine Ad.fzA q y ?_;have n:r≠q:=λe=>(hp.lo y).2 e.symm;simp only[fzs,fz,if_neg n,if_pos,jJ,Nat.mul_one];rw[List.take_of_length_le (by simp)];exact Dy1 hG d ws D B r ls H E I hp
def Zu (d:Int) (c:Cmp):Lin:=⟨d,Uc c⟩
theorem Ah2 (hG:GX G) (l:List Cmp) (d:Int) (hm: ∀c∈l,En c=true) (hl:Ei Ka 16777216 l) (ax:l.length<=14400000):PrC Tryz.prog G 148 [Ci l,dI d] (Ly l d):=by
 intro B r ls H hB U hp;have ay:l.length<=(Ly l d).length/\(l.length=0->(Ly l d).length=1):=by
  rw[Ly];cases l<;>simp
 refine dci Tryz.func148 Tryz.call148 ?_;refine(λ(tail: ∀(S:DS) (C:List Lin),ls++Ly l d=C++l.map (Zu d)->C.length+l.length<=16000000->PAt B r C S.heap->S.env 0= .optr r 0->S.env 2=dI d->S.env 15=Ci l->S.env 16=dI l.length->S.env 17=dI 0->(?T:DS->Prop) S)=> ?A) ?B
 case A=>
  by_cases h0:l.length=0
  ·(have ad:(l.length:Int)=0:=by omega);have aa:l= []:=List.length_eq_zero_iff.1 h0;simp only[go_sem,Ci,ad];intro q hq;dsimp only at hq;simp only[go_sem];refine(Bz7 hG d [Gg,Hd] _ rfl hq (by simp) hB (by omega) hp).mono ?_;rintro _ K0 ⟨rfl,L⟩;(have ae:ls++Ly l d=ls++ [⟨d,[Gg,Hd].map Ag⟩]:=by rw[aa];rfl);obtain⟨C,J⟩: ∃C,C=ls++ [⟨d,[Gg,Hd].map Ag⟩]:=⟨_,rfl⟩;rw[<-J] at L ae;(have V:ls++Ly l d=C++l.map (Zu d):=by rw[ae,aa];simp);(have ab:C.length+l.length<=16000000:=by rw[J,jC,jQ];omega);clear J ae;simp only[go_sem];generalize hS:(DS.mk _ _:DS)=S;exact tail S C V ab (by rw[<-hS];exact L) (by rw[<-hS];first|rfl|simp only[go_sem,Ci]) (by rw[<-hS];first|rfl|simp only[go_sem,Ci]) (by rw[<-hS];first|rfl|simp only[go_sem,Ci]) (by rw[<-hS];first|rfl|simp only[go_sem,Ci]) (by rw[<-hS];first|rfl|simp only[go_sem,Ci])
  ·(have ad: ¬(l.length:Int)=0:=by omega);have aa:l≠ []:=λe=>h0 (by rw[e];rfl);simp only[go_sem,Ci,ad];obtain⟨C,J⟩: ∃C,C=ls:=⟨_,rfl⟩;have V:ls++Ly l d=C++l.map (Zu d):=by
    rw[Ly,if_neg (by simpa using aa),J];rfl
   (have ab:C.length+l.length<=16000000:=by rw[J];omega);(have L:PAt B r C H:=by rw[J];exact hp);clear J;generalize hS:(DS.mk _ _:DS)=S;exact tail S C V ab (by rw[<-hS];exact L) (by rw[<-hS];first|rfl|simp only[go_sem,Ci]) (by rw[<-hS];first|rfl|simp only[go_sem,Ci]) (by rw[<-hS];first|rfl|simp only[go_sem,Ci]) (by rw[<-hS];first|rfl|simp only[go_sem,Ci]) (by rw[<-hS];first|rfl|simp only[go_sem,Ci])
 case B=>
  rintro⟨E,X⟩ C V ab L z0 z2 z5 z6 z7;dsimp only at L z0 z2 z5 z6 z7;obtain⟨I,hI⟩: ∃I:Nat->(Nat->DVal)->Ab->Prop,∀k env heap,I k env heap↔(env 0= .optr r 0/\env 2=dI d/\env 15=Ci l/\env 16=dI l.length/\env 17=dI k/\k<=l.length/\PAt B r (C++(l.take k).map (Zu d)) heap):=⟨_,λ_ _ _=>Iff.rfl⟩;refine Ea9.run I (λk=>l.length-k) 0 ((hI _ _ _).2 ?_) ?_
  ·simp only[go_sem,Ci,z0,z2,z5,z6,z7];(repeat' apply And.intro)<;>(try first|rfl|assumption|omega);simpa using L
  ·clear z0 z2 z5 z6 z7;intro k env heap hi;obtain⟨e0,e2,ak,af,ag,hk,ah⟩:=(hI _ _ _).1 hi;by_cases ai:k<l.length
   ·(have aj:(k:Int)<(l.length:Int):=by omega);(have au:IntKind.i64.wrap ((k:Int)+1)=((k+1:Nat):Int):=by rw[IntKind.wrap_i64];omega);have al:=Bh Ez l k ai;have hfl:=Ak Ez l;have mx:=List.getElem_mem ai;(have am:(l.take (k+1)).map (Zu d)=(l.take k).map (Zu d)++ [Zu d l[k]]:=by rw[Qc ai,List.map_append,List.map_singleton]);obtain⟨x,hx⟩: ∃x,x=l[k]:=⟨_,rfl⟩;rw[<-hx] at al mx am;have hok:=hm x mx;rw[En,jF,jF] at hok;obtain⟨⟨o1,o2⟩,o3⟩:=hok;obtain⟨f0,f1,f2⟩:=hl.2 x mx;have a0:=Td o1;have a1:=Qp o2;have a2:=Bn0 o3;(have av:(C++(l.take k).map (Zu d)).length<=16000000:=by rw[jC,jK,List.length_take];omega);simp(disch:=omega)only[go_sem,ak,af,ag,Ci,aj,al,hfl,jD];intro r7 ao;dsimp only at ao;have ap:=ah.new ao (some (.cells (Ih x) 202));obtain⟨B0,ac⟩: ∃X,X=upd heap r7 (some (.cells (Ih x) 202)):=⟨_,rfl⟩;rw[<-ac] at ap;simp only[go_sem];rw[<-ac];(have aq:B0 r7=some (.cells (Ih x) 202):=by rw[ac];exact Aa _ _ _);clear ac;refine An (.take 0 (.take 1 (.take 3 (.take 4 (.take 8 (.take 9 (.take 11 (.take 12 (.alt (.go 6 [12,9,4] (.alt (.go 14 [12,9,4] (.go 2 [12,9,4] (.go 5 [12,9] (.go 7 [12,9] (.go 10 [12] (.go 13 [] (.go 15 [] (.go 16 [] .done)))))))) (.go 2 [12,9,4] (.alt (.go 14 [12,9,4] (.go 5 [12,9] (.go 7 [12,9] (.go 10 [12] (.go 13 [] (.go 15 [] (.go 16 [] .done))))))) (.go 5 [12,9] (.alt (.go 14 [12,9,4] (.go 7 [12,9] (.go 10 [12] (.go 13 [] (.go 15 [] (.go 16 [] .done)))))) (.go 7 [12,9] (.alt (.go 14 [12,9,4] (.go 10 [12] (.go 13 [] (.go 15 [] (.go 16 [] .done))))) (.go 10 [12] (.alt (.go 14 [12,9,4] (.go 13 [] (.go 15 [] (.go 16 [] .done)))) (.go 13 [] (.go 14 [12,9,4] (.go 15 [] (.go 16 [] .done)))))))))))))) (.alt (.go 14 [12,9,4] (.alt (.go 6 [12,9,4] (.go 2 [12,9,4] (.go 5 [12,9] (.go 7 [12,9] (.go 10 [12] (.go 13 [] (.go 15 [] (.go 16 [] .done)))))))) (.go 2 [12,9,4] (.alt (.go 6 [12,9,4] (.go 5 [12,9] (.go 7 [12,9] (.go 10 [12] (.go 13 [] (.go 15 [] (.go 16 [] .done))))))) (.go 5 [12,9] (.go 6 [12,9,4] (.go 7 [12,9] (.go 10 [12] (.go 13 [] (.go 15 [] (.go 16 [] .done))))))))))) (.go 2 [12,9,4] (.alt (.go 6 [12,9,4] (.alt (.go 14 [12,9,4] (.go 5 [12,9] (.go 7 [12,9] (.go 10 [12] (.go 13 [] (.go 15 [] (.go 16 [] .done))))))) (.go 5 [12,9] (.alt (.go 14 [12,9,4] (.go 7 [12,9] (.go 10 [12] (.go 13 [] (.go 15 [] (.go 16 [] .done)))))) (.go 7 [12,9] (.alt (.go 14 [12,9,4] (.go 10 [12] (.go 13 [] (.go 15 [] (.go 16 [] .done))))) (.go 10 [12] (.alt (.go 14 [12,9,4] (.go 13 [] (.go 15 [] (.go 16 [] .done)))) (.go 13 [] (.go 14 [12,9,4] (.go 15 [] (.go 16 [] .done)))))))))))) (.alt (.go 14 [12,9,4] (.alt (.go 6 [12,9,4] (.go 5 [12,9] (.go 7 [12,9] (.go 10 [12] (.go 13 [] (.go 15 [] (.go 16 [] .done))))))) (.go 5 [12,9] (.go 6 [12,9,4] (.go 7 [12,9] (.go 10 [12] (.go 13 [] (.go 15 [] (.go 16 [] .done))))))))) (.go 5 [12,9] (.alt (.go 14 [12,9,4] (.go 6 [12,9,4] (.go 7 [12,9] (.go 10 [12] (.go 13 [] (.go 15 [] (.go 16 [] .done))))))) (.go 6 [12,9,4] (.alt (.go 14 [12,9,4] (.go 7 [12,9] (.go 10 [12] (.go 13 [] (.go 15 [] (.go 16 [] .done)))))) (.go 7 [12,9] (.alt (.go 14 [12,9,4] (.go 10 [12] (.go 13 [] (.go 15 [] (.go 16 [] .done))))) (.go 10 [12] (.alt (.go 14 [12,9,4] (.go 13 [] (.go 15 [] (.go 16 [] .done)))) (.go 13 [] (.go 14 [12,9,4] (.go 15 [] (.go 16 [] .done))))))))))))))))))))))))) ?_;simp only[go_sem,aq,e0,e2,Ez,Df8,Ef7,Bx3];have W:=Sub.refl B0;have y:=aq
    repeat'
     first
     |with_reducible apply And.intro
     |with_reducible show Ad _ _ 93 _ _ _
      have D:=h.g y;refine(h.call (Ah1 hG x.names (by omega)) (by(try simp only[jB] at U⊢)<;>omega)).mono ?_;rintro _ K ⟨rfl,h⟩;try simp only[go_sem,D,h.g y]
     |with_reducible show Ad _ _ 95 _ _ _
      have D:=h.g y;refine(h.call (Rk hG x.sub o2 f1) (by(try simp only[jC,jA,jB,jN,jP] at U⊢)<;>omega)).mono ?_;rintro _ K ⟨rfl,h⟩;try simp only[go_sem,D,h.g y]
     |with_reducible show Ad _ _ 123 _ _ _
      have D:=h.g y;refine(h.call (Bj9 hG x.e o3 f2) (by(try simp only[jC,jA,jB,jN,jP] at U⊢)<;>omega)).mono ?_;rintro _ K ⟨rfl,h⟩;try simp only[go_sem]
     |with_reducible show Ad _ _ 92 _ _ _
      have D:=h.g y;refine(h.put hG [Rq] M (by(try simp only[jC,jA,jB,jN,jP] at U⊢)<;>omega)).mono ?_;rintro _ K ⟨rfl,h⟩;try simp only[go_sem,D,h.g y]
     |with_reducible show Ad _ _ 92 _ _ _
      have D:=h.g y;refine(h.put hG [Hd] O (by(try simp only[jC,jA,jB,jN,jP] at U⊢)<;>omega)).mono ?_;rintro _ K ⟨rfl,h⟩;try simp only[go_sem]
     |with_reducible show Ad _ _ 98 _ _ _
      refine(Ir G d (ap.more h.hs) h.hr h.hw av).mono ?_;rintro _ KZ ⟨rfl,aw⟩;simp only[go_sem,ag];refine⟨k+1,_,Rn.refl _,(hI _ _ _).2 ?_,by omega⟩;simp only[go_sem,e0,e2,ak,af,au];(repeat' apply And.intro)<;>(try first|rfl|assumption|omega);rw[am,<-jO];simpa [Zu,Uc] using aw
     |intro qa Y;dsimp only at Y
      have D:=h.g y;obtain⟨B,K,e,h,s,M⟩:=h.new Y (.cells [.str [58]] 9);rw[e];replace y:=s _ _ y;(try replace O:=s _ _ O);try simp only[go_sem,D,h.g y]
     |intro qa Y;dsimp only at Y
      have D:=y;obtain⟨K,e,W,s,M⟩:=W.newK Y (.cells [.str [58]] 9);rw[e];replace y:=s _ _ y;(try replace O:=s _ _ O);try simp only[go_sem,D,y]
     |intro qb Z;dsimp only at Z
      have D:=h.g y;obtain⟨B,K,e,h,s,O⟩:=h.new Z (.cells [.str [59]] 9);rw[e];replace y:=s _ _ y;(try replace M:=s _ _ M);try simp only[go_sem,D,h.g y]
     |intro qb Z;dsimp only at Z
      have D:=y;obtain⟨K,e,W,s,O⟩:=W.newK Z (.cells [.str [59]] 9);rw[e];replace y:=s _ _ y;(try replace M:=s _ _ M);try simp only[go_sem,D,y]
     |intro rw ar;dsimp only at ar
      have D:=y;obtain⟨K,e,h⟩:=St.start W ar;rw[e];try simp only[go_sem,D,h.g y]
   ·(have:k=l.length:=by omega);subst this;(have aj: ¬(l.length:Int)<(l.length:Int):=by omega);rw[List.take_length] at ah;simp only[go_sem,af,ag,aj];exact Dj.refl ⟨rfl,by rw[V];exact ah⟩
end
section
variable {G:Nat->DVal}
theorem Di9 (l:List Ch):(Lt l).1.length<=200000:=by
 rw[Lt];split
 ·have:=Bd6 ‹_›;dsimp only;omega
 ·exact Nat.zero_le _
end
section
variable {P:Program} {G:Nat->DVal} {N:Nat} {Q:DExit->DS->Prop}
theorem Gk5 {id:Nat} {y:Array Oper} {s:DS} (C:DExit->DS->Prop) (h:dwp P G N (.region id y true) C s) (k: ∀e s',C e s'->Q e s'):dwp P G N (.region id y true) Q s:=by
 simp only[dwp] at h⊢
 intro F n B D a w hS;exact wpIn_mono (h F n B D a w hS) λe a w ⟨e',s',q,r⟩=>⟨e',s',k _ _ q,r⟩
end
section
end
def Ak1 (d:Int) (v:List UInt8):Lin:=⟨Ps (d+1),[Ag Lv,Eg v,Ag wIs]⟩
theorem Ah3 (l:List Cmp) (d:Int):(Ly l d).length<=l.length+1:=by
 rw[Ly];split<;>simp
theorem Dj0 (d:Int) (l:List Arm) (h: ∀a∈l,a.comps.length<=40):(l.flatMap (Af4 d)).length<=l.length*42:=by
 induction l with
 |nil=>simp
 |cons a l ih=>
  have h1:=ih λx hx=>h x (List.mem_cons_of_mem _ hx);have h2:=h a (List.mem_cons_self ..);have h3:=Ah3 a.comps (Ps (d+3));rw[List.flatMap_cons,jC,jA,Af4,jA];omega
section
variable {G:Nat->DVal}
def Ay0 (t:Typ) (d:Int):List Lin:=(if t.var= [] then [] else Ak1 d t.var::(t.arms.flatMap (Af4 d)++ [⟨Ps (d+1),[Ag Ri,Ag Lv,Ag Hd]⟩]))++ [⟨d,[Ag Ri,Ag Cs]⟩]
def Zv (t:Typ) (d:Int):List Lin:=⟨d,[Ag Cs]⟩::(if t.comps.isEmpty then [] else Ly t.comps (Ps (d+1)))
theorem Gk6 (t:Typ) (d:Int):Bx0 t d=Zv t d++Ay0 t d:=by rw[Bx0,Zv,Ay0];simp [Ak1]
theorem Ay1 (hG:GX G) (t:Typ) (d:Int) (hm:Gs t=true) (ht:Lb 16777216 t) (b1:t.comps.length<=40) (au: ∀a∈t.arms,a.comps.length<=40) (B:Ab) (r:Nat) (ls:List Lin) (H:Ab) (hB:B r=none) (av:ls.length<=100) (hp:PAt B r ls H):
  Ad Tryz.prog G 97 [.optr r 0,.agg (Cf t),dI d] H (λe H'=>e= .ret (.tuple [])/\PAt B r (ls++Bx0 t d) H'):=by
 obtain⟨f0,f1,f2,f3,f4,f5,f6,f7⟩:=ht;simp only[Gs,jF,decide_eq_true_eq,List.all_eq_true] at hm;obtain⟨⟨⟨⟨⟨bn,-⟩,b2⟩,-⟩,bo⟩,-⟩:=hm;have bp: ∀a∈t.arms,(∀c∈a.comps,En c=true)/\Ia a.c=true:=λa ha=>by
  have:=bo a ha;rw[Eu,jF,List.all_eq_true] at this;exact this
 have b3:=Ah3 t.comps (Ps (d+1));have b4:(Cq [t.var]).length=1:=rfl;refine dci Tryz.func97 Tryz.call97 ?_;simp only[go_sem,DVal.cells];intro O al;dsimp only at al;have a9:=hp.frame al (.cells (Cf t) 62);have bq:B O=none:=(hp.lo al).1;have am:O≠r:=(hp.lo al).2;obtain⟨B1,ad⟩: ∃X,X=upd B O (some (.cells (Cf t) 62)):=⟨_,rfl⟩;have aw:B1 O=some (.cells (Cf t) 62):=by rw[ad];exact Aa _ _ _
 have ba:Sub B B1:=by rw[ad];exact(Sub.refl _).up bq _
 have aa:B1 r=none:=by rw[ad,Ah _ _ _ _ am.symm];exact hB
 obtain⟨K1,ao⟩: ∃X,X=upd H O (some (.cells (Cf t) 62)):=⟨_,rfl⟩;rw[<-ad,<-ao] at a9;rw[<-ao];have b5:K1 O=some (.cells (Cf t) 62):=by rw[ao];exact Aa _ _ _
 clear ad ao;simp only[go_sem];intro q1 bb;dsimp only at bb;simp only[go_sem];refine(Bz7 hG _ [Cs] _ rfl bb (by simp) aa (by omega) a9).mono ?_;rintro _ K2 ⟨rfl,hp2⟩;have ax:=hp2.keep aw am;obtain⟨D,ae⟩: ∃l,l=ls++Zv t d:=⟨_,rfl⟩;have V:ls++Bx0 t d=D++Ay0 t d:=by rw[Gk6,ae,jO]
 refine(λ(tail: ∀S:DS,S.heap O=some (.cells (Cf t) 62)->PAt B1 r D S.heap->D.length<=300->S.env 0= .optr r 0->S.env 2=dI d->S.env 4= .optr O 0->(?T:DS->Prop) S)=> ?A) ?B
 case A=>
  by_cases c0:t.comps.length=0
  ·(have ay: ¬(0:Int)<(t.comps.length:Int):=by omega);have af:t.comps= []:=List.length_eq_zero_iff.1 c0;(have ap:D.length<=300:=by rw[ae,Zv,af];simp;omega);(have W:PAt B1 r D K2:=by rw[ae,Zv,af];exact hp2);have U:=ax;obtain⟨B0,bc⟩: ∃X,X=K2:=⟨_,rfl⟩;simp only[go_sem,ax,Ci,ay];rw[<-bc] at W U⊢
   clear bc;generalize hS:(DS.mk _ B0:DS)=S;(have hH:S.heap=B0:=by rw[<-hS]);exact tail S (by rw[hH];exact U) (by rw[hH];exact W) ap (by rw[<-hS];first|rfl|simp only[go_sem]) (by rw[<-hS];first|rfl|simp only[go_sem]) (by rw[<-hS];first|rfl|simp only[go_sem])
  ·(have ay:(0:Int)<(t.comps.length:Int):=by omega);(have af: ¬t.comps.isEmpty=true:=by intro e;exact c0 (by rw[List.isEmpty_iff.1 e];rfl));(have ap:D.length<=300:=by rw[ae,Zv,if_neg af,jC,jA];omega);simp only[go_sem,ax,Ci,ay];refine(Ah2 hG t.comps _ bn f5 (by omega) B1 r _ _ aa (by rw[jC,jQ];have:=Ah3 t.comps (IntKind.i64.wrap (d+1));omega) hp2).mono ?_;rintro _ B0 ⟨rfl,a0⟩;have U:=a0.keep aw am;(have W:PAt B1 r D B0:=by rw[ae,Zv,if_neg af];simpa [Ps] using a0);clear a0;simp only[go_sem,U];generalize hS:(DS.mk _ B0:DS)=S;(have hH:S.heap=B0:=by rw[<-hS]);exact tail S (by rw[hH];exact U) (by rw[hH];exact W) ap (by rw[<-hS];first|rfl|simp only[go_sem]) (by rw[<-hS];first|rfl|simp only[go_sem]) (by rw[<-hS];first|rfl|simp only[go_sem])
 case B=>
  rintro⟨E,B0⟩ U W ap z0 z2 z4;dsimp only at U W z0 z2 z4;by_cases v0:t.var= []
  ·simp only[go_sem,z0,z2,v0];intro q9 aq;dsimp only at aq;simp only[go_sem];refine(Bz7 hG _ [Ri,Cs] _ rfl aq (by simp) aa (by omega) W).mono ?_;rintro _ K9 ⟨rfl,ab⟩;simp only[go_sem];refine Dj.refl ⟨rfl, ?_⟩;rw[V,Ay0,if_pos v0];exact ab.less ba
  ·simp only[go_sem,v0];refine Gk5 (λe s'=>e= .normal/\s'.env 0= .optr r 0/\s'.env 2=dI d/\s'.env 4= .optr O 0/\PAt B1 r (D++ [Ak1 d t.var]) s'.heap) ?_ ?_
   ·refine An (.take 0 (.take 1 (.take 2 (.take 6 (.take 7 (.alt (.go 4 [7] (.alt (.go 8 [] (.alt (.go 10 [7] (.go 3 [7] (.go 5 [7] (.go 9 [] (.go 11 [] (.go 12 [] .done)))))) (.go 3 [7] (.alt (.go 10 [7] (.go 5 [7] (.go 9 [] (.go 11 [] (.go 12 [] .done))))) (.go 5 [7] (.alt (.go 10 [7] (.go 9 [] (.go 11 [] (.go 12 [] .done)))) (.go 9 [] (.go 10 [7] (.go 11 [] (.go 12 [] .done)))))))))) (.alt (.go 10 [7] (.alt (.go 8 [] (.go 3 [7] (.go 5 [7] (.go 9 [] (.go 11 [] (.go 12 [] .done)))))) (.go 3 [7] (.alt (.go 8 [] (.go 5 [7] (.go 9 [] (.go 11 [] (.go 12 [] .done))))) (.go 5 [7] (.go 8 [] (.go 9 [] (.go 11 [] (.go 12 [] .done))))))))) (.go 3 [7] (.alt (.go 8 [] (.alt (.go 10 [7] (.go 5 [7] (.go 9 [] (.go 11 [] (.go 12 [] .done))))) (.go 5 [7] (.alt (.go 10 [7] (.go 9 [] (.go 11 [] (.go 12 [] .done)))) (.go 9 [] (.go 10 [7] (.go 11 [] (.go 12 [] .done)))))))) (.alt (.go 10 [7] (.alt (.go 8 [] (.go 5 [7] (.go 9 [] (.go 11 [] (.go 12 [] .done))))) (.go 5 [7] (.go 8 [] (.go 9 [] (.go 11 [] (.go 12 [] .done))))))) (.go 5 [7] (.alt (.go 10 [7] (.go 8 [] (.go 9 [] (.go 11 [] (.go 12 [] .done))))) (.go 8 [] (.alt (.go 10 [7] (.go 9 [] (.go 11 [] (.go 12 [] .done)))) (.go 9 [] (.go 10 [7] (.go 11 [] (.go 12 [] .done)))))))))))))) (.alt (.go 8 [] (.alt (.go 4 [7] (.alt (.go 10 [7] (.go 3 [7] (.go 5 [7] (.go 9 [] (.go 11 [] (.go 12 [] .done)))))) (.go 3 [7] (.alt (.go 10 [7] (.go 5 [7] (.go 9 [] (.go 11 [] (.go 12 [] .done))))) (.go 5 [7] (.alt (.go 10 [7] (.go 9 [] (.go 11 [] (.go 12 [] .done)))) (.go 9 [] (.go 10 [7] (.go 11 [] (.go 12 [] .done)))))))))) (.alt (.go 10 [7] (.alt (.go 4 [7] (.go 3 [7] (.go 5 [7] (.go 9 [] (.go 11 [] (.go 12 [] .done)))))) (.go 3 [7] (.go 4 [7] (.go 5 [7] (.go 9 [] (.go 11 [] (.go 12 [] .done)))))))) (.go 3 [7] (.alt (.go 10 [7] (.go 4 [7] (.go 5 [7] (.go 9 [] (.go 11 [] (.go 12 [] .done)))))) (.go 4 [7] (.alt (.go 10 [7] (.go 5 [7] (.go 9 [] (.go 11 [] (.go 12 [] .done))))) (.go 5 [7] (.alt (.go 10 [7] (.go 9 [] (.go 11 [] (.go 12 [] .done)))) (.go 9 [] (.go 10 [7] (.go 11 [] (.go 12 [] .done))))))))))))) (.alt (.go 10 [7] (.alt (.go 4 [7] (.alt (.go 8 [] (.go 3 [7] (.go 5 [7] (.go 9 [] (.go 11 [] (.go 12 [] .done)))))) (.go 3 [7] (.alt (.go 8 [] (.go 5 [7] (.go 9 [] (.go 11 [] (.go 12 [] .done))))) (.go 5 [7] (.go 8 [] (.go 9 [] (.go 11 [] (.go 12 [] .done))))))))) (.alt (.go 8 [] (.alt (.go 4 [7] (.go 3 [7] (.go 5 [7] (.go 9 [] (.go 11 [] (.go 12 [] .done)))))) (.go 3 [7] (.go 4 [7] (.go 5 [7] (.go 9 [] (.go 11 [] (.go 12 [] .done)))))))) (.go 3 [7] (.alt (.go 8 [] (.go 4 [7] (.go 5 [7] (.go 9 [] (.go 11 [] (.go 12 [] .done)))))) (.go 4 [7] (.alt (.go 8 [] (.go 5 [7] (.go 9 [] (.go 11 [] (.go 12 [] .done))))) (.go 5 [7] (.go 8 [] (.go 9 [] (.go 11 [] (.go 12 [] .done)))))))))))) (.go 3 [7] (.alt (.go 8 [] (.alt (.go 10 [7] (.go 4 [7] (.go 5 [7] (.go 9 [] (.go 11 [] (.go 12 [] .done)))))) (.go 4 [7] (.alt (.go 10 [7] (.go 5 [7] (.go 9 [] (.go 11 [] (.go 12 [] .done))))) (.go 5 [7] (.alt (.go 10 [7] (.go 9 [] (.go 11 [] (.go 12 [] .done)))) (.go 9 [] (.go 10 [7] (.go 11 [] (.go 12 [] .done)))))))))) (.alt (.go 10 [7] (.alt (.go 8 [] (.go 4 [7] (.go 5 [7] (.go 9 [] (.go 11 [] (.go 12 [] .done)))))) (.go 4 [7] (.alt (.go 8 [] (.go 5 [7] (.go 9 [] (.go 11 [] (.go 12 [] .done))))) (.go 5 [7] (.go 8 [] (.go 9 [] (.go 11 [] (.go 12 [] .done))))))))) (.go 4 [7] (.alt (.go 8 [] (.alt (.go 10 [7] (.go 5 [7] (.go 9 [] (.go 11 [] (.go 12 [] .done))))) (.go 5 [7] (.alt (.go 10 [7] (.go 9 [] (.go 11 [] (.go 12 [] .done)))) (.go 9 [] (.go 10 [7] (.go 11 [] (.go 12 [] .done)))))))) (.alt (.go 10 [7] (.alt (.go 8 [] (.go 5 [7] (.go 9 [] (.go 11 [] (.go 12 [] .done))))) (.go 5 [7] (.go 8 [] (.go 9 [] (.go 11 [] (.go 12 [] .done))))))) (.go 5 [7] (.alt (.go 10 [7] (.go 8 [] (.go 9 [] (.go 11 [] (.go 12 [] .done))))) (.go 8 [] (.alt (.go 10 [7] (.go 9 [] (.go 11 [] (.go 12 [] .done)))) (.go 9 [] (.go 10 [7] (.go 11 [] (.go 12 [] .done)))))))))))))))))))))) ?_;simp only[go_sem,z0,z2,z4,U];have Z:=Sub.refl B0;have y:=U
    repeat'
     first
     |with_reducible apply And.intro
     |with_reducible show Ad _ _ 92 _ _ _
      have C:=h.g y;refine(h.put hG [Lv] J (by(try simp only[jC,jA,jB,jN,jP] at av⊢)<;>omega)).mono ?_;rintro _ K ⟨rfl,h⟩;try simp only[go_sem,C,h.g y]
     |with_reducible show Ad _ _ 92 _ _ _
      have C:=h.g y;refine(h.put hG [wIs] L (by(try simp only[jC,jA,jB,jN,jP] at av⊢)<;>omega)).mono ?_;rintro _ K ⟨rfl,h⟩;try simp only[go_sem]
     |with_reducible show Ad _ _ 93 _ _ _
      have C:=h.g y;refine(h.nms hG [t.var] (by simp) M (by(try simp only[jC,jA,jB,jN,jP] at av⊢)<;>omega)).mono ?_;rintro _ K ⟨rfl,h⟩;try simp only[go_sem]
     |with_reducible show Ad _ _ 98 _ _ _
      refine(Ir G _ (W.more h.hs) h.hr h.hw (by omega)).mono ?_;rintro _ KZ ⟨rfl,a1⟩;simp only[go_sem,z0,z2,z4];(have ac:PAt B1 r (D++ [Ak1 d t.var]) KZ:=by simpa [Ak1,Ps,Cq,Dw] using a1);exact ac
     |intro qa ag;dsimp only at ag
      have C:=h.g y;obtain⟨B,K,e,h,s,J⟩:=h.new ag (.cells [.str [99,97,115,101]] 9);rw[e];replace y:=s _ _ y;(try replace M:=s _ _ M);(try replace L:=s _ _ L);try simp only[go_sem,C,h.g y]
     |intro qa ag;dsimp only at ag
      have C:=y;obtain⟨K,e,Z,s,J⟩:=Z.newK ag (.cells [.str [99,97,115,101]] 9);rw[e];replace y:=s _ _ y;(try replace M:=s _ _ M);(try replace L:=s _ _ L);try simp only[go_sem,C,y]
     |intro qn ah;dsimp only at ah
      have C:=h.g y;obtain⟨B,K,e,h,s,M⟩:=h.new ah (.cells [.str t.var] 9);rw[e];replace y:=s _ _ y;(try replace J:=s _ _ J);(try replace L:=s _ _ L);try simp only[go_sem]
     |intro qn ah;dsimp only at ah
      have C:=y;obtain⟨K,e,Z,s,M⟩:=Z.newK ah (.cells [.str t.var] 9);rw[e];replace y:=s _ _ y;(try replace J:=s _ _ J);(try replace L:=s _ _ L);try simp only[go_sem]
     |intro qb ai;dsimp only at ai
      have C:=h.g y;obtain⟨B,K,e,h,s,L⟩:=h.new ai (.cells [.str [105,115]] 9);rw[e];replace y:=s _ _ y;(try replace J:=s _ _ J);(try replace M:=s _ _ M);try simp only[go_sem,C,h.g y]
     |intro qb ai;dsimp only at ai
      have C:=y;obtain⟨K,e,Z,s,L⟩:=Z.newK ai (.cells [.str [105,115]] 9);rw[e];replace y:=s _ _ y;(try replace J:=s _ _ J);(try replace M:=s _ _ M);try simp only[go_sem,C,y]
     |intro rw Y;dsimp only at Y
      have C:=y;obtain⟨K,e,h⟩:=St.start Z Y;rw[e];try simp only[go_sem,C,h.g y]
   ·rintro _ ⟨env,K5⟩ ⟨rfl,x0,x2,x4,ac⟩;dsimp only at x0 x2 x4 ac;have br:=ac.keep aw am;obtain⟨aj,ar⟩: ∃l,l=D++ [Ak1 d t.var]:=⟨_,rfl⟩;(have b6:aj.length<=301:=by rw[ar,jC,jQ];omega);(have hR:ls++Bx0 t d=aj++t.arms.flatMap (Af4 d)++ [⟨Ps (d+1),[Ag Ri,Ag Lv,Ag Hd]⟩]++ [⟨d,[Ag Ri,Ag Cs]⟩]:=by rw[V,Ay0,if_neg v0,ar];simp);rw[<-ar] at ac;clear ar;simp only[go_sem,x4,br,Ep];obtain⟨I,hI⟩: ∃I:Nat->(Nat->DVal)->Ab->Prop,∀k env heap,I k env heap↔(env 0= .optr r 0/\env 2=dI d/\env 42=Ep t.arms/\env 43=dI t.arms.length/\env 44=dI k/\k<=t.arms.length/\PAt B1 r (aj++(t.arms.take k).flatMap (Af4 d)) heap):=⟨_,λ_ _ _=>Iff.rfl⟩;refine Ea9.run I (λk=>t.arms.length-k) 0 ((hI _ _ _).2 ?_) ?_
    ·simp only[go_sem,x0,x2,Ep];(repeat' apply And.intro)<;>(try first|rfl|assumption|omega);simpa using ac
    ·clear x0 x2 x4;intro k env heap hi;obtain⟨e0,e2,bd,a2,a3,hk,ak⟩:=(hI _ _ _).1 hi;by_cases a4:k<t.arms.length
     ·(have a5:(k:Int)<(t.arms.length:Int):=by omega);(have bs:IntKind.i64.wrap ((k:Int)+1)=((k+1:Nat):Int):=by rw[IntKind.wrap_i64];omega);have be:=Bh Fa t.arms k a4;have hfl:=Ak Fa t.arms;have mx:=List.getElem_mem a4;(have bf:(t.arms.take (k+1)).flatMap (Af4 d)=(t.arms.take k).flatMap (Af4 d)++Af4 d t.arms[k]:=by rw[Qc a4,List.flatMap_append];simp);have bg:=Dj0 d (t.arms.take k) λa ha=>au a (List.mem_of_mem_take ha);rw[List.length_take] at bg;obtain⟨x,hx⟩: ∃x,x=t.arms[k]:=⟨_,rfl⟩;rw[<-hx] at be mx bf;obtain⟨x1,x2⟩:=bp x mx;have x3:=au x mx;have b8:=Di9 x.c;have fx:=f7.2 x mx;have fc:=fx.1.1;(have bt:(aj++(t.arms.take k).flatMap (Af4 d)).length<=10000:=by rw[jC];omega);simp(disch:=omega)only[go_sem,bd,a2,a3,Ep,a5,be,hfl,jD];intro r7 a6;have a7:=ak.frame a6 (.cells (Kk x) 164);have z7:B1 r7=none:=(ak.lo a6).1;have n7:r7≠r:=(ak.lo a6).2;obtain⟨B7,V⟩: ∃X,X=upd B1 r7 (some (.cells (Kk x) 164)):=⟨_,rfl⟩;(have b7:B7 r7=some (.cells (Kk x) 164):=by rw[V];exact Aa _ _ _);(have s7:Sub B1 B7:=by rw[V];exact(Sub.refl _).up z7 _);(have bu:B7 r=none:=by rw[V,Ah _ _ _ _ n7.symm];exact aa);obtain⟨K7,bh⟩: ∃X,X=upd heap r7 (some (.cells (Kk x) 164)):=⟨_,rfl⟩;rw[<-V,<-bh] at a7;clear V;have g7:=a7.keep b7 n7;simp only[go_sem];rw[<-bh];simp only[go_sem,Ci5];refine Ad.monoR (Av7 hG _ x.c (by omega) fx.1.2) ?_;simp only[go_sem];intro rw Y;dsimp only at Y;simp only[go_sem];intro q hq;dsimp only at hq;simp only[go_sem];refine(Al8 hG Pg hq Y (by simp) (SAt.start Y)).mono ?_;rintro _ K2 ⟨rfl,bi⟩;rw[jG] at bi;simp only[go_sem];obtain⟨v,hv⟩:=bi;have gr:=hv.keep (Aa _ _ _);have bj:=Ak Az (Lt x.c).1;simp only[go_sem,gr,Be,Ax9,Al9,bj];refine Ik.append (m:=(Lt x.c).1.length) hv bj (by simp;omega) λv2 H6 a8=> ?_;have g6:=a8.keep (Aa _ _ _);obtain⟨j1,j2⟩:=a8.cell1;simp only[go_sem,e0,e2,g6,j1,j2];have bk:=a8.at (Aa _ _ _) (some (.cells [v2] 146));rw[Gt] at bk;have bv:SAt K7 rw (([Ag Pg]:List Tok)++(Lt x.c).1) (upd H6 rw (some (.cells [v2] 146))):=⟨v2,by rw[jC,List.flatMap_append];exact bk⟩;intro q2 bl;dsimp only at bl;simp only[go_sem];refine(Al8 hG Bp bl Y (by simp;omega) bv).mono ?_;rintro _ K8 ⟨rfl,bw⟩;simp only[go_sem];refine(Ir G _ a7 Y bw (by omega)).mono ?_;rintro _ K9 ⟨rfl,ab⟩;have g9:=ab.keep b7 n7;have b9:=Ah3 x.comps (IntKind.i64.wrap (d+3));simp only[go_sem,e0,e2,g9,Ci6];refine(Ah2 hG x.comps _ x1 fx.2 (by omega) B7 r _ _ bu (by rw[jC,jQ];omega) ab).mono ?_;rintro _ KA ⟨rfl,bx⟩;simp only[go_sem,a3];refine⟨k+1,_,Rn.refl _,(hI _ _ _).2 ?_,by omega⟩;simp only[go_sem,e0,e2,bd,a2,bs];(repeat' apply And.intro)<;>(try first|rfl|assumption|omega);rw[bf,<-jO];have bz:=bx.less s7;simpa [Af4,Ps] using bz
     ·(have:k=t.arms.length:=by omega);subst this;(have a5: ¬(t.arms.length:Int)<(t.arms.length:Int):=by omega);rw[List.take_length] at ak;have bg:=Dj0 d t.arms au;(have bt:(aj++t.arms.flatMap (Af4 d)).length<=10000:=by rw[jC];omega);simp only[go_sem,e0,e2,a2,a3,a5];intro q8 bm;dsimp only at bm;simp only[go_sem];refine(Bz7 hG _ [Ri,Lv,Hd] _ rfl bm (by simp) aa (by omega) ak).mono ?_;rintro _ K8 ⟨rfl,b0⟩;simp only[go_sem,e0,e2];intro q9 aq;simp only[go_sem];refine(Bz7 hG _ [Ri,Cs] _ rfl aq (by simp) aa (by rw[jC,jQ];omega) b0).mono ?_;rintro _ K9 ⟨rfl,ab⟩;simp only[go_sem];refine Dj.refl ⟨rfl, ?_⟩;have a1:=ab.less ba;rw[hR];simpa [Ps] using a1
end
theorem Dy2 (ts:List Tok):(Be ts).cells= [Be ts]:=rfl
theorem Ft7 (ts:List Tok):(Be ts).one=true:=rfl
attribute [go_sem] Dy2 Ft7
section
variable (G:Nat->DVal) (H:Ab)
theorem Cj6 {l:List Asp} (h:0<l.length):Mq (l.take 1)=Af3 l[0]:=by
 cases l with
 |nil=>simp at h
 |cons s l=>rfl
theorem Bz8 {l:List Asp} {k:Nat} (y:k<l.length) (hk:0<k):Mq (l.take (k+1))=Mq (l.take k)++Ag Dm::Af3 l[k]:=by
 unfold Mq;rw[Qc y,List.map_append,List.map_singleton,Xa _ _ _ (by
  intro e;have:=congrArg List.length e;rw[jK,List.length_take,jB] at this;omega)]
theorem Eh1 {a:Asp} (h:Nh a=true):(Af3 a).length<=5002:=by
 rw[Nh,jF] at h;have:=Nq h.2;rw[Af3,jA,jA];omega
theorem Bz9 {l:List Asp} (h: ∀a∈l,Nh a=true): ∀k,k<=l.length->(Mq (l.take k)).length<=k*5003
 | 0,_=>by simp [Mq,Dw]
 | 1,hk=>by
  rw[Cj6 (by omega)];have:=Eh1 (h _ (List.getElem_mem (show 0<l.length by omega)));omega
 |k+2,hk=>by
  rw[Bz8 (by omega) (by omega),jC,jA];have:=Bz9 h (k+1) (by omega);have:=Eh1 (h _ (List.getElem_mem (show k+1<l.length by omega)));omega
theorem Cj7 {l:List Par} (h:0<l.length):Lx (l.take 1)=Pj l[0]:=by
 cases l with
 |nil=>simp at h
 |cons s l=>rfl
theorem Ca0 {l:List Par} {k:Nat} (y:k<l.length) (hk:0<k):Lx (l.take (k+1))=Lx (l.take k)++Ag Hd::Pj l[k]:=by
 unfold Lx;rw[Qc y,List.map_append,List.map_singleton,Xa _ _ _ (by
  intro e;have:=congrArg List.length e;rw[jK,List.length_take,jB] at this;omega)]
theorem Ah4 {p:Par} (h:Fp p=true):Ey p.names 8=true/\Bu p.type=true/\Gk p.e=true:=by
 simp only[Fp,jF] at h;obtain⟨⟨⟨⟨⟨h1,h2⟩,h3⟩,-⟩,-⟩,-⟩:=h;rw[Ga,jF] at h2;exact⟨h1,h2.1,h3⟩
theorem Ft8 (m:Int):(Xi m).length<=2:=by
 rw[Xi];split
 ·simp
 ·split<;>simp
theorem Eh2 {p:Par} (h:Fp p=true):(Pj p).length<=10100:=by
 obtain⟨h1,h2,h3⟩:=Ah4 h;have:=(Td h1).2;have:=Nq h2;have:=Bn0 h3;have:=Ft8 p.mode;rw[Pj];simp;omega
theorem Ca1 {l:List Par} (h: ∀a∈l,Fp a=true): ∀k,k<=l.length->(Lx (l.take k)).length<=k*10101
 | 0,_=>by simp [Lx,Dw]
 | 1,hk=>by
  rw[Cj7 (by omega)];have:=Eh2 (h _ (List.getElem_mem (show 0<l.length by omega)));omega
 |k+2,hk=>by
  rw[Ca0 (by omega) (by omega),jC,jA];have:=Ca1 h (k+1) (by omega);have:=Eh2 (h _ (List.getElem_mem (show k+1<l.length by omega)));omega
end
def Dy3 (ls:List Lin):DVal:= .vslice (ls.flatMap Xg) ls.length
theorem Eh3 {t:Typ} (hm:Dn t=true):(t.kind=1->Ey t.names 64=true)/\(t.kind=2->Bu t.lo=true/\Bu t.hi=true)/\(t.kind=3->Co t.sub=true)/\(t.kind=6->Co t.sub=true)/\(t.kind=4->Co t.sub=true/\Dt t.disc=true)/\(t.kind=5->Gs t=true)/\(t.kind=1\/t.kind=2\/t.kind=3\/t.kind=4\/t.kind=5\/t.kind=6\/t.kind=7):=by
 refine⟨λh=> ?_,λh=> ?_,λh=> ?_,λh=> ?_,λh=> ?_,λh=> ?_, ?_⟩
 ·simp [Dn,h] at hm;exact hm.1.1.1.1.1
 ·simp [Dn,h] at hm;exact hm.1.1.1.1.2
 ·simp [Dn,h] at hm;exact hm.1.1.1.2
 ·simp [Dn,h] at hm;exact hm.1.1.1.2
 ·simp [Dn,h] at hm;exact⟨hm.1.1.1.2,hm.1.1.2⟩
 ·simp [Dn,h] at hm;exact hm.1.2
 ·by_cases h1:t.kind=1
  ·omega
  by_cases h2:t.kind=2
  ·omega
  by_cases h3:t.kind=3
  ·omega
  by_cases h4:t.kind=4
  ·omega
  by_cases h5:t.kind=5
  ·omega
  by_cases h6:t.kind=6
  ·omega
  simp [Dn,h1,h2,h3,h4,h5,h6] at hm;omega
section
variable (G:Nat->DVal) (H:Ab)
def Dj1 (s:Ind):List Tok×Int:=if Co s then(Ie s,0) else([],2)
def Dj2 (s:Dis):List Tok×Int:=if Dt s then(Nj s,0) else([],2)
def Am0 (l:List Par):List Tok×Int:=if Es l then(Lx l,0) else([],2)
def Cj8 (l:List Asp):List Tok×Int:=if Gv l then(Mq l,0) else([],2)
def Dj3 (l:List Cmp) (d:Int):List Lin×Int:=if Gn l then(Ly l d,0) else([],2)
def Cj9 (t:Typ) (d:Int):List Lin×Int:=if Dn t then(Ig t d,0) else([],2)
theorem Dy4 {l:List Cmp} (h:l.all En=true) {n:Nat} (C:Cr l<=n):l.length<=n:=by
 have key: ∀l:List Cmp,(∀x∈l,En x=true)->l.length<=Cr l:=by
  intro l
  induction l with
  |nil=>intro _;exact Nat.le_refl _
  |cons x l ih=>
   intro h;have h1:=ih λy D=>h y (List.mem_cons_of_mem _ D);have h2:=h x (List.mem_cons_self ..);rw[En,jF,jF,Ey,jF,jF,decide_eq_true_eq] at h2;have h3:=h2.1.1.1.2;(have e:Cr (x::l)=x.names.length+Cr l:=by simp [Cr]);rw[e,jA];omega
 exact Nat.le_trans (key l (List.all_eq_true.1 h)) C
theorem Hg8 {t:Typ} (h:Gs t=true):t.comps.length<=40/\ ∀a∈t.arms,a.comps.length<=40:=by
 simp only[Gs,jF,decide_eq_true_eq] at h;obtain⟨⟨⟨⟨⟨y,-⟩,-⟩,-⟩,C⟩,hn⟩:=h;have h1:=Dy4 y (Nat.le_refl _);refine⟨by omega,λa ha=> ?_⟩;have h2:=List.all_eq_true.1 C a ha;rw[Eu,jF] at h2;have h3:=Dy4 h2.1 (Nat.le_refl _);have h4:Cr a.comps<=Lu t.arms:=by
  unfold Lu;have: ∀l:List Arm,a∈l->Cr a.comps<=(l.map λa=>Cr a.comps).sum:=by
   intro l
   induction l with
   |nil=>intro h;cases h
   |cons b l ih=>
    intro h;rw[jN,List.sum_cons];rcases List.mem_cons.1 h with rfl|h
    ·omega
    ·have:=ih h;omega
  exact this _ ha
 omega
end
section
variable {G:Nat->DVal}
theorem Vw (hG:GX G) (H:Ab) (s:Ind) (I:Sa 16777216 s):Ad Tryz.prog G 34 [.agg (Db s)] H (Am (.tuple [Be (Dj1 s).1,dI (Dj1 s).2]) H):=by
 rw[Dj1];refine dci Tryz.func34 Tryz.call34 ?_;simp only[go_sem,DVal.cells];intro J M;obtain⟨K,C⟩: ∃K',K'=upd H J (some (.cells (Db s) 56)):=⟨_,rfl⟩;rw[<-C];have D:=C.symm▸Aa _ _ _;have hs:=C.symm▸(Sub.refl H).new M _;clear C;simp only[go_sem,D];refine Ad.monoR (Ot hG K s I) ?_;try simp only[go_sem]
 cases hm:Co s
 ·simp only[go_sem];exact Ln.fin hs (Ln.tuple (.cons (Ln.nil hs) (Km.keep hs _))) ⟨rfl,rfl⟩
 ·have V:=Qp hm;simp only[go_sem];intro rw y;have O:J≠rw:=Ac y D;simp only[go_sem,D,O];refine(Rk hG s hm I K rw [] _ y (by rw[jB];omega) (SAt.start y)).mono ?_;rintro _ W ⟨rfl,E⟩;rw[jG] at E;obtain⟨v,S,U⟩:=E.cell y;have L:=E.sub y;simp only[go_sem,S];exact Ln.fin (hs.trans L) (Ln.tuple (.cons (λw hw x hx=>Rel.lasts (Dq hs w) _ _ (U w hw x hx)) (Km.keep (hs.trans L) _))) ⟨rfl,rfl⟩
theorem Xr (hG:GX G) (H:Ab) (d:Dis) (I:Ud 16777216 d):Ad Tryz.prog G 31 [.agg (Du d)] H (Am (.tuple [Be (Dj2 d).1,dI (Dj2 d).2]) H):=by
 rw[Dj2];refine dci Tryz.func31 Tryz.call31 ?_;simp only[go_sem,DVal.cells];intro J M;obtain⟨K,C⟩: ∃K',K'=upd H J (some (.cells (Du d) 58)):=⟨_,rfl⟩;rw[<-C];have D:=C.symm▸Aa _ _ _;have hs:=C.symm▸(Sub.refl H).new M _;clear C;simp only[go_sem,D];refine Ad.monoR (Af9 hG K d I) ?_;try simp only[go_sem]
 cases hm:Dt d
 ·simp only[go_sem];exact Ln.fin hs (Ln.tuple (.cons (Ln.nil hs) (Km.keep hs _))) ⟨rfl,rfl⟩
 ·have V:=Bn1 hm;simp only[go_sem];intro rw y;have O:J≠rw:=Ac y D;simp only[go_sem,D,O];refine(Bz6 hG d hm I K rw [] _ y (by rw[jB];omega) (SAt.start y)).mono ?_;rintro _ W ⟨rfl,E⟩;rw[jG] at E;obtain⟨v,S,U⟩:=E.cell y;have L:=E.sub y;simp only[go_sem,S];exact Ln.fin (hs.trans L) (Ln.tuple (.cons (λw hw x hx=>Rel.lasts (Dq hs w) _ _ (U w hw x hx)) (Km.keep (hs.trans L) _))) ⟨rfl,rfl⟩
theorem Aa7 (hG:GX G) (H:Ab) (l:List Cmp) (d:Int) (hl:Ei Ka 16777216 l):Ad Tryz.prog G 44 [Ci l,dI d] H (Am (.tuple [Dy3 (Dj3 l d).1,dI (Dj3 l d).2]) H):=by
 rw[Dj3];refine dci Tryz.func44 Tryz.call44 ?_;simp only[go_sem];refine Ad.monoR (Al6 hG H l hl) ?_;cases hm:Gn l
 ·simp only[go_sem];exact Ln.fin (Sub.refl H) (Ln.tuple (.cons (Ln.nil (Sub.refl H)) (Km.keep (Sub.refl H) _))) ⟨rfl,rfl⟩
 ·have C:=hm;rw[Gn,jF,decide_eq_true_eq] at C;have M:=Dy4 C.1 C.2;have O:=Ah3 l d;have hs:=Sub.refl H;simp only[go_sem];intro I y;dsimp only at y;simp only[go_sem];refine(Ah2 hG l d (List.all_eq_true.1 C.1) hl (by omega) H I [] _ y (by rw[jB];omega) (PAt.start y)).mono ?_;rintro _ S ⟨rfl,D⟩;rw[jG] at D;obtain⟨v,J,L⟩:=D.cell y;have E:=D.sub y;simp only[go_sem,J];exact Ln.fin (hs.trans E) (Ln.tuple (.cons (λw hw x hx=>Rel.lasts (Dq hs w) _ _ (L w hw x hx)) (Km.keep (hs.trans E) _))) ⟨rfl,rfl⟩
theorem Nz (hG:GX G) (H:Ab) (l:List Asp) (hl:Ei Ue 16777216 l):Ad Tryz.prog G 40 [Ib l] H (Am (.tuple [Be (Cj8 l).1,dI (Cj8 l).2]) H):=by
 rw[Cj8];refine dci Tryz.func40 Tryz.call40 ?_;simp only[go_sem];refine Ad.monoR (Aa6 hG H l hl) ?_;cases hm:Gv l
 ·simp only[go_sem];exact Ln.fin (Sub.refl H) (Ln.tuple (.cons (Ln.nil (Sub.refl H)) (Km.keep (Sub.refl H) _))) ⟨rfl,rfl⟩
 ·have au:=hm;rw[Gv,jF,decide_eq_true_eq,List.all_eq_true] at au;obtain⟨av,a4⟩:=au;simp only[go_sem];intro rw ae;have a1:=SAt.start ae;obtain⟨Ks,al⟩: ∃X,X=upd H rw (some (.cells [.nilSlice] 146)):=⟨_,rfl⟩;rw[<-al] at a1;simp only[go_sem,Ib];try rw [<-al]
  clear al;obtain⟨I,hI⟩: ∃I:Nat->(Nat->DVal)->Ab->Prop,∀k env heap,I k env heap↔(env 4= .optr rw 0/\env 12=Ib l/\env 13=dI l.length/\env 14=dI k/\k<=l.length/\SAt H rw (Mq (l.take k)) heap):=⟨_,λ_ _ _=>Iff.rfl⟩;refine Ea9.run I (λk=>l.length-k) 0 ((hI _ _ _).2 ?_) ?_
  ·simp only[go_sem,Ib];(repeat' apply And.intro)<;>(try first|rfl|assumption|omega)
  ·intro k env heap hi;obtain⟨V,am,af,ag,hk,W⟩:=(hI _ _ _).1 hi;have hfl:=Ak Gr l;by_cases ah:k<l.length
   ·(have ao:(k:Int)<(l.length:Int):=by omega);(have aw:IntKind.i64.wrap ((k:Int)+1)=((k+1:Nat):Int):=by rw[IntKind.wrap_i64];omega);have mx:=List.getElem_mem ah;have hle:=Bz9 av k hk;have ax:=Bh Gr l k ah;(have ai:k=0->Mq (l.take (k+1))=Af3 l[k]:=by intro h;subst h;exact Cj6 ah);have aj:0<k->Mq (l.take (k+1))=Mq (l.take k)++Ag Dm::Af3 l[k]:=λh=>Bz8 ah h;(have ap:k=0->Mq (l.take k)= []:=by intro h;subst h;rfl);obtain⟨x,hx⟩: ∃x,x=l[k]:=⟨_,rfl⟩;rw[<-hx] at ax mx ai aj;have ho:=av x mx;rw[Nh,jF] at ho;obtain⟨o1,o2⟩:=ho;have a5:=Nq o2;obtain⟨f0,f1⟩:=hl.2 x mx;have a6:(Cq [x.name]).length=1:=rfl;simp(disch:=omega)only[go_sem,am,af,ag,Ib,ao,ax,hfl,jD];intro Y ak;dsimp only at ak;have E:=W.frame ak (.cells (Ip x) 187);have z6:H Y=none:=(W.lo ak).1;have n6:Y≠rw:=(W.lo ak).2;obtain⟨B0,Z⟩: ∃X,X=upd H Y (some (.cells (Ip x) 187)):=⟨_,rfl⟩;(have y:B0 Y=some (.cells (Ip x) 187):=by rw[Z];exact Aa _ _ _);(have ay:Sub H B0:=by rw[Z];exact(Sub.refl _).up z6 _);(have aq:B0 rw=none:=by rw[Z,Ah _ _ _ _ n6.symm];exact ae);obtain⟨K0,aa⟩: ∃X,X=upd heap Y (some (.cells (Ip x) 187)):=⟨_,rfl⟩;rw[<-Z,<-aa] at E;clear Z;have g6:=E.keep y n6;by_cases k0:k=0
    ·(have ar: ¬(0:Int)<(k:Int):=by omega);have ab:Mq (l.take (k+1))= []++Af3 x:=ai k0;obtain⟨J,hts⟩: ∃J:List Tok,J= []:=⟨_,rfl⟩;rw[ap k0,<-hts] at E;rw[<-hts] at ab;(have M:J.length<=100000:=by rw[hts];simp);clear hts ai aj ap;simp only[go_sem,ar];rw[<-aa];clear aa;refine An pL8 ?_;simp only[go_sem,g6,V,Gr,Df6,Df7];have h:St B0 B0 rw J K0:=⟨E,aq,Sub.refl B0⟩
     repeat'
      first
      |with_reducible apply And.intro
      |with_reducible show Ad _ _ 122 _ _ _
       have C:=h.g y;refine(h.call (Fj hG x.e o2 f1.fitx) (by(try simp only[jC,jA,jB,jN,jP] at M⊢)<;>omega)).mono ?_;rintro _ L ⟨rfl,h⟩;try simp only[go_sem,ag]
      |with_reducible show Ad _ _ 92 _ _ _
       have C:=h.g y;refine(h.put hG [Bp] O (by(try simp only[jC,jA,jB,jN,jP] at M⊢)<;>omega)).mono ?_;rintro _ L ⟨rfl,h⟩;try simp only[go_sem,C,h.g y]
      |with_reducible show Ad _ _ 93 _ _ _
       have C:=h.g y;refine(h.nms hG [x.name] (by simp) S (by(try simp only[jC,jA,jB,jK,jN,jP,List.length_flatMap] at M⊢)<;>omega)).mono ?_;rintro _ L ⟨rfl,h⟩;try simp only[go_sem,C,h.g y]
      |refine⟨k+1,_,Rn.refl _,(hI _ _ _).2 ?_,by omega⟩
       simp only[go_sem,V,am,af,aw];(repeat' apply And.intro)<;>(try first|rfl|assumption|omega);rw[ab];have hz:=(h.hw.less h.hs).less ay;simpa [Af3,Cq,Dw] using hz
      |intro qa ac;dsimp only at ac
       have C:=h.g y;obtain⟨Bw,L,U,h,D,S⟩:=h.new ac (.cells [.str x.name] 9);rw[U];replace y:=D _ _ y;(try replace O:=D _ _ O);try simp only[go_sem,C,h.g y]
      |intro qb ad;dsimp only at ad
       have C:=h.g y;obtain⟨Bw,L,U,h,D,O⟩:=h.new ad (.cells [.str [61,62]] 9);rw[U];replace y:=D _ _ y;(try replace S:=D _ _ S);try simp only[go_sem,C,h.g y]
    ·(have ar:(0:Int)<(k:Int):=by omega);(have ab:Mq (l.take (k+1))=(Mq (l.take k)++ [Ag Dm])++Af3 x:=by rw[aj (by omega)];simp);simp only[go_sem,V,ar];rw[<-aa];intro q0 hq0;dsimp only at hq0;simp only[go_sem];refine(Al8 hG Dm hq0 aq (by omega) E).mono ?_;rintro _ K0 ⟨rfl,E⟩;have g6:=E.keep y n6;obtain⟨J,hts⟩: ∃J:List Tok,J=Mq (l.take k)++ [Ag Dm]:=⟨_,rfl⟩;rw[<-hts] at E ab;(have M:J.length<=100000:=by rw[hts,jC,jQ];omega);clear hts ai aj ap aa;simp only[go_sem];refine An pL8 ?_;simp only[go_sem,g6,V,Gr,Df6,Df7];have h:St B0 B0 rw J K0:=⟨E,aq,Sub.refl B0⟩
     repeat'
      first
      |with_reducible apply And.intro
      |with_reducible show Ad _ _ 122 _ _ _
       have C:=h.g y;refine(h.call (Fj hG x.e o2 f1.fitx) (by(try simp only[jC,jA,jB,jN,jP] at M⊢)<;>omega)).mono ?_;rintro _ L ⟨rfl,h⟩;try simp only[go_sem,ag]
      |with_reducible show Ad _ _ 92 _ _ _
       have C:=h.g y;refine(h.put hG [Bp] O (by(try simp only[jC,jA,jB,jN,jP] at M⊢)<;>omega)).mono ?_;rintro _ L ⟨rfl,h⟩;try simp only[go_sem,C,h.g y]
      |with_reducible show Ad _ _ 93 _ _ _
       have C:=h.g y;refine(h.nms hG [x.name] (by simp) S (by(try simp only[jC,jA,jB,jK,jN,jP,List.length_flatMap] at M⊢)<;>omega)).mono ?_;rintro _ L ⟨rfl,h⟩;try simp only[go_sem,C,h.g y]
      |refine⟨k+1,_,Rn.refl _,(hI _ _ _).2 ?_,by omega⟩
       simp only[go_sem,V,am,af,aw];(repeat' apply And.intro)<;>(try first|rfl|assumption|omega);rw[ab];have hz:=(h.hw.less h.hs).less ay;simpa [Af3,Cq,Dw] using hz
      |intro qa ac;dsimp only at ac
       have C:=h.g y;obtain⟨Bw,L,U,h,D,S⟩:=h.new ac (.cells [.str x.name] 9);rw[U];replace y:=D _ _ y;(try replace O:=D _ _ O);try simp only[go_sem,C,h.g y]
      |intro qb ad;dsimp only at ad
       have C:=h.g y;obtain⟨Bw,L,U,h,D,O⟩:=h.new ad (.cells [.str [61,62]] 9);rw[U];replace y:=D _ _ y;(try replace S:=D _ _ S);try simp only[go_sem,C,h.g y]
   ·(have:k=l.length:=by omega);subst this;(have ao: ¬(l.length:Int)<(l.length:Int):=by omega);rw[List.take_length] at W;have hs:=Sub.refl H;obtain⟨v,a2,a3⟩:=W.cell ae;have a0:=W.sub ae;simp only[go_sem,V,af,ag,ao];simp only[go_sem,a2];exact Ln.fin (hs.trans a0) (Ln.tuple (.cons (λw hw x hx=>Rel.lasts (Dq hs w) _ _ (a3 w hw x hx)) (Km.keep (hs.trans a0) _))) ⟨rfl,rfl⟩
theorem Rv (hG:GX G) (H:Ab) (t:Typ) (d:Int) (ht:Lb 16777216 t):Ad Tryz.prog G 21 [.agg (Cf t),dI d] H (Am (.tuple [Dy3 (Cj9 t d).1,dI (Cj9 t d).2]) H):=by
 rw[Cj9];refine dci Tryz.func21 Tryz.call21 ?_;simp only[go_sem,DVal.cells];intro r2 aq;obtain⟨K,hK⟩: ∃K',K'=upd H r2 (some (.cells (Cf t) 62)):=⟨_,rfl⟩;rw[<-hK];have g2:=hK.symm▸Aa _ _ _;have hs:=hK.symm▸(Sub.refl H).new aq _;clear hK;simp only[go_sem,g2];refine Ad.monoR (Bj1 hG K t ht) ?_;try simp only[go_sem]
 cases hm:Dn t
 ·simp only[go_sem];exact Ln.fin hs (Ln.tuple (.cons (Ln.nil hs) (Km.keep hs _))) ⟨rfl,rfl⟩
 have ak:=ht;obtain⟨f0,f1,f2,f3,f4,f5,f6,f7⟩:=ht;obtain⟨k1,k2,k3,k6,k4,k5,ar⟩:=Eh3 hm;simp only[go_sem];intro W I;have hp:=PAt.start I;have au:r2≠W:=Ac I g2;obtain⟨B0,ae⟩: ∃X,X=upd K W (some (.cells [.nilSlice] 143)):=⟨_,rfl⟩;rw[<-ae] at hp;have y:=ae.symm▸Aj g2 au;simp only[go_sem];try rw [<-ae]
 intro rw ab;try rw [<-ae] at ab
 clear ae;have n2:r2≠rw:=Ac ab y;have ac:=SAt.start ab;obtain⟨K0,ai⟩: ∃X,X=upd B0 rw (some (.cells [.nilSlice] 146)):=⟨_,rfl⟩;rw[<-ai] at ac;have gz:=ac.keep y n2;have Z:(0:Nat)<=1:=by omega
 have al:=ac.sub ab;simp only[go_sem,y,n2];rw[<-ai];clear ai;have h0:St B0 B0 rw [] K0:=⟨ac,ab,Sub.refl B0⟩;rcases ar with hk|hk|hk|hk|hk|hk|hk
 ·have ax:=Td (k1 hk);have J:Ig t d= [⟨d,Ag Bc::(Cq t.names++ [Ag Bs])⟩]:=by rw[Ig,if_pos hk]
  simp only[go_sem,hk];refine An pL6 ?_;simp only[go_sem,gz];have h:=h0
  repeat'
   first
   |with_reducible apply And.intro
   |with_reducible show Ad _ _ 93 _ _ _
    have C:=h.g y;refine(h.call (Ah1 hG t.names (by omega)) (by(try simp only[jC,jA,jB,jN,jP] at Z⊢)<;>omega)).mono ?_;rintro _ L ⟨rfl,h⟩;try simp only[go_sem]
   |with_reducible show Ad _ _ 92 _ _ _
    have C:=h.g y;refine(h.put hG [Bc] aa (by(try simp only[jC,jA,jB,jN,jP] at Z⊢)<;>omega)).mono ?_;rintro _ L ⟨rfl,h⟩;try simp only[go_sem,C,h.g y]
   |with_reducible show Ad _ _ 92 _ _ _
    have C:=h.g y;refine(h.put hG [Bs] ad (by(try simp only[jC,jA,jB,jN,jP] at Z⊢)<;>omega)).mono ?_;rintro _ L ⟨rfl,h⟩;try simp only[go_sem]
   |with_reducible show Ad _ _ 98 _ _ _
    refine(Ir G d (hp.more h.hs) h.hr h.hw (by simp)).mono ?_;rintro _ M ⟨rfl,O⟩;(have D:PAt K W (Ig t d) M:=by rw[J];simpa using O);obtain⟨v,S,U⟩:=D.cell I;have E:=D.sub I;simp only[go_sem,S];exact Ln.fin (hs.trans E) (Ln.tuple (.cons (λw hw x hx=>Rel.lasts (Dq hs w) _ _ (U w hw x hx)) (Km.keep (hs.trans E) _))) ⟨rfl,rfl⟩
   |intro qa Y;dsimp only at Y
    have C:=h.g y;obtain⟨Bw,L,ew,h,V,aa⟩:=h.new Y (.cells [.str [40]] 9);rw[ew];replace y:=V _ _ y;(try replace ad:=V _ _ ad);try simp only[go_sem,C,h.g y]
   |intro qb af;dsimp only at af
    have C:=h.g y;obtain⟨Bw,L,ew,h,V,ad⟩:=h.new af (.cells [.str [41]] 9);rw[ew];replace y:=V _ _ y;(try replace aa:=V _ _ aa);try simp only[go_sem,C,h.g y]
 ·obtain⟨ml,mh⟩:=k2 hk;have ay:=Zt ml mh;have J:Ig t d= [⟨d,Ag Ew::Dh t.lo t.hi⟩]:=by rw[Ig,if_neg (by omega),if_pos hk]
  simp(disch:=omega)only[go_sem,hk];refine An pL14 ?_;simp only[go_sem,gz];have h:=h0
  repeat'
   first
   |with_reducible apply And.intro
   |with_reducible show Ad _ _ 94 _ _ _
    have C:=h.g y;refine(h.call (Sq hG t.lo t.hi ml mh f1 f2) (by(try simp only[jC,jA,jB,jN,jP] at Z⊢)<;>omega)).mono ?_;rintro _ L ⟨rfl,h⟩;try simp only[go_sem]
   |with_reducible show Ad _ _ 92 _ _ _
    have C:=h.g y;refine(h.put hG [Ew] aa (by(try simp only[jA,jB,jN,jP] at Z⊢)<;>omega)).mono ?_;rintro _ L ⟨rfl,h⟩;try simp only[go_sem,C,h.g y]
   |with_reducible show Ad _ _ 98 _ _ _
    refine(Ir G d (hp.more h.hs) h.hr h.hw (by simp)).mono ?_;rintro _ M ⟨rfl,O⟩;(have D:PAt K W (Ig t d) M:=by rw[J];simpa using O);obtain⟨v,S,U⟩:=D.cell I;have E:=D.sub I;simp only[go_sem,S];exact Ln.fin (hs.trans E) (Ln.tuple (.cons (λw hw x hx=>Rel.lasts (Dq hs w) _ _ (U w hw x hx)) (Km.keep (hs.trans E) _))) ⟨rfl,rfl⟩
   |intro qa Y;dsimp only at Y
    have C:=h.g y;obtain⟨Bw,L,ew,h,V,aa⟩:=h.new Y (.cells [.str [114,97,110,103,101]] 9);rw[ew];replace y:=V _ _ y;try simp only[go_sem,C,h.g y]
 ·have mi:=k3 hk;have am:=Qp mi;have J:Ig t d= [⟨d,Ag Aw1::Ie t.sub⟩]:=by rw[Ig,if_neg (by omega),if_neg (by omega),if_pos hk]
  simp(disch:=omega)only[go_sem,hk];refine An pL16 ?_;simp only[go_sem,gz];have h:=h0
  repeat'
   first
   |with_reducible apply And.intro
   |with_reducible show Ad _ _ 95 _ _ _
    have C:=h.g y;refine(h.call (Rk hG t.sub mi f3) (by(try simp only[jC,jA,jB,jN,jP] at Z⊢)<;>omega)).mono ?_;rintro _ L ⟨rfl,h⟩;try simp only[go_sem]
   |with_reducible show Ad _ _ 92 _ _ _
    have C:=h.g y;refine(h.put hG [Aw1] aa (by(try simp only[jA,jB,jN,jP] at Z⊢)<;>omega)).mono ?_;rintro _ L ⟨rfl,h⟩;try simp only[go_sem,C,h.g y]
   |with_reducible show Ad _ _ 98 _ _ _
    refine(Ir G d (hp.more h.hs) h.hr h.hw (by simp)).mono ?_;rintro _ M ⟨rfl,O⟩;(have D:PAt K W (Ig t d) M:=by rw[J];simpa using O);obtain⟨v,S,U⟩:=D.cell I;have E:=D.sub I;simp only[go_sem,S];exact Ln.fin (hs.trans E) (Ln.tuple (.cons (λw hw x hx=>Rel.lasts (Dq hs w) _ _ (U w hw x hx)) (Km.keep (hs.trans E) _))) ⟨rfl,rfl⟩
   |intro qa Y;dsimp only at Y
    have C:=h.g y;obtain⟨Bw,L,ew,h,V,aa⟩:=h.new Y (.cells [.str [110,101,119]] 9);rw[ew];replace y:=V _ _ y;try simp only[go_sem,C,h.g y]
 ·obtain⟨mi,md⟩:=k4 hk;have am:=Qp mi;have a0:=Bn1 md;have J:Ig t d= [⟨d,Ag Lw::Ag Bc::(Nj t.disc++(Ag Bs::Ag wOf::Ie t.sub))⟩]:=by rw[Ig,if_neg (by omega),if_neg (by omega),if_neg (by omega),if_pos hk]
  simp(disch:=omega)only[go_sem,hk];refine An (.take 0 (.take 3 (.take 4 (.take 8 (.take 9 (.alt (.go 6 [9,4] (.go 1 [9,4] (.go 2 [9,4] (.go 5 [9] (.go 7 [9] (.go 10 [] .done)))))) (.go 1 [9,4] (.alt (.go 6 [9,4] (.go 2 [9,4] (.go 5 [9] (.go 7 [9] (.go 10 [] .done))))) (.go 2 [9,4] (.alt (.go 6 [9,4] (.go 5 [9] (.go 7 [9] (.go 10 [] .done)))) (.go 5 [9] (.go 6 [9,4] (.go 7 [9] (.go 10 [] .done)))))))))))))) ?_;simp only[go_sem,gz];have h:=h0
  repeat'
   first
   |with_reducible apply And.intro
   |with_reducible show Ad _ _ 96 _ _ _
    have C:=h.g y;refine(h.call (Bz6 hG t.disc md f4) (by(try simp only[jC,jA,jB,jN,jP] at Z⊢)<;>omega)).mono ?_;rintro _ L ⟨rfl,h⟩;try simp only[go_sem,C,h.g y]
   |with_reducible show Ad _ _ 95 _ _ _
    have C:=h.g y;refine(h.call (Rk hG t.sub mi f3) (by(try simp only[jC,jA,jB,jN,jP] at Z⊢)<;>omega)).mono ?_;rintro _ L ⟨rfl,h⟩;try simp only[go_sem]
   |with_reducible show Ad _ _ 92 _ _ _
    have C:=h.g y;refine(h.put hG [Lw,Bc] aa (by(try simp only[jC,jA,jB,jN,jP] at Z⊢)<;>omega)).mono ?_;rintro _ L ⟨rfl,h⟩;try simp only[go_sem,C,h.g y]
   |with_reducible show Ad _ _ 92 _ _ _
    have C:=h.g y;refine(h.put hG [Bs,wOf] ad (by(try simp only[jC,jA,jB,jN,jP] at Z⊢)<;>omega)).mono ?_;rintro _ L ⟨rfl,h⟩;try simp only[go_sem,C,h.g y]
   |with_reducible show Ad _ _ 98 _ _ _
    refine(Ir G d (hp.more h.hs) h.hr h.hw (by simp)).mono ?_;rintro _ M ⟨rfl,O⟩;(have D:PAt K W (Ig t d) M:=by rw[J];simpa using O);obtain⟨v,S,U⟩:=D.cell I;have E:=D.sub I;simp only[go_sem,S];exact Ln.fin (hs.trans E) (Ln.tuple (.cons (λw hw x hx=>Rel.lasts (Dq hs w) _ _ (U w hw x hx)) (Km.keep (hs.trans E) _))) ⟨rfl,rfl⟩
   |intro qa Y;dsimp only at Y
    have C:=h.g y;obtain⟨Bw,L,ew,h,V,aa⟩:=h.new Y (.cells [.str [97,114,114,97,121],.str [40]] 9);rw[ew];replace y:=V _ _ y;(try replace ad:=V _ _ ad);try simp only[go_sem,C,h.g y]
   |intro qb af;dsimp only at af
    have C:=h.g y;obtain⟨Bw,L,ew,h,V,ad⟩:=h.new af (.cells [.str [41],.str [111,102]] 9);rw[ew];replace y:=V _ _ y;(try replace aa:=V _ _ aa);try simp only[go_sem,C,h.g y]
 ·have hr:=k5 hk;obtain⟨ao,ap⟩:=Hg8 hr;by_cases c0:t.comps.length=0
  ·(have ah: ¬(0:Int)<(t.comps.length:Int):=by omega);have aj:t.comps= []:=List.length_eq_zero_iff.1 c0;by_cases v0:t.var= []
   ·(have J:Ig t d= [⟨d,[Ag Gg,Ag Cs]⟩]:=by rw[Ig,if_neg (by omega),if_neg (by omega),if_neg (by omega),if_neg (by omega),if_neg (by omega),if_neg (by omega),if_pos (by simp [aj,v0])]);simp(disch:=omega)only[go_sem,gz,hk,Ci,ah,v0];intro q0 hq0;simp only[go_sem];refine(Hg5 hG Gg Cs hq0 ab (by simp) ac).mono ?_;rintro _ K9 ⟨rfl,ag⟩;simp only[go_sem];refine(Ir G d (hp.more (Sub.refl B0)) ab ag (by simp)).mono ?_;rintro _ M ⟨rfl,O⟩;(have D:PAt K W (Ig t d) M:=by rw[J];simpa using O);obtain⟨v,S,U⟩:=D.cell I;have E:=D.sub I;simp only[go_sem,S];exact Ln.fin (hs.trans E) (Ln.tuple (.cons (λw hw x hx=>Rel.lasts (Dq hs w) _ _ (U w hw x hx)) (Km.keep (hs.trans E) _))) ⟨rfl,rfl⟩
   ·(have J:Ig t d=Bx0 t d:=by rw[Ig,if_neg (by omega),if_neg (by omega),if_neg (by omega),if_neg (by omega),if_neg (by omega),if_neg (by omega),if_neg (by simp [v0])]);simp(disch:=omega)only[go_sem,gz,hk,Ci,ah,v0];refine(Ay1 hG t d hr ak ao ap K W [] K0 I (by simp) (hp.more al)).mono ?_;rintro _ M ⟨rfl,O⟩;(have D:PAt K W (Ig t d) M:=by rw[J];simpa using O);obtain⟨v,S,U⟩:=D.cell I;have E:=D.sub I;simp only[go_sem,S];exact Ln.fin (hs.trans E) (Ln.tuple (.cons (λw hw x hx=>Rel.lasts (Dq hs w) _ _ (U w hw x hx)) (Km.keep (hs.trans E) _))) ⟨rfl,rfl⟩
  ·(have ah:(0:Int)<(t.comps.length:Int):=by omega);(have aj: ¬t.comps.isEmpty=true:=by intro e;exact c0 (by rw[List.isEmpty_iff.1 e];rfl));(have J:Ig t d=Bx0 t d:=by rw[Ig,if_neg (by omega),if_neg (by omega),if_neg (by omega),if_neg (by omega),if_neg (by omega),if_neg (by omega),if_neg (by simp [aj])]);simp(disch:=omega)only[go_sem,gz,hk,Ci,ah];refine(Ay1 hG t d hr ak ao ap K W [] K0 I (by simp) (hp.more al)).mono ?_;rintro _ M ⟨rfl,O⟩;(have D:PAt K W (Ig t d) M:=by rw[J];simpa using O);obtain⟨v,S,U⟩:=D.cell I;have E:=D.sub I;simp only[go_sem,S];exact Ln.fin (hs.trans E) (Ln.tuple (.cons (λw hw x hx=>Rel.lasts (Dq hs w) _ _ (U w hw x hx)) (Km.keep (hs.trans E) _))) ⟨rfl,rfl⟩
 ·have mi:=k6 hk;have am:=Qp mi;have J:Ig t d= [⟨d,Ag Mm::Ie t.sub⟩]:=by rw[Ig,if_neg (by omega),if_neg (by omega),if_neg (by omega),if_neg (by omega),if_pos hk]
  simp(disch:=omega)only[go_sem,hk];refine An pL16 ?_;simp only[go_sem,gz];have h:=h0
  repeat'
   first
   |with_reducible apply And.intro
   |with_reducible show Ad _ _ 95 _ _ _
    have C:=h.g y;refine(h.call (Rk hG t.sub mi f3) (by(try simp only[jC,jA,jB,jN,jP] at Z⊢)<;>omega)).mono ?_;rintro _ L ⟨rfl,h⟩;try simp only[go_sem]
   |with_reducible show Ad _ _ 92 _ _ _
    have C:=h.g y;refine(h.put hG [Mm] aa (by(try simp only[jA,jB,jN,jP] at Z⊢)<;>omega)).mono ?_;rintro _ L ⟨rfl,h⟩;try simp only[go_sem,C,h.g y]
   |with_reducible show Ad _ _ 98 _ _ _
    refine(Ir G d (hp.more h.hs) h.hr h.hw (by simp)).mono ?_;rintro _ M ⟨rfl,O⟩;(have D:PAt K W (Ig t d) M:=by rw[J];simpa using O);obtain⟨v,S,U⟩:=D.cell I;have E:=D.sub I;simp only[go_sem,S];exact Ln.fin (hs.trans E) (Ln.tuple (.cons (λw hw x hx=>Rel.lasts (Dq hs w) _ _ (U w hw x hx)) (Km.keep (hs.trans E) _))) ⟨rfl,rfl⟩
   |intro qa Y;dsimp only at Y
    have C:=h.g y;obtain⟨Bw,L,ew,h,V,aa⟩:=h.new Y (.cells [.str [97,99,99,101,115,115]] 9);rw[ew];replace y:=V _ _ y;try simp only[go_sem,C,h.g y]
 ·cases hl:t.limited
  ·(have J:Ig t d= [⟨d,[Ag Gb]⟩]:=by rw[Ig,if_neg (by omega),if_neg (by omega),if_neg (by omega),if_neg (by omega),if_neg (by omega),if_pos hk,hl];rfl);simp(disch:=omega)only[go_sem,gz,hk,hl];intro q0 hq0;simp only[go_sem];refine(Al8 hG Gb hq0 ab (by simp) ac).mono ?_;rintro _ K9 ⟨rfl,ag⟩;simp only[go_sem];refine(Ir G d (hp.more (Sub.refl B0)) ab ag (by simp)).mono ?_;rintro _ M ⟨rfl,O⟩;(have D:PAt K W (Ig t d) M:=by rw[J];simpa using O);obtain⟨v,S,U⟩:=D.cell I;have E:=D.sub I;simp only[go_sem,S];exact Ln.fin (hs.trans E) (Ln.tuple (.cons (λw hw x hx=>Rel.lasts (Dq hs w) _ _ (U w hw x hx)) (Km.keep (hs.trans E) _))) ⟨rfl,rfl⟩
  ·(have J:Ig t d= [⟨d,[Ag Kp,Ag Gb]⟩]:=by rw[Ig,if_neg (by omega),if_neg (by omega),if_neg (by omega),if_neg (by omega),if_neg (by omega),if_pos hk,hl];rfl);simp(disch:=omega)only[go_sem,gz,hk,hl];intro q1 av;simp only[go_sem];refine(Al8 hG Kp av ab (by simp) ac).mono ?_;rintro _ K8 ⟨rfl,aw⟩;simp only[go_sem];intro q0 hq0;simp only[go_sem];refine(Al8 hG Gb hq0 ab (by simp) aw).mono ?_;rintro _ K9 ⟨rfl,ag⟩;simp only[go_sem];refine(Ir G d (hp.more (Sub.refl B0)) ab ag (by simp)).mono ?_;rintro _ M ⟨rfl,O⟩;(have D:PAt K W (Ig t d) M:=by rw[J];simpa using O);obtain⟨v,S,U⟩:=D.cell I;have E:=D.sub I;simp only[go_sem,S];exact Ln.fin (hs.trans E) (Ln.tuple (.cons (λw hw x hx=>Rel.lasts (Dq hs w) _ _ (U w hw x hx)) (Km.keep (hs.trans E) _))) ⟨rfl,rfl⟩
end
end Go.Dl
