/- The data level and the contracts of the functions that are reached (part 6). -/
import Derived.Test.YtddbdpcgikmiaaaGreatDoorPge
set_option linter.unusedSimpArgs false
set_option linter.unusedVariables false
set_option linter.unusedSectionVars false
-- Un
namespace Go.Dl
open Go Go.Proofs
set_option maxRecDepth 100000
section
variable {G:Nat->DVal} {H0 H:Ac} {r k:Nat} {l:List Tok}
set_option maxHeartbeats 4000000 in
theorem Ei2 (hl:l.length<=800000) (p:PS) (hA:p.Adv l) (hs:RdC Tryz.prog G l 61 r fun k=>(p.simple k).mp dE) (aa: ∀x,Dk6 Tryz.prog G l 164 r (.agg (dEx x)) fun k=>(p.rest x k).mp dE):RdC Tryz.prog G l 58 r fun k=>((Be l p).expr k).mp dE:=by
 intro H k hr hk hn;dsimp only[Be] at hn⊢
 refine Ab Tryz.func58 Tryz.call58 rfl (by kernel_rfl) ?_;simp(disch:=omega)only[go_sem];intro D J;dsimp only at J;obtain⟨V,O⟩: ∃K,K=upd H D (some (.cells [.int .u8 0, .int .u8 0, .int .i64 0, .str [], .nilSlice, .nilSlice, .int .i64 0, .int .i64 0, .int .i64 0] 27)):=⟨_,rfl⟩;rw[<-O];have ab:V D=some (.cells [.int .u8 0, .int .u8 0, .int .i64 0, .str [], .nilSlice, .nilSlice, .int .i64 0, .int .i64 0, .int .i64 0] 27):=by rw[O];exact Aa _ _ _
 have n2:r≠D:=Af J hr;have q2:=n2.symm;have ha:RAt r l k H V:=by rw[O];exact(RAt.refl hr).new J _
 simp(disch:=omega)only[go_sem];have E:=hs _ k ha.get hk;have W:=hA.simple k hk;dsimp only at E;cases hpr:p.simple k with
 | bot=>rw[hpr] at hn;exact absurd rfl hn
 | fail C=>
  rw[hpr] at E;refine(E (Cf (by simp))).mono ?_;rintro e L ⟨rfl,rfl⟩;simp(disch:=omega)only[go_sem];exact RAt.finP (ha.set C) ⟨rfl,rfl⟩
 | ok x C=>
  rw[hpr] at E hn W;refine(E (Cf (by simp))).mono ?_;rintro e L ⟨rfl,X⟩;have S:RAt r l C H L:=by rw[X];exact ha.set C
  dsimp only[Res.then,Adv] at hn W⊢
  have g3:L D=some (.cells [.int .u8 0, .int .u8 0, .int .i64 0, .str [], .nilSlice, .nilSlice, .int .i64 0, .int .i64 0, .int .i64 0] 27):=by rw[X];exact Aj ab q2
  simp(disch:=omega)only[go_sem,dE];have Y:p.rest x C≠ .bot:=fun h=>hn (by rw[h];rfl);have I:=aa x L C S.get (by omega) (Cf Y);dsimp only at I;cases hpc:p.rest x C with
  | bot=>exact absurd hpc Y
  | fail M=>
   rw[hpc] at I;refine I.mono ?_;rintro e U ⟨rfl,rfl⟩;simp(disch:=omega)only[go_sem];exact RAt.finP (S.set M) ⟨rfl,rfl⟩
  | ok y M=>
   rw[hpc] at I;refine I.mono ?_;rintro e U ⟨rfl,Z⟩;have ac:RAt r l M H U:=by rw[Z];exact S.set M
   have g4:U D=some (.cells [.int .u8 0, .int .u8 0, .int .i64 0, .str [], .nilSlice, .nilSlice, .int .i64 0, .int .i64 0, .int .i64 0] 27):=by rw[Z];exact Aj g3 q2
   have ad:=Ad y;have ae:=Bo y;simp(disch:=omega)only[go_sem,dE,g4,ad,ae];exact RAt.fin (ac.own J q2 _) ⟨rfl,rfl⟩
theorem Ei3 {os:List Nat} (h:(opF l 0 k os).1≠0):opF l (opF l 0 k os).1 k os=opF l 0 k os:=by
 have key: ∀ {os:List Nat} {w:Nat},(opF l 0 k os).1=w->w≠0->opF l w k os=opF l 0 k os:=by
  intro os w hw h
  induction os with
  | nil=>rfl
  | cons o m ih=>
   simp only[opF] at hw⊢
   by_cases hi:isW l k (Ay o)=true
   ·simp only[hi,if_true,ne_eq,not_true_eq_false,false_and,if_false] at hw⊢
    rw[if_neg (by rintro⟨_,h2⟩;exact h2 hw)]
   ·simp only[hi,if_false,Bool.false_eq_true] at hw⊢
    exact ih hw
 exact key rfl h
set_option maxHeartbeats 4000000 in
theorem Ei4 (hG:GX G) (hl:l.length<=800000) (n:Nat) (hs: ∀m≤n,RdC Tryz.prog G l 61 r fun k=>((P l m).simple k).mp dE) (aw: ∀m≤n,∀x,Dk6 Tryz.prog G l 60 r (.agg (dEx x)) fun k=>((P l m).relation x k).mp dE) (x:Ex):Dk6 Tryz.prog G l 164 r (.agg (dEx x)) fun k=>((P l (n+1)).rest x k).mp dE:=by
 intro H k hr hk hn;have e:(P l (n+1)).rest x k=((P l n).relation x k).then fun x k=>(P l n).restL (opF l 0 k Em).1 x k:=rfl
 dsimp only at hn⊢
 rw[e] at hn⊢
 refine Ab Tryz.func164 Tryz.call164 rfl (by kernel_rfl) ?_;simp(disch:=omega)only[go_sem,DVal.cells];intro E aa;dsimp only at aa;obtain⟨Hb,al⟩: ∃K,K=upd H E (some (.cells (dEx x) 27)):=⟨_,rfl⟩;rw[<-al];have ax:Hb E=some (.cells (dEx x) 27):=by rw[al];exact Aa _ _ _
 have n3:r≠E:=Af aa hr;have W:=n3.symm;simp(disch:=omega)only[go_sem,DVal.cells];intro J ab;dsimp only at ab;obtain⟨Ha,ag⟩: ∃K,K=upd Hb J (some (.cells [.int .u8 0, .int .u8 0, .int .i64 0, .str [], .nilSlice, .nilSlice, .int .i64 0, .int .i64 0, .int .i64 0] 27)):=⟨_,rfl⟩;rw[<-ag];have a7:Ha J=some (.cells [.int .u8 0, .int .u8 0, .int .i64 0, .str [], .nilSlice, .nilSlice, .int .i64 0, .int .i64 0, .int .i64 0] 27):=by rw[ag];exact Aa _ _ _
 have am:RAt r l k H Hb:=by rw[al];exact(RAt.refl hr).new aa _
 have n4:r≠J:=Af ab am.get;have Z:=n4.symm;have m3:E≠J:=Af ab ax;have m4:=m3.symm;have a8:H J=none:=am.lo ab;have ha:RAt r l k H Ha:=by rw[ag];exact am.new ab _
 have g3:Ha E=some (.cells (dEx x) 27):=by rw[ag];exact Aj ax m3
 have a9:=Ad x;simp(disch:=omega)only[go_sem,g3];have ac:=aw n (Nat.le_refl _) x _ k ha.get hk;have ah:=(Kl (l:=l) n).relation x k hk;dsimp only at ac;cases hpr:(P l n).relation x k with
 | bot=>rw[hpr] at hn;exact absurd rfl hn
 | fail D=>
  rw[hpr] at ac;refine(ac (Cf (by simp))).mono ?_;rintro e H3 ⟨rfl,rfl⟩;simp(disch:=omega)only[go_sem];exact RAt.finP (ha.set D) ⟨rfl,rfl⟩
 | ok L D=>
  rw[hpr] at ac hn ah;refine(ac (Cf (by simp))).mono ?_;rintro e H3 ⟨rfl,ao⟩;have ba:RAt r l D H H3:=by rw[ao];exact ha.set D
  dsimp only[Res.then,Adv] at hn ah⊢
  have bb:H3 E=some (.cells (dEx x) 27):=by rw[ao];exact Aj g3 W
  have bc:H3 J=some (.cells [.int .u8 0, .int .u8 0, .int .i64 0, .str [], .nilSlice, .nilSlice, .int .i64 0, .int .i64 0, .int .i64 0] 27):=by rw[ao];exact Aj a7 Z
  have bd:=Ad L;have be:=Bo L;have bf:(dEx x).drop 9= []:=List.drop_eq_nil_of_le (by omega);simp(disch:=omega)only[go_sem,dE,bb,bd,be,a9,bf];obtain⟨Hc,ai⟩: ∃K,K=upd H3 E (some (.cells (dEx L) 27)):=⟨_,rfl⟩;rw[<-ai];have ay:RAt r l D H Hc:=by rw[ai];exact ba.own aa W _
  have bg:Hc E=some (.cells (dEx L) 27):=by rw[ai];exact Aa _ _ _
  have bh:Hc J=some (.cells [.int .u8 0, .int .u8 0, .int .i64 0, .str [], .nilSlice, .nilSlice, .int .i64 0, .int .i64 0, .int .i64 0] 27):=by rw[ai];exact Aj bc m4
  refine(Du5 hG _ 0 ay.get hl ah.2).mono ?_;rintro _ H5 ⟨rfl,ad⟩;obtain⟨o,ho⟩: ∃o,o=(opF l 0 D Em).1:=⟨_,rfl⟩;obtain⟨q,hq⟩: ∃q:Nat->Nat×Nat,∀k,q k=if o=0 then(0,k) else opF l o k Em:=⟨_,fun _=>rfl⟩
  have bi: ∀k,k<=l.length->((q k).1=0->(q k).2=k)/\((q k).1≠0->k+1<=(q k).2)/\(q k).2<=l.length:=by
   intro k hk;rw[hq];by_cases c:o=0
   ·rw[if_pos c];exact⟨fun _=>rfl,fun h=>absurd rfl h,hk⟩
   ·rw[if_neg c];have:=Cy (want:=o) (os:=Em) (k:=k) (l:=l) Gx7.1 hk;exact⟨this.1,this.2.1,this.2.2.1⟩
  have hL: ∀m x k,(P l (m+1)).restL o x k=if(q k).1=0 then .ok x k else((P l m).simple (q k).2).then fun y k=>((P l m).relation y k).then fun y k=>(P l m).restL o (both o x y) k:=by
   intro m x k;have:(P l (m+1)).restL o x k=if o=0 then .ok x k else if(opF l o k Em).1=0 then .ok x k else((P l m).simple (opF l o k Em).2).then fun y k=>((P l m).relation y k).then fun y k=>(P l m).restL o (both o x y) k:=rfl
   rw[this,hq];by_cases c:o=0
   ·rw[if_pos c,if_pos c,if_pos rfl]
   ·rw[if_neg c,if_neg c]
  have ap:(opF l 0 D Em)=(o,(q D).2)/\(q D).1=o:=by
   rw[hq];by_cases c:o=0
   ·have h0:=Cy (want:=0) (os:=Em) (k:=D) (l:=l) Gx7.1 ah.2;rw[if_pos c];exact⟨Prod.ext ho.symm (h0.1 (ho▸c)),c.symm⟩
   ·have h0:=Ei3 (l:=l) (k:=D) (os:=Em) (ho▸c);rw[<-ho] at h0;rw[if_neg c,h0];exact⟨Prod.ext ho.symm rfl,ho.symm⟩
  rw[ap.1] at hn⊢
  rw[ap.1] at ad;dsimp only at hn ad⊢
  have aj:(P l n).restL o L D≠ .bot:=fun h=>hn (by rw[h];rfl);obtain⟨n',rfl⟩: ∃n',n=n'+1:=by
   cases n with
   | zero=>exact absurd rfl aj
   | succ n'=>exact⟨n',rfl⟩
  have bu:RAt r l (q D).2 H H5:=by rw[ad];exact ay.set _
  have bv:H5 E=some (.cells (dEx L) 27):=by rw[ad];exact Aj bg W
  have bw:H5 J=some (.cells [.int .u8 0, .int .u8 0, .int .i64 0, .str [], .nilSlice, .nilSlice, .int .i64 0, .int .i64 0, .int .i64 0] 27):=by rw[ad];exact Aj bh Z
  simp(disch:=omega)only[go_sem];obtain⟨I,hI⟩: ∃I:Nat×Ex×Nat->(Nat->DVal)->Ac->Prop,∀s env heap,I s env heap↔(env 0= .optr r 0/\env 3= .optr E 0/\env 4= .optr J 0/\env 5= .int .u8 o/\env 6= .int .u8 (q s.2.2).1/\s.2.2<=l.length/\s.1<=n'/\(P l (s.1+1)).restL o s.2.1 s.2.2=(P l (n'+1)).restL o L D/\RAt r l (q s.2.2).2 H heap/\heap E=some (.cells (dEx s.2.1) 27)/\heap J=some (.cells [.int .u8 0, .int .u8 0, .int .i64 0, .str [], .nilSlice, .nilSlice, .int .i64 0, .int .i64 0, .int .i64 0] 27)):=⟨_,fun _ _ _=>Iff.rfl⟩;refine Dr7.run I (fun s=>s.1) (n',L,D) ((hI _ _ _).2 ?_) ?_
  ·simp(disch:=omega)only[go_sem,ap.2];(repeat' apply And.intro)<;>(try first | rfl | assumption | omega)
   done
  ·rintro⟨m,y,k1⟩ env heap bj;obtain⟨M,O,S,U,V,a0,hm,C,X,g6,gx⟩:=(hI _ _ _).1 bj;dsimp only at V a0 hm C X g6;rw[hL] at C;have a1:=bi k1 a0;obtain⟨o1,ak⟩: ∃o1,o1=(q k1).1:=⟨_,rfl⟩;obtain⟨k2,a2⟩: ∃k2,k2=(q k1).2:=⟨_,rfl⟩;rw[<-ak,<-a2] at C a1;rw[<-ak] at V;rw[<-a2] at X;by_cases c:o1=0
   ·have c':(o1:Int)=0:=by omega
    rw[if_pos c] at C;have bk:k2=k1:=a1.1 c;rw[bk] at X;simp(disch:=omega)only[go_sem,M,O,S,U,V,c',g6,gx];rw[<-C];exact RAt.fin (X.own a8 Z _) ⟨rfl,rfl⟩
   ·have c': ¬(o1:Int)=0:=by omega
    rw[if_neg c] at C;simp(disch:=omega)only[go_sem,M,O,S,U,V,c'];refine Ak (by kernel_rfl) (.take 0 (.take 1 (.take 2 (.take 3 (.go 4 [1] (.go 5 [1] (.go 6 [] (.go 7 [] .done)))))))) (by kernel_rfl) ?_;simp(disch:=omega)only[go_sem,M,O,S,U,V,g6];have bl:o≠0:=by
     intro h0;rw[hq,if_pos h0] at ak;exact c ak
    have bm: ∀k,q k=opF l o k Em:=fun k=>by rw[hq,if_neg bl]
    have ae:=hs m (by omega) heap k2 X.get (by omega);have a3:=(Kl (l:=l) m).simple k2 (by omega);dsimp only at ae;cases hp1:(P l m).simple k2 with
    | bot=>rw[hp1] at C;exact absurd C.symm aj
    | fail Y=>
     rw[hp1] at ae C;refine(ae (Cf (by simp))).mono ?_;rintro e H6 ⟨rfl,rfl⟩;simp(disch:=omega)only[go_sem];rw[<-C];exact RAt.finP (X.set Y) ⟨rfl,rfl⟩
    | ok y1 Y=>
     rw[hp1] at ae C a3;dsimp only[Res.then,Adv] at C a3;refine(ae (Cf (by simp))).mono ?_;rintro e H6 ⟨rfl,aq⟩;have ar:RAt r l Y H H6:=by rw[aq];exact X.set Y
     have au:H6 E=some (.cells (dEx y) 27):=by rw[aq];exact Aj g6 W
     have bn:H6 J=some (.cells [.int .u8 0, .int .u8 0, .int .i64 0, .str [], .nilSlice, .nilSlice, .int .i64 0, .int .i64 0, .int .i64 0] 27):=by rw[aq];exact Aj gx Z
     simp(disch:=omega)only[go_sem,M,O,S,U,V,dE,g6,au];have af:=aw m (by omega) y1 H6 Y ar.get (by omega);have a4:=(Kl (l:=l) m).relation y1 Y (by omega);dsimp only at af;cases hp2:(P l m).relation y1 Y with
     | bot=>rw[hp2] at C;exact absurd C.symm aj
     | fail k5=>
      rw[hp2] at af C;refine(af (Cf (by simp))).mono ?_;rintro e H7 ⟨rfl,rfl⟩;simp(disch:=omega)only[go_sem];rw[<-C];exact RAt.finP (ar.set k5) ⟨rfl,rfl⟩
     | ok y2 k5=>
      rw[hp2] at af C a4;dsimp only[Res.then,Adv] at C a4;refine(af (Cf (by simp))).mono ?_;rintro e H7 ⟨rfl,av⟩;have bo:RAt r l k5 H H7:=by rw[av];exact ar.set k5
      have a5:H7 E=some (.cells (dEx y) 27):=by rw[av];exact Aj au W
      have bp:H7 J=some (.cells [.int .u8 0, .int .u8 0, .int .i64 0, .str [], .nilSlice, .nilSlice, .int .i64 0, .int .i64 0, .int .i64 0] 27):=by rw[av];exact Aj bn Z
      simp(disch:=omega)only[go_sem,M,O,S,U,V,dE,au,a5];refine(Az1 G _ o y y2).mono ?_;rintro _ H8 ⟨rfl,rfl⟩;have bq:=Ad (both o y y2);have br:=Bo (both o y y2);have bs:=Ad y;have bt:(dEx y).drop 9= []:=List.drop_eq_nil_of_le (by omega);simp(disch:=omega)only[go_sem,M,O,S,U,V,a5,bq,br,bs,bt];have a6:RAt r l k5 H (upd H8 E (some (.cells (dEx (both o y y2)) 27))):=bo.own aa W _;refine(Du5 hG _ o a6.get hl (by omega)).mono ?_;rintro _ H9 ⟨rfl,rfl⟩;rw[<-bm];obtain⟨m',rfl⟩: ∃m',m=m'+1:=by
       cases m with
       | zero=>exact absurd C.symm aj
       | succ m'=>exact⟨m',rfl⟩
      simp(disch:=omega)only[go_sem,M,O,S,U];refine⟨(m',both o y y2,k5),_,Rz.refl _,(hI _ _ _).2 ?_,by dsimp only;omega⟩;simp(disch:=omega)only[go_sem,M,O,S,U,W,Z,m3,m4,bp,C];(repeat' apply And.intro)<;>(try first | rfl | assumption | omega);exact a6.set _
end
section
variable {G:Nat->DVal} {H0 H:Ac} {r k:Nat} {l:List Tok}
set_option maxHeartbeats 4000000 in
theorem Ci5 (hG:GX G) (hl:l.length<=800000) (p:PS) (ak:RdC Tryz.prog G l 173 r fun k=>(p.paren k).mp dE) (al:RdC Tryz.prog G l 65 r fun k=>(p.name k).mp dE):RdC Tryz.prog G l 64 r fun k=>((Be l p).primary k).mp dE:=by
 intro H k hr hk hn;dsimp only[Be] at hn⊢
 obtain⟨t,ht⟩: ∃t,t=tk l k:=⟨_,rfl⟩;rw[<-ht] at hn⊢
 have hw:IntKind.i64.wrap ((k:Int)+1)=((k+1:Nat):Int):=by rw[IntKind.wrap_i64];omega
 refine Ab Tryz.func64 Tryz.call64 rfl (by kernel_rfl) ?_;simp(disch:=omega)only[go_sem];intro J L;dsimp only at L;obtain⟨Ha,aa⟩: ∃K,K=upd H J (some (.cells [.int .u8 0, .int .u8 0, .int .i64 0, .str [], .nilSlice, .nilSlice, .int .i64 0, .int .i64 0, .int .i64 0] 27)):=⟨_,rfl⟩;rw[<-aa];have ag:Ha J=some (.cells [.int .u8 0, .int .u8 0, .int .i64 0, .str [], .nilSlice, .nilSlice, .int .i64 0, .int .i64 0, .int .i64 0] 27):=by rw[aa];exact Aa _ _ _
 have n2:r≠J:=Af L hr;have q2:=n2.symm;have ha:RAt r l k H Ha:=by rw[aa];exact(RAt.refl hr).new L _
 simp(disch:=omega)only[go_sem];refine(Ab8 G _ ha.get (by omega) (by omega)).mono ?_;rintro _ H1 ⟨rfl,rfl⟩;rw[<-ht];simp(disch:=omega)only[go_sem];intro S W;dsimp only at W;have ab:J≠S:=Af W ag;have am:=ab.symm;have n3:r≠S:=Af W ha.get;have q3:=n3.symm;simp(disch:=omega)only[go_sem,Cq];obtain⟨Hc,X⟩: ∃K,K=upd H1 S (some (.cells [.int .u8 t.kind,dI t.line, .str t.text,dI t.n] 31)):=⟨_,rfl⟩;rw[<-X];have C:RAt r l k H Hc:=by rw[X];exact ha.new W _
 have U:Hc J=some (.cells [.int .u8 0, .int .u8 0, .int .i64 0, .str [], .nilSlice, .nilSlice, .int .i64 0, .int .i64 0, .int .i64 0] 27):=by rw[X];exact Aj ag ab
 have ac:Hc S=some (.cells [.int .u8 t.kind,dI t.line, .str t.text,dI t.n] 31):=by rw[X];exact Aa _ _ _
 have ah:=C.get;unfold rdO at ah;by_cases c:t.kind=3
 ·rw[if_pos c] at hn⊢
  simp(disch:=omega)only[go_sem,ac,c,ah,hw,n3,n2,q3,q2,U,ab,am];have E:=fun y=>(C.set (k+1)).own L q2 y;exact Mh.fin (E _) (Mh.agg (Mh.ex (E _) (.exs0 (E _)) (.as0 (E _)))) ⟨rfl,rfl⟩
 ·rw[if_neg c] at hn⊢
  simp(disch:=omega)only[go_sem,ac,c,U];intro w1 ai;dsimp only at ai;simp(disch:=omega)only[go_sem];refine(Ay9 hG _ w1 Fm ai C.get (by omega) (by omega)).mono ?_;rintro _ H2 ⟨rfl,M⟩;by_cases Y:isW l k [Fm]=true
  ·rw[if_pos Y] at hn M⊢
   have ao:RAt r l (k+1) H H2:=by rw[M];exact C.set _
   have ap:H2 J=some (.cells [.int .u8 0, .int .u8 0, .int .i64 0, .str [], .nilSlice, .nilSlice, .int .i64 0, .int .i64 0, .int .i64 0] 27):=by rw[M];exact Aj U q2
   have aq:H2 S=some (.cells [.int .u8 t.kind,dI t.line, .str t.text,dI t.n] 31):=by rw[M];exact Aj ac q3
   simp(disch:=omega)only[go_sem,Y,ap,aq];have E:=fun y=>ao.own L q2 y;exact Mh.fin (E _) (Mh.agg (Mh.ex (E _) (.exs0 (E _)) (.as0 (E _)))) ⟨rfl,rfl⟩
  ·have ar:isW l k [Fm]=false:=by simpa using Y
   rw[if_neg Y] at hn M⊢
   rw[Ec C.get] at M;subst M;simp(disch:=omega)only[go_sem,ar];intro w2 aj;dsimp only at aj;simp(disch:=omega)only[go_sem];refine(is1 hG _ w2 Bf aj C.get (by omega) (by omega)).mono ?_;rintro _ H3 ⟨rfl,rfl⟩;by_cases Z:isW l k [Bf]=true
   ·rw[if_pos Z] at hn⊢
    simp(disch:=omega)only[go_sem,Z];have D:=ak _ k C.get hk;dsimp only at D;cases hpr:p.paren k with
    | bot=>rw[hpr] at hn;exact absurd rfl hn
    | fail I=>
     rw[hpr] at D;refine(D (Cf (by simp))).mono ?_;rintro e O ⟨rfl,rfl⟩;simp(disch:=omega)only[go_sem];exact RAt.finP (C.set I) ⟨rfl,rfl⟩
    | ok y I=>
     rw[hpr] at D;refine(D (Cf (by simp))).mono ?_;rintro e O ⟨rfl,V⟩;have ad:RAt r l I H O:=by rw[V];exact C.set I
     have g4:O J=some (.cells [.int .u8 0, .int .u8 0, .int .i64 0, .str [], .nilSlice, .nilSlice, .int .i64 0, .int .i64 0, .int .i64 0] 27):=by rw[V];exact Aj U q2
     have ae:=Ad y;have af:=Bo y;simp(disch:=omega)only[go_sem,dE,g4,ae,af];exact RAt.fin (ad.own L q2 _) ⟨rfl,rfl⟩
   ·have au:isW l k [Bf]=false:=by simpa using Z
    rw[if_neg Z] at hn⊢
    simp(disch:=omega)only[go_sem,au];have D:=al _ k C.get hk;dsimp only at D;cases hpr:p.name k with
    | bot=>rw[hpr] at hn;exact absurd rfl hn
    | fail I=>
     rw[hpr] at D;refine(D (Cf (by simp))).mono ?_;rintro e O ⟨rfl,rfl⟩;simp(disch:=omega)only[go_sem];exact RAt.finP (C.set I) ⟨rfl,rfl⟩
    | ok y I=>
     rw[hpr] at D;refine(D (Cf (by simp))).mono ?_;rintro e O ⟨rfl,V⟩;have ad:RAt r l I H O:=by rw[V];exact C.set I
     have g4:O J=some (.cells [.int .u8 0, .int .u8 0, .int .i64 0, .str [], .nilSlice, .nilSlice, .int .i64 0, .int .i64 0, .int .i64 0] 27):=by rw[V];exact Aj U q2
     have ae:=Ad y;have af:=Bo y;simp(disch:=omega)only[go_sem,dE,g4,ae,af];exact RAt.fin (ad.own L q2 _) ⟨rfl,rfl⟩
end
def dC (c:Ch):DVal:= .agg (dCh c)
def dA (a:As):DVal:= .agg (dAs a)
section
variable {G:Nat->DVal} {H0 H H':Ac} {r k:Nat} {l:List Tok}
theorem Mh.choice {C:Int} {v:DVal} {m:List Ex} (hs:Sub H H') (h:Mh H' v H (dXs m)):Lf H' [.int .u8 C,v] H (dCh (.mk C m)):=by
 rw[Ay0];exact .cons (.keep hs _) (.cons h .nil)
set_option maxHeartbeats 4000000 in
theorem Cv9 (hG:GX G) (hl:l.length<=800000) (p:PS) (hA:p.Adv l) (hs:RdC Tryz.prog G l 61 r fun k=>(p.simple k).mp dE) (a0: ∀x,Dk6 Tryz.prog G l 164 r (.agg (dEx x)) fun k=>(p.rest x k).mp dE):RdC Tryz.prog G l 294 r fun k=>((Be l p).choice k).mp dC:=by
 intro H k hr hk hn;dsimp only[Be] at hn⊢
 refine Ab Tryz.func294 Tryz.call294 rfl (by kernel_rfl) ?_;simp(disch:=omega)only[go_sem];intro D M;dsimp only at M;obtain⟨Ha,ah⟩: ∃K,K=upd H D (some (.cells [.int .u8 0, .nilSlice] 47)):=⟨_,rfl⟩;rw[<-ah];have al:Ha D=some (.cells [.int .u8 0, .nilSlice] 47):=by rw[ah];exact Aa _ _ _
 have n2:r≠D:=Af M hr;have q2:=n2.symm;have ha:RAt r l k H Ha:=by rw[ah];exact(RAt.refl hr).new M _
 simp(disch:=omega)only[go_sem];intro w1 am;dsimp only at am;simp(disch:=omega)only[go_sem];refine(Ay9 hG _ w1 Lt am ha.get (by omega) (by omega)).mono ?_;rintro _ H2 ⟨rfl,O⟩;by_cases c:isW l k [Lt]=true
 ·rw[if_pos c] at hn O⊢
  have a1:RAt r l (k+1) H H2:=by rw[O];exact ha.set _
  have g2:H2 D=some (.cells [.int .u8 0, .nilSlice] 47):=by rw[O];exact Aj al q2
  simp(disch:=omega)only[go_sem,c,g2];have E:=fun y=>a1.own M q2 y;exact Mh.fin (E _) (Mh.agg (Mh.choice (E _) (.exs0 (E _)))) ⟨rfl,rfl⟩
 ·have c':isW l k [Lt]=false:=by simpa using c
  rw[if_neg c] at hn O⊢
  rw[Ec ha.get] at O;subst O;simp(disch:=omega)only[go_sem,c'];have W:=hs _ k ha.get hk;have ae:=hA.simple k hk;dsimp only at W;cases hpr:p.simple k with
  | bot=>rw[hpr] at hn;exact absurd rfl hn
  | fail C=>
   rw[hpr] at W;refine(W (Cf (by simp))).mono ?_;rintro e H3 ⟨rfl,rfl⟩;simp(disch:=omega)only[go_sem];exact RAt.finP (ha.set C) ⟨rfl,rfl⟩
  | ok x C=>
   rw[hpr] at W hn ae;refine(W (Cf (by simp))).mono ?_;rintro e H3 ⟨rfl,ao⟩;have ap:RAt r l C H H3:=by rw[ao];exact ha.set C
   dsimp only[Res.then,Adv] at hn ae⊢
   have g3:H3 D=some (.cells [.int .u8 0, .nilSlice] 47):=by rw[ao];exact Aj al q2
   have ai:=Ad x;have a2:=Bo x;simp(disch:=omega)only[go_sem,dE];intro S af;dsimp only at af;have aq:D≠S:=Af af g3;have a6:=aq.symm;have n3:r≠S:=Af af ap.get;have q3:=n3.symm;simp(disch:=omega)only[go_sem,ai,a2];obtain⟨Hc,ag⟩: ∃K,K=upd H3 S (some (.cells (dEx x) 27)):=⟨_,rfl⟩;rw[<-ag];have U:RAt r l C H Hc:=by rw[ag];exact ap.new af _
   have ar:Hc D=some (.cells [.int .u8 0, .nilSlice] 47):=by rw[ag];exact Aj g3 aq
   have au:Hc S=some (.cells (dEx x) 27):=by rw[ag];exact Aa _ _ _
   intro w2 av;dsimp only at av;simp(disch:=omega)only[go_sem];refine(Ay9 hG _ w2 Ef av U.get (by omega) (by omega)).mono ?_;rintro _ H4 ⟨rfl,L⟩;by_cases X:isW l C [Ef]=true
   ·rw[if_pos X] at hn L⊢
    have aj:RAt r l (C+1) H H4:=by rw[L];exact U.set _
    have a3:H4 D=some (.cells [.int .u8 0, .nilSlice] 47):=by rw[L];exact Aj ar q2
    have ak:H4 S=some (.cells (dEx x) 27):=by rw[L];exact Aj au q3
    have aw:=Av X ae.2;rw[jQ] at aw;simp(disch:=omega)only[go_sem,X];refine Ak (by kernel_rfl) (.take 0 (.take 1 (.go 2 [0] (.go 3 [] (.take 4 (.go 5 [] .done)))))) (by kernel_rfl) ?_;simp(disch:=omega)only[go_sem,ak];have hp2:=hs _ (C+1) aj.get aw;dsimp only at hp2;cases hpr2:p.simple (C+1) with
    | bot=>rw[hpr2] at hn;exact absurd rfl hn
    | fail k5=>
     rw[hpr2] at hp2;refine(hp2 (Cf (by simp))).mono ?_;rintro e J ⟨rfl,rfl⟩;simp(disch:=omega)only[go_sem];exact RAt.finP (aj.set k5) ⟨rfl,rfl⟩
    | ok y k5=>
     rw[hpr2] at hp2;refine(hp2 (Cf (by simp))).mono ?_;rintro e J ⟨rfl,V⟩;have Y:RAt r l k5 H J:=by rw[V];exact aj.set k5
     have Z:J D=some (.cells [.int .u8 0, .nilSlice] 47):=by rw[V];exact Aj a3 q2
     have a4:J S=some (.cells (dEx x) 27):=by rw[V];exact Aj ak q3
     have aa:=Ad y;dsimp only[Res.then];simp(disch:=omega)only[go_sem,dE,ak,a4];rw[Bd ai aa];simp(disch:=omega)only[go_sem];intro r7 I;dsimp only at I;have ab:D≠r7:=Af I Z;have ac:=ab.symm;simp(disch:=omega)only[go_sem,Z,ab,ac];have ax: [x,y].flatMap dEx=dEx x++dEx y:=by simp
     have E:=fun z=>(Y.new I (some (.cells (dEx x++dEx y) 27))).own M q2 z;refine Mh.fin (E _) (Mh.agg (Mh.choice (m:= [x,y]) (E _) (Mh.block (e:=27) (E _) (Sub.lo Y I) ?_ ?_))) ⟨rfl,rfl⟩
     ·rw[ax];simp [upd,ac]
     ·rw[ax,jC,ai,aa]
   ·have a5:isW l C [Ef]=false:=by simpa using X
    rw[if_neg X] at hn L⊢
    rw[Ec U.get] at L;subst L;simp(disch:=omega)only[go_sem,a5,au];have ay:p.rest x C≠ .bot:=fun h=>hn (by rw[h];rfl);have ad:=a0 x _ C U.get ae.2 (Cf ay);dsimp only at ad;cases hpc:p.rest x C with
    | bot=>exact absurd hpc ay
    | fail k4=>
     rw[hpc] at ad;refine ad.mono ?_;rintro e J ⟨rfl,rfl⟩;simp(disch:=omega)only[go_sem];exact RAt.finP (U.set k4) ⟨rfl,rfl⟩
    | ok y k4=>
     rw[hpc] at ad;refine ad.mono ?_;rintro e J ⟨rfl,V⟩;have Y:RAt r l k4 H J:=by rw[V];exact U.set k4
     have Z:J D=some (.cells [.int .u8 0, .nilSlice] 47):=by rw[V];exact Aj ar q2
     have aa:=Ad y;dsimp only[Res.then];simp(disch:=omega)only[go_sem,dE];rw[Al aa];simp(disch:=omega)only[go_sem];intro r7 I;dsimp only at I;have ab:D≠r7:=Af I Z;have ac:=ab.symm;simp(disch:=omega)only[go_sem,Z,ab,ac];have E:=fun z=>(Y.new I (some (.cells (dEx y) 27))).own M q2 z;refine Mh.fin (E _) (Mh.agg (Mh.choice (m:= [y]) (E _) (Mh.block (e:=27) (E _) (Sub.lo Y I) ?_ ?_))) ⟨rfl,rfl⟩
     ·rw[List.flatMap_singleton];simp [upd,ac]
     ·rw[List.flatMap_singleton,aa]
end
section
variable {G:Nat->DVal} {H0 H H':Ac} {r k:Nat} {l:List Tok}
theorem Jw.move {H H':Ac} {e:TypeId} {size n:Nat} {cs:List DVal} {v:DVal} {r:Nat} {o:DObj} (h:Jw (upd H r (some o)) e size n cs v H') (y:Option DObj):Jw (upd H r y) e size n cs v (upd H' r y):=by
 have C: ∀ {K:Ac},Sub (upd H r (some o)) K->Sub (upd H r y) (upd K r y):=fun s b ob hb=>by
  simp only[upd] at hb⊢
  by_cases c:b=r
  ·rw[if_pos c] at hb⊢;exact hb
  ·rw[if_neg c] at hb⊢
   exact s b ob (by simp only[upd];rw[if_neg c];exact hb)
 rcases h with⟨a,b,c,d⟩ | ⟨q,h1,h2,h3,h4,h5⟩
 ·exact .inl ⟨a,b,c,C d⟩
 ·have hq:q≠r:=fun e=>by rw[e,Aa] at h1;cases h1
  exact .inr ⟨q,by rw[Am _ _ _ _ hq] at h1⊢;exact h1,h2,h3,by rw[Am _ _ _ _ hq];exact h4,C h5⟩
theorem Cw0 {x:List DVal} (hx:x.length=10):
  (if 10<=(Cd 1 [DVal.nilSlice,DVal.int .u8 0,DVal.int .u8 0,DVal.int .i64 0,DVal.str [],DVal.nilSlice,DVal.nilSlice,DVal.int .i64 0,DVal.int .i64 0,DVal.int .i64 0]).length then some (x++List.drop 10 (Cd 1 [DVal.nilSlice,DVal.int .u8 0,DVal.int .u8 0,DVal.int .i64 0,DVal.str [],DVal.nilSlice,DVal.nilSlice,DVal.int .i64 0,DVal.int .i64 0,DVal.int .i64 0])) else none)=some x:=by
 have e: ∀u:List DVal,Cd 1 u=u:=fun u=>by simp [Cd]
 rw[e,if_pos (by simp),List.drop_eq_nil_of_le (by simp),jH]
def Bo3 (H:Ac) (l:List As) (v:DVal) (H':Ac):Prop:=Jw H 44 10 l.length (l.flatMap dAs) v H'
set_option maxHeartbeats 4000000 in
theorem Cb3 (hG:GX G) (hl:l.length<=800000) (g:FuncId) (T:Nat->Nat->Res As) (L:Nat->List As->Nat->Res (List As)) (sep:List UInt8)
  (ae: ∀x k,L 0 x k= .bot) (hL: ∀m x k,L (m+1) x k=if isW l k [sep] then(T m (k+1)).then fun a k=>L m (x++ [a]) k else .ok x k)
  (hT: ∀m k,k<=l.length->Adv l (k+1) (T m k)) (n:Nat) (hg: ∀m≤n,RdC Tryz.prog G l g r fun k=>(T m k).mp dA) (H:Ac) (k:Nat) (hr:H r=some (rdO l k)) (hk:k<=l.length) (M:((T n k).then fun a k=>L n [a] k)≠ .bot):
  Ag Tryz.prog G 249 [.optr r 0, .str sep, .func (.func g) [.optr r 0] []] H (RdR r l H (((T n k).then fun a k=>L n [a] k).mp dAl)):=by
 refine Ab Tryz.func249 Tryz.call249 rfl (by kernel_rfl) ?_;simp(disch:=omega)only[go_sem];have S:=hg n (Nat.le_refl _) _ k hr hk;have af:=hT n k hk;dsimp only at S;cases hpr:T n k with
 | bot=>rw[hpr] at M;exact absurd rfl M
 | fail X=>
  rw[hpr] at S;refine(S (Cf (by simp))).mono ?_;rintro e H3 ⟨rfl,rfl⟩;simp(disch:=omega)only[go_sem];exact Vd.refl ⟨rfl,rfl⟩
 | ok U X=>
  rw[hpr] at S M af;refine(S (Cf (by simp))).mono ?_;rintro e H3 ⟨rfl,ag⟩;dsimp only[Res.then,Adv] at M af⊢
  have ah:=Gj U;simp(disch:=omega)only[go_sem,dA];rw[Cw0 ah];simp(disch:=omega)only[go_sem];intro Z Y;dsimp only at Y;obtain⟨n',rfl⟩: ∃n',n=n'+1:=by
   cases n with
   | zero=>exact absurd (ae _ _) M
   | succ n'=>exact⟨n',rfl⟩
  have au:Bo3 (upd H r (some (rdO l X))) [U] (.oslice 10 Z 0 1 1) (upd H3 Z (some (.cells (dAs U) 44))):=
   .inr ⟨Z,by rw[<-ag];exact Y,by rw[List.flatMap_singleton,ah];rfl,rfl,by rw[List.flatMap_singleton];exact Aa _ _ _,by rw[ag] at Y⊢;exact(Sub.refl _).new Y _⟩
  simp(disch:=omega)only[go_sem];obtain⟨I,hI⟩: ∃I:Nat×List As×Nat->(Nat->DVal)->Ac->Prop,∀s env heap,I s env heap↔(env 0= .optr r 0/\env 1= .str sep/\env 2= .func (.func g) [.optr r 0] []/\s.2.2<=l.length/\s.2.1.length<=s.2.2/\s.1<=n'/\L (s.1+1) s.2.1 s.2.2=L (n'+1) [U] X/\Bo3 (upd H r (some (rdO l s.2.2))) s.2.1 (env 7) heap):=⟨_,fun _ _ _=>Iff.rfl⟩;refine Dr7.run I (fun s=>s.1) (n',[U],X) ((hI _ _ _).2 ?_) ?_
  ·simp(disch:=omega)only[go_sem];(repeat' apply And.intro)<;>(try first | rfl | assumption | omega)
  ·rintro⟨m,xs,k1⟩ env heap ao;obtain⟨D,e1,E,ai,ap,hm,C,hv⟩:=(hI _ _ _).1 ao;dsimp only at ai ap hm C hv;rw[hL] at C;obtain⟨v,J⟩: ∃v,env 7=v:=⟨_,rfl⟩;rw[J] at hv;have gr:heap r=some (rdO l k1):=Jw.keep hv (Aa _ _ _);simp(disch:=omega)only[go_sem,D,e1,E,J];intro w1 aj;dsimp only at aj;simp(disch:=omega)only[go_sem,D,e1,E,J];refine(Ay9 hG _ w1 sep aj gr (by omega) (by omega)).mono ?_;rintro _ H4 ⟨rfl,V⟩;by_cases c:isW l k1 [sep]=true
   ·rw[if_pos c] at C V;have aa:=Av c ai;rw[jQ] at aa;have ab:Bo3 (upd H r (some (rdO l (k1+1)))) xs v H4:=by rw[V];exact Jw.move hv _
    have aq:H4 r=some (rdO l (k1+1)):=Jw.keep ab (Aa _ _ _);simp(disch:=omega)only[go_sem,D,e1,E,J,c];have hp2:=hg m (by omega) _ (k1+1) aq aa;have ak:=hT m (k1+1) aa;dsimp only at hp2;cases hpr2:T m (k1+1) with
    | bot=>rw[hpr2] at C;exact absurd C.symm M
    | fail O=>
     rw[hpr2] at hp2 C;refine(hp2 (Cf (by simp))).mono ?_;rintro e H5 ⟨rfl,ac⟩;have ad:Bo3 (upd H r (some (rdO l O))) xs v H5:=by rw[ac];exact Jw.move ab _
     simp(disch:=omega)only[go_sem];rw[<-C];exact Vd.sub (Jw.sub ad) ⟨rfl,rfl⟩
    | ok a O=>
     rw[hpr2] at hp2 C ak;dsimp only[Res.then,Adv] at C ak;refine(hp2 (Cf (by simp))).mono ?_;rintro e H5 ⟨rfl,ac⟩;have ad:Bo3 (upd H r (some (rdO l O))) xs v H5:=by rw[ac];exact Jw.move ab _
     have al:=Gj a;simp(disch:=omega)only[go_sem,D,e1,E,J,dA];rw[Cw0 al];simp(disch:=omega)only[go_sem,D,e1,E,J];intro r8 am;dsimp only at am;simp(disch:=omega)only[go_sem,D,e1,E,J];refine Jw.append (m:=1) (Jw.new ad am _) (by rw[al]) (by omega) fun v2 H6 ar=> ?_;simp(disch:=omega)only[go_sem,D,e1,E];obtain⟨W,rfl⟩: ∃W,m=W+1:=by
      cases m with
      | zero=>rw[ae] at C;exact absurd C.symm M
      | succ W=>exact⟨W,rfl⟩
     have av:(xs++ [a]).length<=O:=by rw[jC,jQ];omega
     have aw:Bo3 (upd H r (some (rdO l O))) (xs++ [a]) v2 H6:=by
      unfold Bo3;rw[jC,jQ,List.flatMap_append,List.flatMap_singleton];exact ar
     refine⟨(W,xs++ [a],O),_,Rz.refl _,(hI _ _ _).2 ?_,by dsimp only;omega⟩;simp(disch:=omega)only[go_sem,D,e1,E];(repeat' apply And.intro)<;>(try first | rfl | assumption | omega)
   ·have c':isW l k1 [sep]=false:=by simpa using c
    rw[if_neg c] at C V;rw[Ec gr] at V;subst V;simp(disch:=omega)only[go_sem,D,e1,E,J,c'];rw[<-C];exact Jw.fin hv ⟨rfl,rfl⟩
theorem Bo4 {x:List DVal} (hx:x.length=2):
  (if 2<=(Cd 1 [DVal.int .u8 0,DVal.nilSlice]).length then some (x++List.drop 2 (Cd 1 [DVal.int .u8 0,DVal.nilSlice])) else none)=some x:=by
 have e: ∀u:List DVal,Cd 1 u=u:=fun u=>by simp [Cd]
 rw[e,if_pos (by simp),List.drop_eq_nil_of_le (by simp),jH]
def Mj (H:Ac) (l:List Ch) (v:DVal) (H':Ac):Prop:=Jw H 47 2 l.length (l.flatMap dCh) v H'
set_option maxHeartbeats 4000000 in
theorem Ei5 (hG:GX G) (hl:l.length<=800000) (g:FuncId) (T:Nat->Nat->Res Ch) (L:Nat->List Ch->Nat->Res (List Ch)) (sep:List UInt8)
  (ae: ∀x k,L 0 x k= .bot) (hL: ∀m x k,L (m+1) x k=if isW l k [sep] then(T m (k+1)).then fun a k=>L m (x++ [a]) k else .ok x k)
  (hT: ∀m k,k<=l.length->Adv l (k+1) (T m k)) (n:Nat) (hg: ∀m≤n,RdC Tryz.prog G l g r fun k=>(T m k).mp dC) (H:Ac) (k:Nat) (hr:H r=some (rdO l k)) (hk:k<=l.length) (M:((T n k).then fun a k=>L n [a] k)≠ .bot):
  Ag Tryz.prog G 325 [.optr r 0, .str sep, .func (.func g) [.optr r 0] []] H (RdR r l H (((T n k).then fun a k=>L n [a] k).mp dCl)):=by
 refine Ab Tryz.func325 Tryz.call325 rfl (by kernel_rfl) ?_;simp(disch:=omega)only[go_sem];have S:=hg n (Nat.le_refl _) _ k hr hk;have af:=hT n k hk;dsimp only at S;cases hpr:T n k with
 | bot=>rw[hpr] at M;exact absurd rfl M
 | fail X=>
  rw[hpr] at S;refine(S (Cf (by simp))).mono ?_;rintro e H3 ⟨rfl,rfl⟩;simp(disch:=omega)only[go_sem];exact Vd.refl ⟨rfl,rfl⟩
 | ok U X=>
  rw[hpr] at S M af;refine(S (Cf (by simp))).mono ?_;rintro e H3 ⟨rfl,ag⟩;dsimp only[Res.then,Adv] at M af⊢
  have ah:=Gs U;simp(disch:=omega)only[go_sem,dC];rw[Bo4 ah];simp(disch:=omega)only[go_sem];intro Z Y;dsimp only at Y;obtain⟨n',rfl⟩: ∃n',n=n'+1:=by
   cases n with
   | zero=>exact absurd (ae _ _) M
   | succ n'=>exact⟨n',rfl⟩
  have au:Mj (upd H r (some (rdO l X))) [U] (.oslice 2 Z 0 1 1) (upd H3 Z (some (.cells (dCh U) 47))):=
   .inr ⟨Z,by rw[<-ag];exact Y,by rw[List.flatMap_singleton,ah];rfl,rfl,by rw[List.flatMap_singleton];exact Aa _ _ _,by rw[ag] at Y⊢;exact(Sub.refl _).new Y _⟩
  simp(disch:=omega)only[go_sem];obtain⟨I,hI⟩: ∃I:Nat×List Ch×Nat->(Nat->DVal)->Ac->Prop,∀s env heap,I s env heap↔(env 0= .optr r 0/\env 1= .str sep/\env 2= .func (.func g) [.optr r 0] []/\s.2.2<=l.length/\s.2.1.length<=s.2.2/\s.1<=n'/\L (s.1+1) s.2.1 s.2.2=L (n'+1) [U] X/\Mj (upd H r (some (rdO l s.2.2))) s.2.1 (env 7) heap):=⟨_,fun _ _ _=>Iff.rfl⟩;refine Dr7.run I (fun s=>s.1) (n',[U],X) ((hI _ _ _).2 ?_) ?_
  ·simp(disch:=omega)only[go_sem];(repeat' apply And.intro)<;>(try first | rfl | assumption | omega)
  ·rintro⟨m,xs,k1⟩ env heap ao;obtain⟨D,e1,E,ai,ap,hm,C,hv⟩:=(hI _ _ _).1 ao;dsimp only at ai ap hm C hv;rw[hL] at C;obtain⟨v,J⟩: ∃v,env 7=v:=⟨_,rfl⟩;rw[J] at hv;have gr:heap r=some (rdO l k1):=Jw.keep hv (Aa _ _ _);simp(disch:=omega)only[go_sem,D,e1,E,J];intro w1 aj;dsimp only at aj;simp(disch:=omega)only[go_sem,D,e1,E,J];refine(Ay9 hG _ w1 sep aj gr (by omega) (by omega)).mono ?_;rintro _ H4 ⟨rfl,V⟩;by_cases c:isW l k1 [sep]=true
   ·rw[if_pos c] at C V;have aa:=Av c ai;rw[jQ] at aa;have ab:Mj (upd H r (some (rdO l (k1+1)))) xs v H4:=by rw[V];exact Jw.move hv _
    have aq:H4 r=some (rdO l (k1+1)):=Jw.keep ab (Aa _ _ _);simp(disch:=omega)only[go_sem,D,e1,E,J,c];have hp2:=hg m (by omega) _ (k1+1) aq aa;have ak:=hT m (k1+1) aa;dsimp only at hp2;cases hpr2:T m (k1+1) with
    | bot=>rw[hpr2] at C;exact absurd C.symm M
    | fail O=>
     rw[hpr2] at hp2 C;refine(hp2 (Cf (by simp))).mono ?_;rintro e H5 ⟨rfl,ac⟩;have ad:Mj (upd H r (some (rdO l O))) xs v H5:=by rw[ac];exact Jw.move ab _
     simp(disch:=omega)only[go_sem];rw[<-C];exact Vd.sub (Jw.sub ad) ⟨rfl,rfl⟩
    | ok a O=>
     rw[hpr2] at hp2 C ak;dsimp only[Res.then,Adv] at C ak;refine(hp2 (Cf (by simp))).mono ?_;rintro e H5 ⟨rfl,ac⟩;have ad:Mj (upd H r (some (rdO l O))) xs v H5:=by rw[ac];exact Jw.move ab _
     have al:=Gs a;simp(disch:=omega)only[go_sem,D,e1,E,J,dC];rw[Bo4 al];simp(disch:=omega)only[go_sem,D,e1,E,J];intro r8 am;dsimp only at am;simp(disch:=omega)only[go_sem,D,e1,E,J];refine Jw.append (m:=1) (Jw.new ad am _) (by rw[al]) (by omega) fun v2 H6 ar=> ?_;simp(disch:=omega)only[go_sem,D,e1,E];obtain⟨W,rfl⟩: ∃W,m=W+1:=by
      cases m with
      | zero=>rw[ae] at C;exact absurd C.symm M
      | succ W=>exact⟨W,rfl⟩
     have av:(xs++ [a]).length<=O:=by rw[jC,jQ];omega
     have aw:Mj (upd H r (some (rdO l O))) (xs++ [a]) v2 H6:=by
      unfold Mj;rw[jC,jQ,List.flatMap_append,List.flatMap_singleton];exact ar
     refine⟨(W,xs++ [a],O),_,Rz.refl _,(hI _ _ _).2 ?_,by dsimp only;omega⟩;simp(disch:=omega)only[go_sem,D,e1,E];(repeat' apply And.intro)<;>(try first | rfl | assumption | omega)
   ·have c':isW l k1 [sep]=false:=by simpa using c
    rw[if_neg c] at C V;rw[Ec gr] at V;subst V;simp(disch:=omega)only[go_sem,D,e1,E,J,c'];rw[<-C];exact Jw.fin hv ⟨rfl,rfl⟩
theorem Ei6 (hG:GX G) (hl:l.length<=800000) (n:Nat) (C: ∀m≤n,RdC Tryz.prog G l 251 r fun k=>((P l m).arg k).mp dA):RdC Tryz.prog G l 175 r fun k=>(((P l n).arg k).then fun a k=>(P l n).argsL [a] k).mp dAl:=by
 intro H k hr hk hn;refine Ab Tryz.func175 Tryz.call175 rfl (by kernel_rfl) ?_;simp(disch:=omega)only[go_sem];have hs:=Cb3 hG hl 251 (fun m=>(P l m).arg) (fun m=>(P l m).argsL) Ee (fun _ _=>rfl) (fun _ _ _=>rfl) (fun m k hk=>(Kl m).arg k hk) n C H k hr hk (fun h=>hn (by dsimp only;rw[h];rfl));refine hs.mono ?_;intro e H' h;dsimp only at hn⊢
 cases hc:(((P l n).arg k).then fun a k=>(P l n).argsL [a] k) with
 | bot=>rw[hc] at h;exact h.elim
 | fail D=>
  rw[hc] at h;obtain⟨rfl,rfl⟩:=h;simp(disch:=omega)only[go_sem];exact Vd.refl ⟨rfl,rfl⟩
 | ok x D=>
  rw[hc] at h;obtain⟨rfl,rfl⟩:=h;simp(disch:=omega)only[go_sem];exact Fa.refl ⟨rfl,rfl⟩
theorem Ci6 (hG:GX G) (hl:l.length<=800000) (n:Nat) (C: ∀m≤n,RdC Tryz.prog G l 294 r fun k=>((P l m).choice k).mp dC):RdC Tryz.prog G l 319 r fun k=>(((P l n).choice k).then fun a k=>(P l n).choicesL [a] k).mp dCl:=by
 intro H k hr hk hn;refine Ab Tryz.func319 Tryz.call319 rfl (by kernel_rfl) ?_;simp(disch:=omega)only[go_sem];have hs:=Ei5 hG hl 294 (fun m=>(P l m).choice) (fun m=>(P l m).choicesL) Gg (fun _ _=>rfl) (fun _ _ _=>rfl) (fun m k hk=>Eh ((Kl m).choice k hk) (Nat.le_refl _)) n C H k hr hk (fun h=>hn (by dsimp only;rw[h];rfl));refine hs.mono ?_;intro e H' h;dsimp only at hn⊢
 cases hc:(((P l n).choice k).then fun a k=>(P l n).choicesL [a] k) with
 | bot=>rw[hc] at h;exact h.elim
 | fail D=>
  rw[hc] at h;obtain⟨rfl,rfl⟩:=h;simp(disch:=omega)only[go_sem];exact Vd.refl ⟨rfl,rfl⟩
 | ok x D=>
  rw[hc] at h;obtain⟨rfl,rfl⟩:=h;simp(disch:=omega)only[go_sem];exact Fa.refl ⟨rfl,rfl⟩
end
section
variable {G:Nat->DVal} {H0 H H':Ac} {r k:Nat} {l:List Tok}
theorem Gt6 (hG:GX G) (H:Ac) (q:Nat) (s:List UInt8) (D:H q=some (.cells [.str s] 9)) (hr:H r=some (rdO l k)) (C:r≠q) (hl:l.length<=1000000) (hk:k<=900000):Ag Tryz.prog G 172 [.optr r 0, .oslice 1 q 0 1 1] H (Ax (.bool (isW l k [s])) (upd H q none)):=by
 refine Ag.fzArgs q D ?_;simp only[fzs,fz,if_neg C,if_pos];exact Aq8 hG _ [s] (by rw[Am _ _ _ _ C];exact hr) hl hk (by simp)
theorem Mh.assoc {v:DVal} {c:List Ch} {e:Ex} (hs:Sub H H') (h:Mh H' v H (dCl c)):Lf H' (v::dEx e) H (dAs (.mk c e)):=by
 rw[Ax9];exact .cons h (.keep hs _)
set_option maxHeartbeats 4000000 in
theorem Bx5 (hG:GX G) (hl:l.length<=800000) (p:PS) (au:RdC Tryz.prog G l 58 r fun k=>(p.expr k).mp dE):RdC Tryz.prog G l 251 r fun k=>((Be l p).arg k).mp dA:=by
 intro H k hr hk hn;dsimp only[Be] at hn⊢
 obtain⟨t,ht⟩: ∃t,t=tk l k:=⟨_,rfl⟩;rw[<-ht] at hn⊢
 have bv:IntKind.i64.wrap ((k:Int)+1)=((k+1:Nat):Int):=by rw[IntKind.wrap_i64];omega
 have bq:IntKind.i64.wrap ((k:Int)+2)=((k+2:Nat):Int):=by rw[IntKind.wrap_i64];omega
 refine Ab Tryz.func251 Tryz.call251 rfl (by kernel_rfl) ?_;simp(disch:=omega)only[go_sem];intro I ac;dsimp only at ac;obtain⟨Ha,bg⟩: ∃K,K=upd H I (some (.cells [.nilSlice, .int .u8 0, .int .u8 0, .int .i64 0, .str [], .nilSlice, .nilSlice, .int .i64 0, .int .i64 0, .int .i64 0] 44)):=⟨_,rfl⟩;rw[<-bg];have br:Ha I=some (.cells [.nilSlice, .int .u8 0, .int .u8 0, .int .i64 0, .str [], .nilSlice, .nilSlice, .int .i64 0, .int .i64 0, .int .i64 0] 44):=by rw[bg];exact Aa _ _ _
 have n2:r≠I:=Af ac hr;have q2:=n2.symm;have ha:RAt r l k H Ha:=by rw[bg];exact(RAt.refl hr).new ac _
 simp(disch:=omega)only[go_sem];refine(Ab8 G _ ha.get (by omega) (by omega)).mono ?_;rintro _ H1 ⟨rfl,rfl⟩;rw[<-ht];simp(disch:=omega)only[go_sem];intro W bd;dsimp only at bd;have bs:I≠W:=Af bd br;have bz:=bs.symm;have n3:r≠W:=Af bd ha.get;have q3:=n3.symm;simp(disch:=omega)only[go_sem,Cq];obtain⟨Hc,be⟩: ∃K,K=upd H1 W (some (.cells [.int .u8 t.kind,dI t.line, .str t.text,dI t.n] 31)):=⟨_,rfl⟩;rw[<-be];have X:RAt r l k H Hc:=by rw[be];exact ha.new bd _
 have ak:Hc I=some (.cells [.nilSlice, .int .u8 0, .int .u8 0, .int .i64 0, .str [], .nilSlice, .nilSlice, .int .i64 0, .int .i64 0, .int .i64 0] 44):=by rw[be];exact Aj br bs
 have aj:Hc W=some (.cells [.int .u8 t.kind,dI t.line, .str t.text,dI t.n] 31):=by rw[be];exact Aa _ _ _
 have bt:=X.get;unfold rdO at bt;by_cases c:t.kind=1
 ·refine Ak (by kernel_rfl) pL6 (by kernel_rfl) ?_;have bw:(Bl l).cells= [Bl l]:=rfl;simp(disch:=omega)only[go_sem,aj,c,bt,bv,bw];have bu:k+1<=l.length:=Oq (by rw[<-ht,c];decide);refine⟨?_, ?_⟩
  ·intro w1 hw;dsimp only at hw;have ar:r≠w1:=Af hw X.get;simp(disch:=omega)only[go_sem,ar];intro ad ae;dsimp only at ae;obtain⟨m1,m2,bh⟩:=Ba.1 ae;have bf:r≠ad:=Af bh X.get;simp(disch:=omega)only[go_sem,ar,bf,m1,m2];refine(Gt6 hG _ w1 By (r:=ad) (k:=k+1) (by rw[Am _ _ _ _ m2];exact Aa _ _ _) (Aa _ _ _) m1 (by omega) (by omega)).mono ?_;rintro _ H5 ⟨rfl,al⟩;have av:I≠w1:=Af hw ak;have aw:W≠w1:=Af hw aj;have bi:I≠ad:=Af bh ak;have bj:W≠ad:=Af bh aj;have ax:H5 I=some (.cells [.nilSlice, .int .u8 0, .int .u8 0, .int .i64 0, .str [], .nilSlice, .nilSlice, .int .i64 0, .int .i64 0, .int .i64 0] 44):=by rw[al,Am _ _ _ _ av];exact Aj (Aj ak av) bi
   have ay:H5 W=some (.cells [.int .u8 t.kind,dI t.line, .str t.text,dI t.n] 31):=by rw[al,Am _ _ _ _ aw];exact Aj (Aj aj aw) bj
   have Y:RAt r l k H H5:=by rw[al];exact((X.new hw (some (.cells [.str By] 9))).new ae (some (rdO l (k+1)))).own (X.lo hw) ar.symm none
   have a0:=Y.get;unfold rdO at a0;by_cases L:isW l (k+1) [By]=true
   ·rw[if_pos ⟨c,L⟩] at hn;rw[if_pos L];have bk:=Av L bu;rw[jQ] at bk;simp(disch:=omega)only[go_sem,L,a0,bq,q3,ay];obtain⟨O,af⟩: ∃O,O=upd H5 r (some (rdO l (k+2))):=⟨_,rfl⟩;have a3:=af;unfold rdO at a3;rw[<-a3];have Z:RAt r l (k+2) H O:=by rw[af];exact Y.set _
    have am:O I=some (.cells [.nilSlice, .int .u8 0, .int .u8 0, .int .i64 0, .str [], .nilSlice, .nilSlice, .int .i64 0, .int .i64 0, .int .i64 0] 44):=by rw[af];exact Aj ax q2
    have bx:O W=some (.cells [.int .u8 t.kind,dI t.line, .str t.text,dI t.n] 31):=by rw[af];exact Aj ay q3
    intro S aa;dsimp only at aa;have a4:I≠S:=Af aa am;have a5:=a4.symm;have a6:r≠S:=Af aa Z.get;simp(disch:=omega)only[go_sem];intro U ao;dsimp only at ao;obtain⟨a1,a2,ap⟩:=Ba.1 ao;have a7:I≠U:=Af ap am;have a8:=a7.symm;have a9:r≠U:=Af ap Z.get;simp(disch:=omega)only[go_sem,a4,a7,am];obtain⟨V,ab⟩: ∃V,V=upd (upd (upd O S (some (.cells [.int .u8 3, .int .u8 0, .int .i64 0, .str t.text, .nilSlice, .nilSlice, .int .i64 t.line, .int .i64 0, .int .i64 0] 27))) U (some (.cells [.int .u8 1, .oslice 9 S 0 1 1] 47))) I (some (.cells [.oslice 2 U 0 1 1, .int .u8 0, .int .u8 0, .int .i64 0, .str [], .nilSlice, .nilSlice, .int .i64 0, .int .i64 0, .int .i64 0] 44)):=⟨_,rfl⟩;rw[show List.drop 9 (Cd 1 [DVal.int .u8 0,DVal.int .u8 0,DVal.int .i64 0,DVal.str [],DVal.nilSlice,DVal.nilSlice,DVal.int .i64 0,DVal.int .i64 0,DVal.int .i64 0])= [] from rfl,show List.drop 2 (Cd 1 [DVal.int .u8 0,DVal.nilSlice])= [] from rfl,<-ab];have aq:RAt r l (k+2) H V:=by rw[ab];exact((Z.new aa _).new ao _).own ac q2 _
    have bl:V S=some (.cells [.int .u8 3, .int .u8 0, .int .i64 0, .str t.text, .nilSlice, .nilSlice, .int .i64 t.line, .int .i64 0, .int .i64 0] 27):=by rw[ab];simp [upd,a5,a1,a2]
    have bm:V U=some (.cells [.int .u8 1, .oslice 9 S 0 1 1] 47):=by rw[ab];simp [upd,a8]
    have bn:V I=some (.cells [.oslice 2 U 0 1 1, .int .u8 0, .int .u8 0, .int .i64 0, .str [], .nilSlice, .nilSlice, .int .i64 0, .int .i64 0, .int .i64 0] 44):=by rw[ab];exact Aa _ _ _
    have D:=au _ (k+2) aq.get (by omega);dsimp only at D;cases hpr:p.expr (k+2) with
    | bot=>rw[hpr] at hn;exact absurd rfl hn
    | fail C=>
     rw[hpr] at D;refine(D (Cf (by simp))).mono ?_;rintro e J ⟨rfl,rfl⟩;simp(disch:=omega)only[go_sem];exact RAt.finP (aq.set C) ⟨rfl,rfl⟩
    | ok y C=>
     rw[hpr] at D;refine(D (Cf (by simp))).mono ?_;rintro e J ⟨rfl,M⟩;have ag:RAt r l C H J:=by rw[M];exact aq.set C
     have ba:=Aj (y:=some (rdO l C)) bn q2;have bb:=Aj (y:=some (rdO l C)) bl a6.symm;have bc:=Aj (y:=some (rdO l C)) bm a9.symm;rw[<-M] at ba bb bc;have ah:=Ad y;have ai:=Bo y;dsimp only[Res.then];simp(disch:=omega)only[go_sem,dE,ba,ah,ai];have E:=fun z=>ag.own ac q2 z;refine Mh.fin (E _) (Mh.agg (Mh.assoc (c:= [.mk 1 [.mk 3 0 0 t.text [] [] t.line 0 0]]) (E _) (Mh.cells (e:=47) (cs':= [Ch.mk 1 [.mk 3 0 0 t.text [] [] t.line 0 0]].flatMap dCh) (E _) ?_ (Aj bc a8) rfl ?_))) ⟨rfl,rfl⟩
     ·rw[Am _ _ _ _ a9.symm];exact Z.lo ap
     ·rw[List.flatMap_singleton];refine Mh.choice (m:= [.mk 3 0 0 t.text [] [] t.line 0 0]) (E _) (Mh.cells (e:=27) (cs':= [Ex.mk 3 0 0 t.text [] [] t.line 0 0].flatMap dEx) (E _) ?_ (Aj bb a5) rfl ?_)
      ·rw[Am _ _ _ _ a6.symm];exact Z.lo aa
      ·rw[List.flatMap_singleton];exact Mh.ex (E _) (.exs0 (E _)) (.as0 (E _))
   ·have bo:isW l (k+1) [By]=false:=by simpa using L
    rw[if_neg (fun h=>L h.2)] at hn;rw[if_neg L];simp(disch:=omega)only[go_sem,bo];have D:=au _ k Y.get hk;dsimp only at D;cases hpr:p.expr k with
    | bot=>rw[hpr] at hn;exact absurd rfl hn
    | fail C=>
     rw[hpr] at D;refine(D (Cf (by simp))).mono ?_;rintro e J ⟨rfl,rfl⟩;simp(disch:=omega)only[go_sem];exact RAt.finP (Y.set C) ⟨rfl,rfl⟩
    | ok y C=>
     rw[hpr] at D;refine(D (Cf (by simp))).mono ?_;rintro e J ⟨rfl,M⟩;have ag:RAt r l C H J:=by rw[M];exact Y.set C
     have g4:J I=some (.cells [.nilSlice, .int .u8 0, .int .u8 0, .int .i64 0, .str [], .nilSlice, .nilSlice, .int .i64 0, .int .i64 0, .int .i64 0] 44):=by rw[M];exact Aj ax q2
     have ah:=Ad y;have ai:=Bo y;dsimp only[Res.then];simp(disch:=omega)only[go_sem,dE,g4,ah,ai];have E:=fun z=>ag.own ac q2 z;exact Mh.fin (E _) (Mh.agg (Mh.assoc (c:= []) (E _) (.ch0 (E _)))) ⟨rfl,rfl⟩
  ·intro ad ae;dsimp only at ae;have bf:r≠ad:=Af ae X.get;simp(disch:=omega)only[go_sem,bf];intro w1 bp;dsimp only at bp;obtain⟨m1,m2,hw⟩:=Ba.1 bp;have ar:r≠w1:=Af hw X.get;simp(disch:=omega)only[go_sem,ar,bf,m1,m2];refine(Gt6 hG _ w1 By (r:=ad) (k:=k+1) (Aa _ _ _) (by rw[Am _ _ _ _ m2];exact Aa _ _ _) m2 (by omega) (by omega)).mono ?_;rintro _ H5 ⟨rfl,al⟩;have av:I≠w1:=Af hw ak;have aw:W≠w1:=Af hw aj;have bi:I≠ad:=Af ae ak;have bj:W≠ad:=Af ae aj;have ax:H5 I=some (.cells [.nilSlice, .int .u8 0, .int .u8 0, .int .i64 0, .str [], .nilSlice, .nilSlice, .int .i64 0, .int .i64 0, .int .i64 0] 44):=by rw[al,Am _ _ _ _ av];exact Aj (Aj ak bi) av
   have ay:H5 W=some (.cells [.int .u8 t.kind,dI t.line, .str t.text,dI t.n] 31):=by rw[al,Am _ _ _ _ aw];exact Aj (Aj aj bj) aw
   have Y:RAt r l k H H5:=by rw[al];exact((X.new ae (some (rdO l (k+1)))).new bp (some (.cells [.str By] 9))).own (X.lo hw) ar.symm none
   have a0:=Y.get;unfold rdO at a0;by_cases L:isW l (k+1) [By]=true
   ·rw[if_pos ⟨c,L⟩] at hn;rw[if_pos L];have bk:=Av L bu;rw[jQ] at bk;simp(disch:=omega)only[go_sem,L,a0,bq,q3,ay];obtain⟨O,af⟩: ∃O,O=upd H5 r (some (rdO l (k+2))):=⟨_,rfl⟩;have a3:=af;unfold rdO at a3;rw[<-a3];have Z:RAt r l (k+2) H O:=by rw[af];exact Y.set _
    have am:O I=some (.cells [.nilSlice, .int .u8 0, .int .u8 0, .int .i64 0, .str [], .nilSlice, .nilSlice, .int .i64 0, .int .i64 0, .int .i64 0] 44):=by rw[af];exact Aj ax q2
    have bx:O W=some (.cells [.int .u8 t.kind,dI t.line, .str t.text,dI t.n] 31):=by rw[af];exact Aj ay q3
    intro S aa;dsimp only at aa;have a4:I≠S:=Af aa am;have a5:=a4.symm;have a6:r≠S:=Af aa Z.get;simp(disch:=omega)only[go_sem];intro U ao;dsimp only at ao;obtain⟨a1,a2,ap⟩:=Ba.1 ao;have a7:I≠U:=Af ap am;have a8:=a7.symm;have a9:r≠U:=Af ap Z.get;simp(disch:=omega)only[go_sem,a4,a7,am];obtain⟨V,ab⟩: ∃V,V=upd (upd (upd O S (some (.cells [.int .u8 3, .int .u8 0, .int .i64 0, .str t.text, .nilSlice, .nilSlice, .int .i64 t.line, .int .i64 0, .int .i64 0] 27))) U (some (.cells [.int .u8 1, .oslice 9 S 0 1 1] 47))) I (some (.cells [.oslice 2 U 0 1 1, .int .u8 0, .int .u8 0, .int .i64 0, .str [], .nilSlice, .nilSlice, .int .i64 0, .int .i64 0, .int .i64 0] 44)):=⟨_,rfl⟩;rw[show List.drop 9 (Cd 1 [DVal.int .u8 0,DVal.int .u8 0,DVal.int .i64 0,DVal.str [],DVal.nilSlice,DVal.nilSlice,DVal.int .i64 0,DVal.int .i64 0,DVal.int .i64 0])= [] from rfl,show List.drop 2 (Cd 1 [DVal.int .u8 0,DVal.nilSlice])= [] from rfl,<-ab];have aq:RAt r l (k+2) H V:=by rw[ab];exact((Z.new aa _).new ao _).own ac q2 _
    have bl:V S=some (.cells [.int .u8 3, .int .u8 0, .int .i64 0, .str t.text, .nilSlice, .nilSlice, .int .i64 t.line, .int .i64 0, .int .i64 0] 27):=by rw[ab];simp [upd,a5,a1,a2]
    have bm:V U=some (.cells [.int .u8 1, .oslice 9 S 0 1 1] 47):=by rw[ab];simp [upd,a8]
    have bn:V I=some (.cells [.oslice 2 U 0 1 1, .int .u8 0, .int .u8 0, .int .i64 0, .str [], .nilSlice, .nilSlice, .int .i64 0, .int .i64 0, .int .i64 0] 44):=by rw[ab];exact Aa _ _ _
    have D:=au _ (k+2) aq.get (by omega);dsimp only at D;cases hpr:p.expr (k+2) with
    | bot=>rw[hpr] at hn;exact absurd rfl hn
    | fail C=>
     rw[hpr] at D;refine(D (Cf (by simp))).mono ?_;rintro e J ⟨rfl,rfl⟩;simp(disch:=omega)only[go_sem];exact RAt.finP (aq.set C) ⟨rfl,rfl⟩
    | ok y C=>
     rw[hpr] at D;refine(D (Cf (by simp))).mono ?_;rintro e J ⟨rfl,M⟩;have ag:RAt r l C H J:=by rw[M];exact aq.set C
     have ba:=Aj (y:=some (rdO l C)) bn q2;have bb:=Aj (y:=some (rdO l C)) bl a6.symm;have bc:=Aj (y:=some (rdO l C)) bm a9.symm;rw[<-M] at ba bb bc;have ah:=Ad y;have ai:=Bo y;dsimp only[Res.then];simp(disch:=omega)only[go_sem,dE,ba,ah,ai];have E:=fun z=>ag.own ac q2 z;refine Mh.fin (E _) (Mh.agg (Mh.assoc (c:= [.mk 1 [.mk 3 0 0 t.text [] [] t.line 0 0]]) (E _) (Mh.cells (e:=47) (cs':= [Ch.mk 1 [.mk 3 0 0 t.text [] [] t.line 0 0]].flatMap dCh) (E _) ?_ (Aj bc a8) rfl ?_))) ⟨rfl,rfl⟩
     ·rw[Am _ _ _ _ a9.symm];exact Z.lo ap
     ·rw[List.flatMap_singleton];refine Mh.choice (m:= [.mk 3 0 0 t.text [] [] t.line 0 0]) (E _) (Mh.cells (e:=27) (cs':= [Ex.mk 3 0 0 t.text [] [] t.line 0 0].flatMap dEx) (E _) ?_ (Aj bb a5) rfl ?_)
      ·rw[Am _ _ _ _ a6.symm];exact Z.lo aa
      ·rw[List.flatMap_singleton];exact Mh.ex (E _) (.exs0 (E _)) (.as0 (E _))
   ·have bo:isW l (k+1) [By]=false:=by simpa using L
    rw[if_neg (fun h=>L h.2)] at hn;rw[if_neg L];simp(disch:=omega)only[go_sem,bo];have D:=au _ k Y.get hk;dsimp only at D;cases hpr:p.expr k with
    | bot=>rw[hpr] at hn;exact absurd rfl hn
    | fail C=>
     rw[hpr] at D;refine(D (Cf (by simp))).mono ?_;rintro e J ⟨rfl,rfl⟩;simp(disch:=omega)only[go_sem];exact RAt.finP (Y.set C) ⟨rfl,rfl⟩
    | ok y C=>
     rw[hpr] at D;refine(D (Cf (by simp))).mono ?_;rintro e J ⟨rfl,M⟩;have ag:RAt r l C H J:=by rw[M];exact Y.set C
     have g4:J I=some (.cells [.nilSlice, .int .u8 0, .int .u8 0, .int .i64 0, .str [], .nilSlice, .nilSlice, .int .i64 0, .int .i64 0, .int .i64 0] 44):=by rw[M];exact Aj ax q2
     have ah:=Ad y;have ai:=Bo y;dsimp only[Res.then];simp(disch:=omega)only[go_sem,dE,g4,ah,ai];have E:=fun z=>ag.own ac q2 z;exact Mh.fin (E _) (Mh.agg (Mh.assoc (c:= []) (E _) (.ch0 (E _)))) ⟨rfl,rfl⟩
 ·rw[if_neg (fun h=>c h.1)] at hn⊢
  refine Ak (by kernel_rfl) pL6 (by kernel_rfl) ?_;simp(disch:=omega)only[go_sem,aj,c];refine⟨⟨⟨Kp,Kp⟩, ?_⟩,⟨Kp,Kp⟩, ?_⟩;all_goals
   have D:=au _ k X.get hk;dsimp only at D;cases hpr:p.expr k with
   | bot=>rw[hpr] at hn;exact absurd rfl hn
   | fail C=>
    rw[hpr] at D;refine(D (Cf (by simp))).mono ?_;rintro e J ⟨rfl,rfl⟩;simp(disch:=omega)only[go_sem];exact RAt.finP (X.set C) ⟨rfl,rfl⟩
   | ok y C=>
    rw[hpr] at D;refine(D (Cf (by simp))).mono ?_;rintro e J ⟨rfl,M⟩;have ag:RAt r l C H J:=by rw[M];exact X.set C
    have g4:J I=some (.cells [.nilSlice, .int .u8 0, .int .u8 0, .int .i64 0, .str [], .nilSlice, .nilSlice, .int .i64 0, .int .i64 0, .int .i64 0] 44):=by rw[M];exact Aj ak q2
    have ah:=Ad y;have ai:=Bo y;dsimp only[Res.then];simp(disch:=omega)only[go_sem,dE,g4,ah,ai];have E:=fun z=>ag.own ac q2 z;exact Mh.fin (E _) (Mh.agg (Mh.assoc (c:= []) (E _) (.ch0 (E _)))) ⟨rfl,rfl⟩
end
section
variable {G:Nat->DVal} {H0 H H':Ac} {r k:Nat} {l:List Tok}
theorem Nx {α β:Type} (x:α) (k:Nat) (f:α->Nat->Res β):(Res.ok x k).then f=f x k:=rfl
theorem Ou {α β:Type} (k:Nat) (f:α->Nat->Res β):(Res.fail k).then f= .fail k:=rfl
theorem Rr {α β:Type} (f:α->Nat->Res β):Res.bot.then f= .bot:=rfl
theorem Jw.at {B H':Ac} {e:TypeId} {size n:Nat} {cs:List DVal} {v:DVal} {r:Nat} {o:DObj} (h:Jw B e size n cs v H') (hr:B r=some o) (y:Option DObj):Jw (upd B r y) e size n cs v (upd H' r y):=by
 have h2:Jw (upd B r (some o)) e size n cs v H':=by rw[Ec hr];exact h
 exact h2.move y
theorem Aq9 {n k:Nat} {c:Ch} {k':Nat} (h:(P l n).choice k= .ok c k'):(c.kind=3/\c.l= [])\/(c.kind=2/\ ∃x y,c.l= [x,y])\/(c.kind=1/\ ∃x,c.l= [x]):=by
 cases n with
 | zero=>cases h
 | succ n=>
  have e:(P l (n+1)).choice k=if isW l k [Lt] then .ok (.mk 3 []) (k+1) else((P l n).simple k).then fun x k=>if isW l k [Ef] then((P l n).simple (k+1)).then fun y k=> .ok (.mk 2 [x,y]) k else((P l n).rest x k).then fun x k=> .ok (.mk 1 [x]) k:=rfl
  rw[e] at h;split at h
  ·cases h;exact .inl ⟨rfl,rfl⟩
  ·cases h1:(P l n).simple k with
   | bot=>rw[h1] at h;cases h
   | fail k=>rw[h1] at h;cases h
   | ok x k1=>
    rw[h1] at h;dsimp only[Res.then] at h;split at h
    ·cases h2:(P l n).simple (k1+1) with
     | bot=>rw[h2] at h;cases h
     | fail k=>rw[h2] at h;cases h
     | ok y C=>rw[h2] at h;cases h;exact .inr (.inl ⟨rfl,x,y,rfl⟩)
    ·cases h2:(P l n).rest x k1 with
     | bot=>rw[h2] at h;cases h
     | fail k=>rw[h2] at h;cases h
     | ok y C=>rw[h2] at h;cases h;exact .inr (.inr ⟨rfl,y,rfl⟩)
set_option maxHeartbeats 4000000 in
theorem Ci7 (hG:GX G) (hl:l.length<=800000) (n:Nat) (hc: ∀m≤n,RdC Tryz.prog G l 294 r fun k=>((P l m).choice k).mp dC) (bj:RdC Tryz.prog G l 58 r fun k=>((P l n).expr k).mp dE):RdC Tryz.prog G l 250 r fun k=>((P l (n+1)).assoc k).mp dA:=by
 intro H k hr hk hn;obtain⟨F,hF⟩: ∃F:Ch->Nat->Res As,∀c k,F c k=if c.kind=1/\isW l k [Gg]=false/\isW l k [By]=false then .ok (.mk [] (c.l.getD 0 ex0)) k else if c.kind=3 then must l By k fun k=>((P l n).expr k).then fun e k=> .ok (.mk [c] e) k else((P l n).choicesL [c] k).then fun cs k=>must l By k fun k=>((P l n).expr k).then fun e k=> .ok (.mk cs e) k:=⟨_,fun _ _=>rfl⟩
 have e:(P l (n+1)).assoc k=((P l n).choice k).then F:=by
  have:F=fun c k=>if c.kind=1/\isW l k [Gg]=false/\isW l k [By]=false then .ok (.mk [] (c.l.getD 0 ex0)) k else if c.kind=3 then must l By k fun k=>((P l n).expr k).then fun e k=> .ok (.mk [c] e) k else((P l n).choicesL [c] k).then fun cs k=>must l By k fun k=>((P l n).expr k).then fun e k=> .ok (.mk cs e) k:=funext fun c=>funext fun k=>hF c k
  rw[this];rfl
 dsimp only at hn⊢
 rw[e] at hn⊢
 refine Ab Tryz.func250 Tryz.call250 rfl (by kernel_rfl) ?_;simp(disch:=omega)only[go_sem];intro M ag;dsimp only at ag;obtain⟨Ha,a7⟩: ∃K,K=upd H M (some (.cells [.nilSlice, .int .u8 0, .int .u8 0, .int .i64 0, .str [], .nilSlice, .nilSlice, .int .i64 0, .int .i64 0, .int .i64 0] 44)):=⟨_,rfl⟩;rw[<-a7];have bx:Ha M=some (.cells [.nilSlice, .int .u8 0, .int .u8 0, .int .i64 0, .str [], .nilSlice, .nilSlice, .int .i64 0, .int .i64 0, .int .i64 0] 44):=by rw[a7];exact Aa _ _ _
 have n2:r≠M:=Af ag hr;have q2:=n2.symm;have ha:RAt r l k H Ha:=by rw[a7];exact(RAt.refl hr).new ag _
 simp(disch:=omega)only[go_sem];have L:=hc n (Nat.le_refl _) _ k ha.get hk;have bk:=(Kl (l:=l) n).choice k hk;dsimp only at L;cases hpr:(P l n).choice k with
 | bot=>rw[hpr] at hn;exact absurd rfl hn
 | fail J=>
  rw[hpr] at L;refine(L (Cf (by simp))).mono ?_;rintro e H4 ⟨rfl,rfl⟩;simp(disch:=omega)only[go_sem];exact RAt.finP (ha.set J) ⟨rfl,rfl⟩
 | ok c J=>
  rw[hpr] at L hn bk;refine(L (Cf (by simp))).mono ?_;rintro e H3 ⟨rfl,bl⟩;have bm:RAt r l J H H3:=by rw[bl];exact ha.set J
  dsimp only[Res.then,Adv] at hn bk⊢
  have hres:=hF c J;obtain⟨a8,bz⟩: ∃a8,a8=F c J:=⟨_,rfl⟩;rw[<-bz] at hn hres⊢
  have g3:H3 M=some (.cells [.nilSlice, .int .u8 0, .int .u8 0, .int .i64 0, .str [], .nilSlice, .nilSlice, .int .i64 0, .int .i64 0, .int .i64 0] 44):=by rw[bl];exact Aj bx q2
  have ao:=Gs c;have bn:=Dt8 c;simp(disch:=omega)only[go_sem,dC];intro r3 ax;dsimp only at ax;have bo:M≠r3:=Af ax g3;have b0:=bo.symm;have n3:r≠r3:=Af ax bm.get;have q3:=n3.symm;simp(disch:=omega)only[go_sem,ao,bn];obtain⟨O,ay⟩: ∃K,K=upd H3 r3 (some (.cells (dCh c) 47)):=⟨_,rfl⟩;rw[<-ay];have aq:RAt r l J H O:=by rw[ay];exact bm.new ax _
  have ap:O M=some (.cells [.nilSlice, .int .u8 0, .int .u8 0, .int .i64 0, .str [], .nilSlice, .nilSlice, .int .i64 0, .int .i64 0, .int .i64 0] 44):=by rw[ay];exact Aj g3 bo
  have ah:O r3=some (.cells (dCh c) 47):=by rw[ay];exact Aa _ _ _
  have gk:(dCh c)[0]? =some (.int .u8 c.kind):=by rw[Ay0];rfl
  refine(fun(tail: ∀S:DS,S.heap=O->S.env 0= .optr r 0->S.env 2= .optr M 0->S.env 3= .optr r3 0->S.env 27= .nilSlice-> ¬(c.kind=1/\isW l J [Gg]=false/\isW l J [By]=false)->(?T:DS->Prop) S)=> ?A) ?B
  case A=>
   by_cases c1:c.kind=1
   ·simp(disch:=omega)only[go_sem,ah,gk,c1];intro w1 ar;dsimp only at ar;simp(disch:=omega)only[go_sem];refine(is1 hG _ w1 Gg ar aq.get (by omega) (by omega)).mono ?_;rintro _ H5 ⟨rfl,au⟩;rw[au];by_cases b1:isW l J [Gg]=true
    ·simp(disch:=omega)only[go_sem,b1];have ai: ¬(c.kind=1/\isW l J [Gg]=false/\isW l J [By]=false):=fun h=>by rw[b1] at h;exact absurd h.2.1 (by decide)
     simp(disch:=omega)only[go_sem,ap,ah,ao];generalize hS:(DS.mk _ O:DS)=S;exact tail S (by rw[<-hS]) (by rw[<-hS];first | rfl | simp(disch:=omega)only[go_sem]) (by rw[<-hS];first | rfl | simp(disch:=omega)only[go_sem]) (by rw[<-hS];first | rfl | simp(disch:=omega)only[go_sem]) (by rw[<-hS];first | rfl | simp(disch:=omega)only[go_sem]) ai
    ·have bp:isW l J [Gg]=false:=by simpa using b1
     simp(disch:=omega)only[go_sem,bp];intro w2 bq;dsimp only at bq;simp(disch:=omega)only[go_sem];refine(is1 hG _ w2 By bq aq.get (by omega) (by omega)).mono ?_;rintro _ H6 ⟨rfl,av⟩;rw[av];by_cases b2:isW l J [By]=true
     ·simp(disch:=omega)only[go_sem,b2];have ai: ¬(c.kind=1/\isW l J [Gg]=false/\isW l J [By]=false):=fun h=>by rw[b2] at h;exact absurd h.2.2 (by decide)
      simp(disch:=omega)only[go_sem,ap,ah,ao];generalize hS:(DS.mk _ O:DS)=S;exact tail S (by rw[<-hS]) (by rw[<-hS];first | rfl | simp(disch:=omega)only[go_sem]) (by rw[<-hS];first | rfl | simp(disch:=omega)only[go_sem]) (by rw[<-hS];first | rfl | simp(disch:=omega)only[go_sem]) (by rw[<-hS];first | rfl | simp(disch:=omega)only[go_sem]) ai
     ·have br:isW l J [By]=false:=by simpa using b2
      rw[if_pos ⟨c1,bp,br⟩] at hres;obtain⟨x,hx⟩: ∃x,c.l= [x]:=by
       rcases Aq9 hpr with h | h | h
       ·rw[h.1] at c1;cases c1
       ·rw[h.1] at c1;cases c1
       ·exact h.2
      have gl:(dCh c)[1]? =some (.vslice (dEx x) 1):=by rw[Fa0,hx,List.flatMap_singleton];rfl
      rw[hx] at hres;have b3:=Ad x;have b4:=Bo x;have b6:List.take 9 (List.drop 0 (dEx x))=dEx x:=List.take_of_length_le (by rw[jJ];omega);simp(disch:=omega)only[go_sem,br,ah,gl,b3,b6,jJ,ap,b4];rw[hres];have a9:=fun z=>aq.own ag q2 z;exact Mh.fin (a9 _) (Mh.agg (Mh.assoc (c:= []) (a9 _) (.ch0 (a9 _)))) ⟨rfl,rfl⟩
   ·simp(disch:=omega)only[go_sem,ah,gk,c1];have ai: ¬(c.kind=1/\isW l J [Gg]=false/\isW l J [By]=false):=fun h=>c1 h.1;simp(disch:=omega)only[go_sem,ap,ah,ao];generalize hS:(DS.mk _ O:DS)=S;exact tail S (by rw[<-hS]) (by rw[<-hS];first | rfl | simp(disch:=omega)only[go_sem]) (by rw[<-hS];first | rfl | simp(disch:=omega)only[go_sem]) (by rw[<-hS];first | rfl | simp(disch:=omega)only[go_sem]) (by rw[<-hS];first | rfl | simp(disch:=omega)only[go_sem]) ai
  case B=>
   rintro⟨E,X⟩ hX z0 z2 z3 z7 ai;obtain rfl:O=X:=hX.symm;dsimp only at z0 z2 z3 z7;have ci:=Aq9 hpr;obtain⟨n',rfl⟩: ∃n',n=n'+1:=by
    cases n with
    | zero=>cases hpr
    | succ n'=>exact⟨n',rfl⟩
   obtain⟨L',b7,hL,C⟩: ∃L':Nat->List Ch->Nat->Res (List Ch),(c.kind≠3-> ∀x k,L' 0 x k= .bot)/\(∀m x k,L' (m+1) x k=if c.kind≠3/\isW l k [Gg]=true then((P l m).choice (k+1)).then fun a k=>L' m (x++ [a]) k else .ok x k)/\a8=(L' (n'+1) [c] J).then fun cs k=>must l By k fun k=>((P l (n'+1)).expr k).then fun e k=> .ok (.mk cs e) k:=by
    rw[hres];by_cases c3:c.kind=3
    ·refine⟨fun _ x k=> .ok x k,fun h=>absurd c3 h,fun m x k=>by rw[if_neg (fun h=>h.1 c3)], ?_⟩;rw[if_neg (fun h=>by rw[c3] at h;exact absurd h.1 (by decide)),if_pos c3];rfl
    ·refine⟨fun m=>(P l m).choicesL,fun _ _ _=>rfl,fun m x k=> ?_, ?_⟩
     ·have e:(P l (m+1)).choicesL x k=if isW l k [Gg] then((P l m).choice (k+1)).then fun c k=>(P l m).choicesL (x++ [c]) k else .ok x k:=rfl
      show(P l (m+1)).choicesL x k=_;rw[e];by_cases hb:isW l k [Gg]=true
      ·rw[if_pos hb,if_pos ⟨c3,hb⟩]
      ·rw[if_neg hb,if_neg (fun h=>hb h.2)]
     ·rw[if_neg ai,if_neg c3]
   obtain⟨D,ae⟩: ∃D:DVal->Nat->Ac,∀v k,D v k=upd (upd O M (some (.cells [v, .int .u8 0, .int .u8 0, .int .i64 0, .str [], .nilSlice, .nilSlice, .int .i64 0, .int .i64 0, .int .i64 0] 44))) r (some (rdO l k)):=⟨_,fun _ _=>rfl⟩;have U: ∀v k,D v k r=some (rdO l k):=fun v k=>by rw[ae];exact Aa _ _ _
   have af: ∀v k,D v k M=some (.cells [v, .int .u8 0, .int .u8 0, .int .i64 0, .str [], .nilSlice, .nilSlice, .int .i64 0, .int .i64 0, .int .i64 0] 44):=fun v k=>by rw[ae,Am _ _ _ _ q2];exact Aa _ _ _
   have b8: ∀v k,D v k r3=some (.cells (dCh c) 47):=fun v k=>by rw[ae,Am _ _ _ _ q3,Am _ _ _ _ b0];exact ah
   have ab: ∀v k k',upd (D v k) r (some (rdO l k'))=D v k':=fun v k k'=>by rw[ae,ae,Gr]
   have b9: ∀v v' k,upd (D v k) M (some (.cells [v', .int .u8 0, .int .u8 0, .int .i64 0, .str [], .nilSlice, .nilSlice, .int .i64 0, .int .i64 0, .int .i64 0] 44))=D v' k:=fun v v' k=>by rw[ae,ae,Aa7 q2,Gr]
   have aj: ∀v k,RAt r l k H (D v k):=fun v k=>by rw[ae];exact(aq.own ag q2 _).set k
   rw[show List.drop 2 (Cd 1 [DVal.int .u8 0,DVal.nilSlice])= [] from rfl];simp(disch:=omega)only[go_sem,z0,z2,z3,z7,ao,bn];intro bs bt;dsimp only at bt;simp(disch:=omega)only[go_sem,z0,z2,z3,z7];intro a0 ba;dsimp only at ba;obtain⟨H6,av⟩: ∃K,K=upd (upd O bs (some (.cells (dCh c) 47))) a0 (some (.cells (dCh c) 47)):=⟨_,rfl⟩;rw[<-av];have bu:Sub O (upd O bs (some (.cells (dCh c) 47))):=(Sub.refl O).new bt _;have a1:Jw O 47 2 1 (dCh c) (.oslice 2 a0 0 1 1) H6:= .inr ⟨a0,bu.lo ba,ao,rfl,by rw[av];exact Aa _ _ _,by rw[av];exact bu.new ba _⟩;obtain⟨v1,ca⟩: ∃v1,v1=DVal.oslice 2 a0 0 1 1:=⟨_,rfl⟩;rw[<-ca] at a1⊢
   have bb:=a1.keep ap;obtain⟨cb,cc⟩:=a1.cell1;simp(disch:=omega)only[go_sem,z0,z2,z3,z7,bb,cb,cc];have cd:Mj (D v1 J) [c] v1 (upd H6 M (some (.cells [v1, .int .u8 0, .int .u8 0, .int .i64 0, .str [], .nilSlice, .nilSlice, .int .i64 0, .int .i64 0, .int .i64 0] 44))):=by
    have:=a1.at ap (some (.cells [v1, .int .u8 0, .int .u8 0, .int .i64 0, .str [], .nilSlice, .nilSlice, .int .i64 0, .int .i64 0, .int .i64 0] 44));rw[show D v1 J=upd O M (some (.cells [v1, .int .u8 0, .int .u8 0, .int .i64 0, .str [], .nilSlice, .nilSlice, .int .i64 0, .int .i64 0, .int .i64 0] 44)) by rw[ae];exact Ec (Aj aq.get n2)];unfold Mj;rw[List.flatMap_singleton];exact this
   obtain⟨I,hI⟩: ∃I:Nat×List Ch×Nat->(Nat->DVal)->Ac->Prop,∀s env heap,I s env heap↔(env 0= .optr r 0/\env 2= .optr M 0/\env 3= .optr r3 0/\s.2.2<=l.length/\s.2.1.length<=s.2.2/\s.1<=n'/\L' (s.1+1) s.2.1 s.2.2=L' (n'+1) [c] J/\ ∃v,Mj (D v s.2.2) s.2.1 v heap):=⟨_,fun _ _ _=>Iff.rfl⟩;refine Dr7.run I (fun s=>s.1) (n',[c],J) ((hI _ _ _).2 ?_) ?_
   ·simp(disch:=omega)only[go_sem,z0,z2,z3,z7];(repeat' apply And.intro)<;>(try first | rfl | assumption | omega);exact⟨v1,cd⟩
   ·rintro⟨m,xs,k1⟩ env heap ce;obtain⟨V,W,Y,a2,cf,hm,aa,v,hv⟩:=(hI _ _ _).1 ce;dsimp only at a2 cf hm aa hv;rw[hL] at aa;have gr:heap r=some (rdO l k1):=Jw.keep hv (U _ _);have g2:=Jw.keep hv (af _ _);have g3:=Jw.keep hv (b8 _ _);by_cases c3:c.kind=3
    ·rw[if_neg (fun h=>h.1 c3)] at aa;simp(disch:=omega)only[go_sem,V,W,Y,g3,gk,c3];refine(Td hG heap By gr (by omega) (by omega)).mono ?_;intro e1 H8 hq;rw[<-aa,Nx] at C;unfold must at hq C;by_cases b5:isW l k1 [By]=true
     ·rw[if_pos b5] at hq C;obtain⟨rfl,ak⟩:=hq;dsimp only at C;have aw:=Av b5 a2;rw[jQ] at aw;have ac:Mj (D v (k1+1)) xs v H8:=by rw[ak,<-ab v k1];exact Jw.at hv (U _ _) _
      simp(disch:=omega)only[go_sem,V,W,Y];have L:=bj _ (k1+1) (Jw.keep ac (U _ _)) aw;dsimp only at L;cases hpe:(P l (n'+1)).expr (k1+1) with
      | bot=>rw[hpe,Rr] at C;rw[C] at hn;exact absurd rfl hn
      | fail Z=>
       rw[hpe] at L;rw[hpe,Ou] at C;refine(L (Cf (by simp))).mono ?_;rintro e H9 ⟨rfl,al⟩;have ad:Mj (D v Z) xs v H9:=by rw[al,<-ab v (k1+1)];exact Jw.at ac (U _ _) _
       simp(disch:=omega)only[go_sem];rw[C];exact RAt.finP ((aj v Z).more (Jw.sub ad)) ⟨rfl,rfl⟩
      | ok y Z=>
       rw[hpe] at L;rw[hpe,Nx] at C;refine(L (Cf (by simp))).mono ?_;rintro e H9 ⟨rfl,al⟩;have ad:Mj (D v Z) xs v H9:=by rw[al,<-ab v (k1+1)];exact Jw.at ac (U _ _) _
       have bc:=Jw.keep ad (af v Z);obtain⟨j1,j2⟩:=Jw.cell1 ad;have bd:=Ad y;have be:=Bo y;simp(disch:=omega)only[go_sem,V,W,Y,dE,bc,bd,be,j1,j2];rw[C];have am:=fun z=>Jw.less (Jw.at ad (af v Z) z) ((aj v Z).own ag q2 z);refine Mh.fin (Jw.sub (am _)) (Mh.agg (Mh.assoc (c:=xs) (Jw.sub (am _)) (Mh.own (am _)))) ⟨rfl,rfl⟩
     ·rw[if_neg b5] at hq C;obtain⟨rfl,ak⟩:=hq;have ac:Mj (D v k1) xs v H8:=by rw[ak,<-ab v k1];exact Jw.at hv (U _ _) _
      simp(disch:=omega)only[go_sem];rw[C];exact RAt.finP ((aj v k1).more (Jw.sub ac)) ⟨rfl,rfl⟩
    ·simp(disch:=omega)only[go_sem,V,W,Y,g3,gk,c3];intro w1 ar;dsimp only at ar;simp(disch:=omega)only[go_sem,V,W,Y,g3,gk,c3];refine(Ay9 hG _ w1 Gg ar gr (by omega) (by omega)).mono ?_;rintro _ H4 ⟨rfl,a3⟩;by_cases b:isW l k1 [Gg]=true
     ·rw[if_pos ⟨c3,b⟩] at aa;rw[if_pos b] at a3;have bf:=Av b a2;rw[jQ] at bf;have a4:Mj (D v (k1+1)) xs v H4:=by rw[a3,<-ab v k1];exact Jw.at hv (U _ _) _
      have bg:=Jw.keep a4 (af _ _);simp(disch:=omega)only[go_sem,V,W,Y,b];refine Ak (by kernel_rfl) pL14 (by kernel_rfl) ?_;simp(disch:=omega)only[go_sem,V,W,Y,bg];have hp2:=hc m (by omega) _ (k1+1) (Jw.keep a4 (U _ _)) bf;have bv:=(Kl (l:=l) m).choice (k1+1) bf;dsimp only at hp2;cases hpr2:(P l m).choice (k1+1) with
      | bot=>
       rw[hpr2,Rr] at aa;rw[<-aa,Rr] at C;rw[C] at hn;exact absurd rfl hn
      | fail k5=>
       rw[hpr2] at hp2;rw[hpr2,Ou] at aa;rw[<-aa,Ou] at C;refine(hp2 (Cf (by simp))).mono ?_;rintro e H5 ⟨rfl,au⟩;have a5:Mj (D v k5) xs v H5:=by rw[au,<-ab v (k1+1)];exact Jw.at a4 (U _ _) _
       simp(disch:=omega)only[go_sem];rw[C];exact RAt.finP ((aj v k5).more (Jw.sub a5)) ⟨rfl,rfl⟩
      | ok a k5=>
       rw[hpr2] at hp2 bv;rw[hpr2,Nx] at aa;dsimp only[Adv] at bv;refine(hp2 (Cf (by simp))).mono ?_;rintro e H5 ⟨rfl,au⟩;have a5:Mj (D v k5) xs v H5:=by rw[au,<-ab v (k1+1)];exact Jw.at a4 (U _ _) _
       have a6:=Jw.keep a5 (af _ _);have bw:=Gs a;simp(disch:=omega)only[go_sem,V,W,Y,bg,a6,dC];rw[Bo4 bw];simp(disch:=omega)only[go_sem,V,W,Y,bg,a6];intro r8 bh;dsimp only at bh;have n8:M≠r8:=Af bh a6;simp(disch:=omega)only[go_sem,V,W,Y,a6,n8];refine Jw.append (m:=1) (Jw.new a5 bh _) (by rw[bw]) (by omega) fun v2 H6 bi=> ?_;have bb:=Jw.keep bi (af _ _);obtain⟨j1,j2⟩:=Jw.cell1 bi;simp(disch:=omega)only[go_sem,V,W,Y,bb,j1,j2];obtain⟨m',rfl⟩: ∃m',m=m'+1:=by
        cases m with
        | zero=>rw[b7 c3] at aa;rw[<-aa,Rr] at C;rw[C] at hn;exact absurd rfl hn
        | succ m'=>exact⟨m',rfl⟩
       have cj:(xs++ [a]).length<=k5:=by rw[jC,jQ];omega
       have cg:Mj (D v2 k5) (xs++ [a]) v2 (upd H6 M (some (.cells [v2, .int .u8 0, .int .u8 0, .int .i64 0, .str [], .nilSlice, .nilSlice, .int .i64 0, .int .i64 0, .int .i64 0] 44))):=by
        have:=Jw.at bi (af _ _) (some (.cells [v2, .int .u8 0, .int .u8 0, .int .i64 0, .str [], .nilSlice, .nilSlice, .int .i64 0, .int .i64 0, .int .i64 0] 44));rw[b9] at this;unfold Mj;rw[jC,jQ,List.flatMap_append,List.flatMap_singleton];exact this
       refine⟨(m',xs++ [a],k5),_,Rz.refl _,(hI _ _ _).2 ?_,by dsimp only;omega⟩;simp(disch:=omega)only[go_sem,V,W,Y];(repeat' apply And.intro)<;>(try first | rfl | assumption | omega);exact⟨v2,cg⟩
     ·have b':isW l k1 [Gg]=false:=by simpa using b
      rw[if_neg (fun h=>b h.2)] at aa;rw[if_neg b,Ec gr] at a3;rw[a3];simp(disch:=omega)only[go_sem,V,W,Y,b'];refine(Td hG heap By gr (by omega) (by omega)).mono ?_;intro e1 H8 hq;rw[<-aa,Nx] at C;unfold must at hq C;by_cases b5:isW l k1 [By]=true
      ·rw[if_pos b5] at hq C;obtain⟨rfl,ak⟩:=hq;dsimp only at C;have aw:=Av b5 a2;rw[jQ] at aw;have ac:Mj (D v (k1+1)) xs v H8:=by rw[ak,<-ab v k1];exact Jw.at hv (U _ _) _
       simp(disch:=omega)only[go_sem,V,W,Y];have L:=bj _ (k1+1) (Jw.keep ac (U _ _)) aw;dsimp only at L;cases hpe:(P l (n'+1)).expr (k1+1) with
       | bot=>rw[hpe,Rr] at C;rw[C] at hn;exact absurd rfl hn
       | fail Z=>
        rw[hpe] at L;rw[hpe,Ou] at C;refine(L (Cf (by simp))).mono ?_;rintro e H9 ⟨rfl,al⟩;have ad:Mj (D v Z) xs v H9:=by rw[al,<-ab v (k1+1)];exact Jw.at ac (U _ _) _
        simp(disch:=omega)only[go_sem];rw[C];exact RAt.finP ((aj v Z).more (Jw.sub ad)) ⟨rfl,rfl⟩
       | ok y Z=>
        rw[hpe] at L;rw[hpe,Nx] at C;refine(L (Cf (by simp))).mono ?_;rintro e H9 ⟨rfl,al⟩;have ad:Mj (D v Z) xs v H9:=by rw[al,<-ab v (k1+1)];exact Jw.at ac (U _ _) _
        have bc:=Jw.keep ad (af v Z);obtain⟨j1,j2⟩:=Jw.cell1 ad;have bd:=Ad y;have be:=Bo y;simp(disch:=omega)only[go_sem,V,W,Y,dE,bc,bd,be,j1,j2];rw[C];have am:=fun z=>Jw.less (Jw.at ad (af v Z) z) ((aj v Z).own ag q2 z);refine Mh.fin (Jw.sub (am _)) (Mh.agg (Mh.assoc (c:=xs) (Jw.sub (am _)) (Mh.own (am _)))) ⟨rfl,rfl⟩
      ·rw[if_neg b5] at hq C;obtain⟨rfl,ak⟩:=hq;have ac:Mj (D v k1) xs v H8:=by rw[ak,<-ab v k1];exact Jw.at hv (U _ _) _
       simp(disch:=omega)only[go_sem];rw[C];exact RAt.finP ((aj v k1).more (Jw.sub ac)) ⟨rfl,rfl⟩
end
def ifR (l:List Tok) (p:Nat->Res Ex) (line:Int):List (List UInt8)->List Ex->Nat->Res Ex
 | [],xs,k=> .ok (.mk 10 0 0 [] xs [] line 0 0) k
 | w::ws,xs,k=>(p k).then fun a k=>must l w k fun k=>ifR l p line ws (xs++ [a]) k
section
variable {G:Nat->DVal} {H0 H H':Ac} {r k:Nat} {l:List Tok}
def Bd2 (H:Ac) (l:List Ex) (v:DVal) (H':Ac):Prop:=Jw H 27 9 l.length (l.flatMap dEx) v H'
theorem Bo5 {x:List DVal} (hx:x.length=9):
  (if 9<=(Cd 1 [DVal.int .u8 0,DVal.int .u8 0,DVal.int .i64 0,DVal.str [],DVal.nilSlice,DVal.nilSlice,DVal.int .i64 0,DVal.int .i64 0,DVal.int .i64 0]).length then some (x++List.drop 9 (Cd 1 [DVal.int .u8 0,DVal.int .u8 0,DVal.int .i64 0,DVal.str [],DVal.nilSlice,DVal.nilSlice,DVal.int .i64 0,DVal.int .i64 0,DVal.int .i64 0])) else none)=some x:=by
 have e: ∀u:List DVal,Cd 1 u=u:=fun u=>by simp [Cd]
 rw[e,if_pos (by simp),List.drop_eq_nil_of_le (by simp),jH]
set_option maxHeartbeats 4000000 in
theorem Dk7 (hG:GX G) (hl:l.length<=800000) (n:Nat) (b2:RdC Tryz.prog G l 58 r fun k=>((P l n).expr k).mp dE) (hc: ∀m≤n,RdC Tryz.prog G l 250 r fun k=>((P l m).assoc k).mp dA):RdC Tryz.prog G l 173 r fun k=>((P l (n+1)).paren k).mp dE:=by
 intro H k hr hk hn
 obtain⟨li,bn⟩: ∃li,li=(tk l k).line:=⟨_,rfl⟩
 have e:(P l (n+1)).paren k=must l Bf k fun k1=>if isW l k1 [wIf] then ifR l (P l n).expr (tk l (k1-1)).line [Pk,Qc,Bv] [] (k1+1) else(((P l n).assoc k1).then fun a k=>(P l n).assocsL [a] k).then fun xs k=>must l Bv k fun k=> .ok (Bm8 (tk l (k1-1)).line xs) k:=by
  have b3: ∀(a:Res As) (f:As->Nat->Res (List As)) (g:List As->Nat->Res Ex),(a.then f).then g=a.then fun x k=>(f x k).then g:=fun a f g=>by cases a<;>rfl
  simp only[b3];rfl
 dsimp only at hn⊢
 rw[e] at hn⊢
 obtain⟨a8,hres⟩: ∃a8,a8=must l Bf k fun k1=>if isW l k1 [wIf] then ifR l (P l n).expr (tk l (k1-1)).line [Pk,Qc,Bv] [] (k1+1) else(((P l n).assoc k1).then fun a k=>(P l n).assocsL [a] k).then fun xs k=>must l Bv k fun k=> .ok (Bm8 (tk l (k1-1)).line xs) k:=⟨_,rfl⟩
 rw[<-hres] at hn⊢
 refine Ab Tryz.func173 Tryz.call173 rfl (by kernel_rfl) ?_
 simp(disch:=omega)only[go_sem]
 intro E aj;dsimp only at aj
 obtain⟨Ha,a9⟩: ∃K,K=upd H E (some (.cells [.int .u8 0, .int .u8 0, .int .i64 0, .str [], .nilSlice, .nilSlice, .int .i64 0, .int .i64 0, .int .i64 0] 27)):=⟨_,rfl⟩
 rw[<-a9]
 have bo:Ha E=some (.cells [.int .u8 0, .int .u8 0, .int .i64 0, .str [], .nilSlice, .nilSlice, .int .i64 0, .int .i64 0, .int .i64 0] 27):=by rw[a9];exact Aa _ _ _
 have n2:r≠E:=Af aj hr
 have q2:=n2.symm
 have ha:RAt r l k H Ha:=by rw[a9];exact(RAt.refl hr).new aj _
 simp(disch:=omega)only[go_sem]
 refine(Ay7 G _ ha.get (by omega) (by omega)).mono ?_
 rintro _ H1 ⟨rfl,b4⟩
 rw[b4,<-bn]
 simp(disch:=omega)only[go_sem]
 intro C ak;dsimp only at ak
 simp(disch:=omega)only[go_sem]
 obtain⟨Hb,aw⟩: ∃K,K=upd Ha C (some (.cells [.int .u8 9, .int .u8 0, .int .i64 0, .str [], .nilSlice, .nilSlice, .int .i64 li, .int .i64 0, .int .i64 0] 27)):=⟨_,rfl⟩
 rw[<-aw]
 have b6:Hb C=some (.cells [.int .u8 9, .int .u8 0, .int .i64 0, .str [], .nilSlice, .nilSlice, .int .i64 li, .int .i64 0, .int .i64 0] 27):=by rw[aw];exact Aa _ _ _
 have al:E≠C:=Af ak bo
 have c5:=al.symm
 have n3:r≠C:=Af ak ha.get
 have V:=n3.symm
 have ba:H C=none:=ha.lo ak
 have bb:RAt r l k H Hb:=by rw[aw];exact ha.new ak _
 have b7:Hb E=some (.cells [.int .u8 0, .int .u8 0, .int .i64 0, .str [], .nilSlice, .nilSlice, .int .i64 0, .int .i64 0, .int .i64 0] 27):=by rw[aw];exact Aj bo al
 refine(Td hG Hb Bf bb.get (by omega) (by omega)).mono ?_
 intro e1 H2 hq
 unfold must at hq hres
 by_cases b0:isW l k [Bf]=true
 ·rw[if_pos b0] at hq hres
  obtain⟨rfl,ae⟩:=hq
  dsimp only at hres
  rw[Nat.add_sub_cancel,<-bn] at hres
  have am:=Av b0 hk
  rw[jQ] at am
  obtain⟨k1,b8⟩: ∃k1,k1=k+1:=⟨_,rfl⟩
  rw[<-b8] at hres ae am
  have af:RAt r l k1 H H2:=by rw[ae];exact bb.set k1
  have bp:H2 E=some (.cells [.int .u8 0, .int .u8 0, .int .i64 0, .str [], .nilSlice, .nilSlice, .int .i64 0, .int .i64 0, .int .i64 0] 27):=by rw[ae];exact Aj b7 q2
  have bq:H2 C=some (.cells [.int .u8 9, .int .u8 0, .int .i64 0, .str [], .nilSlice, .nilSlice, .int .i64 li, .int .i64 0, .int .i64 0] 27):=by rw[ae];exact Aj b6 V
  simp(disch:=omega)only[go_sem]
  intro w1 br;dsimp only at br
  simp(disch:=omega)only[go_sem]
  refine(Ay9 hG _ w1 wIf br af.get (by omega) (by omega)).mono ?_
  rintro _ H4 ⟨rfl,ag⟩
  by_cases b1:isW l k1 [wIf]=true
  ·rw[if_pos b1] at ag hres
   have b9:=Av b1 am
   rw[jQ] at b9
   have ca:RAt r l (k1+1) H H4:=by rw[ag];exact af.set _
   have cb:H4 E=some (.cells [.int .u8 0, .int .u8 0, .int .i64 0, .str [], .nilSlice, .nilSlice, .int .i64 0, .int .i64 0, .int .i64 0] 27):=by rw[ag];exact Aj bp q2
   have cc:H4 C=some (.cells [.int .u8 9, .int .u8 0, .int .i64 0, .str [], .nilSlice, .nilSlice, .int .i64 li, .int .i64 0, .int .i64 0] 27):=by rw[ag];exact Aj bq V
   simp(disch:=omega)only[go_sem,b1,cc]
   obtain⟨W,O⟩: ∃K,K=upd H4 C (some (.cells [.int .u8 10, .int .u8 0, .int .i64 0, .str [], .nilSlice, .nilSlice, .int .i64 li, .int .i64 0, .int .i64 0] 27)):=⟨_,rfl⟩
   rw[<-O]
   have ax:RAt r l (k1+1) H W:=by rw[O];exact ca.own ba V _
   have ay:W C=some (.cells [.int .u8 10, .int .u8 0, .int .i64 0, .str [], .nilSlice, .nilSlice, .int .i64 li, .int .i64 0, .int .i64 0] 27):=by rw[O];exact Aa _ _ _
   have a0:W E=some (.cells [.int .u8 0, .int .u8 0, .int .i64 0, .str [], .nilSlice, .nilSlice, .int .i64 0, .int .i64 0, .int .i64 0] 27):=by rw[O];exact Aj cb al
   intro ad ao;dsimp only at ao
   obtain⟨Hk,ap⟩: ∃K,K=upd W ad (some (.cells [.str [116,104,101,110], .str [101,108,115,101], .str [41]] 9)):=⟨_,rfl⟩
   rw[<-ap]
   have cd:Hk ad=some (.cells [.str [116,104,101,110], .str [101,108,115,101], .str [41]] 9):=by rw[ap];exact Aa _ _ _
   have bs:C≠ad:=Af ao ay
   have ce:E≠ad:=Af ao a0
   have cf:r≠ad:=Af ao ax.get
   have bt:RAt r l (k1+1) H Hk:=by rw[ap];exact ax.new ao _
   have cg:Hk C=some (.cells [.int .u8 10, .int .u8 0, .int .i64 0, .str [], .nilSlice, .nilSlice, .int .i64 li, .int .i64 0, .int .i64 0] 27):=by rw[ap];exact Aj ay bs
   have ci:Hk E=some (.cells [.int .u8 0, .int .u8 0, .int .i64 0, .str [], .nilSlice, .nilSlice, .int .i64 0, .int .i64 0, .int .i64 0] 27):=by rw[ap];exact Aj a0 ce
   obtain⟨D,S⟩: ∃D:DVal->Nat->Ac,∀v k,D v k=upd (upd Hk C (some (.cells [.int .u8 10, .int .u8 0, .int .i64 0, .str [],v, .nilSlice, .int .i64 li, .int .i64 0, .int .i64 0] 27))) r (some (rdO l k)):=⟨_,fun _ _=>rfl⟩
   have ah: ∀v k,D v k r=some (rdO l k):=fun v k=>by rw[S];exact Aa _ _ _
   have aq: ∀v k,D v k C=some (.cells [.int .u8 10, .int .u8 0, .int .i64 0, .str [],v, .nilSlice, .int .i64 li, .int .i64 0, .int .i64 0] 27):=fun v k=>by rw[S,Am _ _ _ _ V];exact Aa _ _ _
   have bu: ∀v k,D v k E=some (.cells [.int .u8 0, .int .u8 0, .int .i64 0, .str [], .nilSlice, .nilSlice, .int .i64 0, .int .i64 0, .int .i64 0] 27):=fun v k=>by rw[S,Am _ _ _ _ q2,Am _ _ _ _ al];exact ci
   have cj: ∀v k,D v k ad=some (.cells [.str [116,104,101,110], .str [101,108,115,101], .str [41]] 9):=fun v k=>by rw[S,Am _ _ _ _ cf.symm,Am _ _ _ _ bs.symm];exact cd
   have a1: ∀v k k',upd (D v k) r (some (rdO l k'))=D v k':=fun v k k'=>by rw[S,S,Gr]
   have ck: ∀v v' k,upd (D v k) C (some (.cells [.int .u8 10, .int .u8 0, .int .i64 0, .str [],v', .nilSlice, .int .i64 li, .int .i64 0, .int .i64 0] 27))=D v' k:=fun v v' k=>by rw[S,S,Aa7 V,Gr]
   have bc: ∀v k,RAt r l k H (D v k):=fun v k=>by rw[S];exact(bt.own ba V _).set k
   have cl:Bd2 (D .nilSlice (k1+1)) [] .nilSlice Hk:=by
    rw[S,Ec cg,Ec bt.get];exact Jw.nil _ _ (Sub.refl _)
   simp(disch:=omega)only[go_sem]
   obtain⟨I,hI⟩: ∃I:Nat×List Ex×Nat->(Nat->DVal)->Ac->Prop,∀s env heap,I s env heap↔(env 0= .optr r 0/\env 2= .optr E 0/\env 3= .optr C 0/\env 15= .oslice 1 ad 0 3 3/\env 16=dI 3/\env 17=dI s.1/\s.1<=3/\s.2.1.length=s.1/\s.2.2<=l.length/\a8=ifR l (P l n).expr li ([Pk,Qc,Bv].drop s.1) s.2.1 s.2.2/\ ∃v,Bd2 (D v s.2.2) s.2.1 v heap):=⟨_,fun _ _ _=>Iff.rfl⟩
   refine Dr7.run I (fun s=>3-s.1) (0,[],k1+1) ((hI _ _ _).2 ?_) ?_
   ·simp(disch:=omega)only[go_sem]
    (repeat' apply And.intro)<;>(try first | rfl | assumption | omega)
    exact⟨_,cl⟩
   ·rintro⟨j,xs,k2⟩ env heap cm
    obtain⟨X,Y,Z,aa,ab,U,hj,cn,bd,J,v,hv⟩:=(hI _ _ _).1 cm
    dsimp only at U hj cn bd J hv
    by_cases c:j<3
    ·have c':(j:Int)<3:=by omega
     obtain⟨w,hw,co⟩: ∃w,([DVal.str [116,104,101,110], .str [101,108,115,101], .str [41]])[j]? =some (.str w)/\ [Pk,Qc,Bv].drop j=w:: [Pk,Qc,Bv].drop (j+1):=by
      have:j=0\/j=1\/j=2:=by omega
      rcases this with rfl | rfl | rfl<;>exact⟨_,rfl,rfl⟩
     rw[co,ifR] at J
     have cp:=Jw.keep hv (cj _ _)
     have g3:=Jw.keep hv (aq _ _)
     simp(disch:=omega)only[go_sem,X,Y,Z,aa,ab,U,c',cp,hw,jD]
     refine Ak (by kernel_rfl) pL14 (by kernel_rfl) ?_
     simp(disch:=omega)only[go_sem,X,Y,Z,aa,ab,U,g3]
     have ar:=b2 _ k2 (Jw.keep hv (ah _ _)) bd
     have be:=(Kl (l:=l) n).expr k2 bd
     dsimp only at ar
     cases hpe:(P l n).expr k2 with
     | bot=>rw[hpe,Rr] at J;rw[J] at hn;exact absurd rfl hn
     | fail M=>
      rw[hpe] at ar
      rw[hpe,Ou] at J
      refine(ar (Cf (by simp))).mono ?_
      rintro e H9 ⟨rfl,bf⟩
      have a2:Bd2 (D v M) xs v H9:=by rw[bf,<-a1 v k2];exact Jw.at hv (ah _ _) _
      simp(disch:=omega)only[go_sem]
      rw[J]
      exact RAt.finP ((bc v M).more (Jw.sub a2)) ⟨rfl,rfl⟩
     | ok y M=>
      rw[hpe] at ar be
      rw[hpe,Nx] at J
      dsimp only[Adv] at be
      refine(ar (Cf (by simp))).mono ?_
      rintro e H9 ⟨rfl,bf⟩
      have a2:Bd2 (D v M) xs v H9:=by rw[bf,<-a1 v k2];exact Jw.at hv (ah _ _) _
      have a3:=Jw.keep a2 (aq _ _)
      have bv:=Ad y
      simp(disch:=omega)only[go_sem,X,Y,Z,aa,ab,U,g3,a3,dE]
      rw[Bo5 bv]
      simp(disch:=omega)only[go_sem,X,Y,Z,aa,ab,U,g3,a3]
      intro r8 bg;dsimp only at bg
      have n8:C≠r8:=Af bg a3
      simp(disch:=omega)only[go_sem,X,Y,Z,aa,ab,U,a3,n8]
      refine Jw.append (m:=1) (Jw.new a2 bg _) (by rw[bv]) (by omega) fun L bw bh=> ?_
      have cq:=Jw.keep bh (aq _ _)
      obtain⟨j1,j2⟩:=Jw.cell1 bh
      simp(disch:=omega)only[go_sem,X,Y,Z,aa,ab,U,cq,j1,j2]
      have a4:Bd2 (D L M) (xs++ [y]) L (upd bw C (some (.cells [.int .u8 10, .int .u8 0, .int .i64 0, .str [],L, .nilSlice, .int .i64 li, .int .i64 0, .int .i64 0] 27))):=by
       have:=Jw.at bh (aq _ _) (some (.cells [.int .u8 10, .int .u8 0, .int .i64 0, .str [],L, .nilSlice, .int .i64 li, .int .i64 0, .int .i64 0] 27))
       rw[ck] at this
       unfold Bd2
       rw[jC,jQ,List.flatMap_append,List.flatMap_singleton]
       exact this
      obtain⟨cr,ct⟩: ∃K,K=upd bw C (some (.cells [.int .u8 10, .int .u8 0, .int .i64 0, .str [],L, .nilSlice, .int .i64 li, .int .i64 0, .int .i64 0] 27)):=⟨_,rfl⟩
      rw[<-ct] at a4⊢
      refine(Td hG cr w (Jw.keep a4 (ah _ _)) (by omega) (by omega)).mono ?_
      intro e1 bx hq
      unfold must at hq J
      by_cases b5:isW l M [w]=true
      ·rw[if_pos b5] at hq J
       obtain⟨rfl,bi⟩:=hq
       dsimp only at J
       have cu:=Av b5 be.2
       rw[jQ] at cu
       have bj:Bd2 (D L (M+1)) (xs++ [y]) L bx:=by rw[bi,<-a1 L M];exact Jw.at a4 (ah _ _) _
       have cv:IntKind.i64.wrap ((j:Int)+1)=((j+1:Nat):Int):=by rw[IntKind.wrap_i64];omega
       simp(disch:=omega)only[go_sem,X,Y,Z,aa,ab,U]
       refine⟨(j+1,xs++ [y],M+1),_,Rz.refl _,(hI _ _ _).2 ?_,by dsimp only;omega⟩
       simp(disch:=omega)only[go_sem,X,Y,Z,aa,ab,U,cv]
       (repeat' apply And.intro)<;>(try first | rfl | assumption | omega)
       ·rw[jC,jQ];omega
       ·exact⟨L,bj⟩
      ·rw[if_neg b5] at hq J
       obtain⟨rfl,bi⟩:=hq
       have bj:Bd2 (D L M) (xs++ [y]) L bx:=by rw[bi,<-a1 L M];exact Jw.at a4 (ah _ _) _
       simp(disch:=omega)only[go_sem]
       rw[J]
       exact RAt.finP ((bc L M).more (Jw.sub bj)) ⟨rfl,rfl⟩
    ·have cw:j=3:=by omega
     subst cw
     have c': ¬((3:Nat):Int)<3:=by omega
     rw[show [Pk,Qc,Bv].drop 3= [] from rfl,ifR] at J
     have g3:=Jw.keep hv (aq _ _)
     have g2:=Jw.keep hv (bu _ _)
     obtain⟨j1,j2⟩:=Jw.cell1 hv
     simp(disch:=omega)only[go_sem,X,Y,Z,aa,ab,U,c',g3,g2,j1,j2]
     rw[J]
     have a5:=fun z=>Jw.less (Jw.at hv (bu v k2) z) ((bc v k2).own aj q2 z)
     exact Mh.fin (Jw.sub (a5 _)) (Mh.agg (Mh.ex (l:=xs) (Jw.sub (a5 _)) (Mh.own (a5 _)) (.as0 (Jw.sub (a5 _))))) ⟨rfl,rfl⟩
  ·have cx:isW l k1 [wIf]=false:=by simpa using b1
   rw[if_neg b1,Ec af.get] at ag
   rw[if_neg b1] at hres
   rw[ag]
   simp(disch:=omega)only[go_sem,cx]
   have hs:=Cb3 hG hl 250 (fun m=>(P l m).assoc) (fun m=>(P l m).assocsL) Ee (fun _ _=>rfl) (fun _ _ _=>rfl) (fun m k hk=>(Kl m).assoc k hk) n hc H2 k1 af.get am (fun h=>hn (by rw[hres,h];rfl))
   refine hs.mono ?_
   intro e1 W ai
   cases hcc:(((P l n).assoc k1).then fun a k=>(P l n).assocsL [a] k) with
   | bot=>rw[hcc] at ai;exact ai.elim
   | fail k3=>
    rw[hcc] at ai
    rw[hcc,Ou] at hres
    obtain⟨rfl,O⟩:=ai
    simp(disch:=omega)only[go_sem]
    rw[hres]
    exact RAt.finP (by rw[O];exact af.set k3) ⟨rfl,rfl⟩
   | ok xs k3=>
    rw[hcc] at ai
    rw[hcc,Nx] at hres
    obtain⟨rfl,O⟩:=ai
    have c6:k3<=l.length:=by
     have:=Ce ((Kl (l:=l) n).assoc k1 am) (fun a j h1 h2=>(Kl (l:=l) n).assocsL [a] j h2 |>fun h=>Eh h h1)
     rw[hcc] at this
     exact this.2
    have ax:RAt r l k3 H W:=by rw[O];exact af.set _
    have ay:W C=some (.cells [.int .u8 9, .int .u8 0, .int .i64 0, .str [], .nilSlice, .nilSlice, .int .i64 li, .int .i64 0, .int .i64 0] 27):=by rw[O];exact Aj bq V
    have a0:W E=some (.cells [.int .u8 0, .int .u8 0, .int .i64 0, .str [], .nilSlice, .nilSlice, .int .i64 0, .int .i64 0, .int .i64 0] 27):=by rw[O];exact Aj bp q2
    simp(disch:=omega)only[go_sem,dAl,ay]
    obtain⟨H6,a6⟩: ∃K,K=upd W C (some (.cells [.int .u8 9, .int .u8 0, .int .i64 0, .str [], .nilSlice, .vslice (xs.flatMap dAs) xs.length, .int .i64 li, .int .i64 0, .int .i64 0] 27)):=⟨_,rfl⟩
    rw[<-a6]
    have bk:RAt r l k3 H H6:=by rw[a6];exact ax.own ba V _
    have cy:H6 C=some (.cells [.int .u8 9, .int .u8 0, .int .i64 0, .str [], .nilSlice, .vslice (xs.flatMap dAs) xs.length, .int .i64 li, .int .i64 0, .int .i64 0] 27):=by rw[a6];exact Aa _ _ _
    have cz:H6 E=some (.cells [.int .u8 0, .int .u8 0, .int .i64 0, .str [], .nilSlice, .nilSlice, .int .i64 0, .int .i64 0, .int .i64 0] 27):=by rw[a6];exact Aj a0 al
    refine(Td hG H6 Bv bk.get (by omega) (by omega)).mono ?_
    intro e1 H7 au
    unfold must at au
    by_cases b5:isW l k3 [Bv]=true
    ·rw[if_pos b5] at au hres
     obtain⟨rfl,av⟩:=au
     have c0:RAt r l (k3+1) H H7:=by rw[av];exact bk.set _
     have a7:H7 C=some (.cells [.int .u8 9, .int .u8 0, .int .i64 0, .str [], .nilSlice, .vslice (xs.flatMap dAs) xs.length, .int .i64 li, .int .i64 0, .int .i64 0] 27):=by rw[av];exact Aj cy V
     have bl:H7 E=some (.cells [.int .u8 0, .int .u8 0, .int .i64 0, .str [], .nilSlice, .nilSlice, .int .i64 0, .int .i64 0, .int .i64 0] 27):=by rw[av];exact Aj cz q2
     have ac:=fun z=>c0.own aj q2 z
     by_cases c1:xs.length=1
     ·obtain⟨x,rfl⟩:=List.length_eq_one_iff.1 c1
      have bz:=Gj x
      have hge:=Cu3 x
      have hle:=Ad x.e
      have c3:=Bo x.e
      rw[List.flatMap_singleton] at a7
      by_cases c2:x.c= []
      ·have bm:x.c.length=0:=by rw[c2];rfl
       simp(disch:=omega)only[go_sem,a7,bl,jQ,List.flatMap_singleton,bz,bm]
       try simp(disch:=omega)only[go_sem,hge,hle,c3]
       rw[hres,Bm8,if_pos c2]
       exact RAt.fin (ac _) ⟨rfl,rfl⟩
      ·have bm: ¬(x.c.length:Int)=0:=fun h=>c2 (List.length_eq_zero_iff.1 (by omega))
       simp(disch:=omega)only[go_sem,a7,bl,jQ,List.flatMap_singleton,bz,bm]
       rw[hres,Bm8,if_neg c2]
       exact Mh.fin (ac _) (Mh.agg (Mh.ex (a:= [x]) (ac _) (.exs0 (ac _)) (by rw[dAl,List.flatMap_singleton];exact Mh.keep (ac _) _))) ⟨rfl,rfl⟩
     ·have c4: ¬(xs.length:Int)=1:=by omega
      simp(disch:=omega)only[go_sem,a7,bl,c4]
      have hag:Bm8 li xs= .mk 9 0 0 [] [] xs li 0 0:=by
       match xs,c1 with
       | [],_=>rfl
       | [x],h=>exact absurd rfl h
       | x::y::zs,_=>rfl
      rw[hres,hag]
      exact Mh.fin (ac _) (Mh.agg (Mh.ex (a:=xs) (ac _) (.exs0 (ac _)) (Mh.keep (ac _) _))) ⟨rfl,rfl⟩
    ·rw[if_neg b5] at au hres
     obtain⟨rfl,av⟩:=au
     simp(disch:=omega)only[go_sem]
     rw[hres]
     exact RAt.finP (by rw[av];exact bk.set k3) ⟨rfl,rfl⟩
 ·rw[if_neg b0] at hq hres
  obtain⟨rfl,ae⟩:=hq
  simp(disch:=omega)only[go_sem]
  rw[hres]
  exact RAt.finP (by rw[ae];exact bb.set k) ⟨rfl,rfl⟩
end
section
variable {G:Nat->DVal} {H0 H H' K T B:Ac} {r k:Nat} {l:List Tok}
theorem Wa (C: ∀b,K b=none->T b=none) (w:World):Lasts K w T w:=⟨fun b i x hb hc=>⟨C b hb,hc⟩,Nat.le_refl _,fun _ _=>rfl⟩
theorem Mh.keepD (C: ∀b,K b=none->T b=none) (v:DVal):Mh K v T v:=fun w _ x hx=>Rel.lasts (Wa C w) _ _ hx
theorem Lf.keepD (C: ∀b,K b=none->T b=none) (vs:List DVal):Lf K vs T vs:=fun w _ x hx=>Az.lasts (Wa C w) _ _ hx
theorem Mh.cellsD {e:TypeId} {size q n:Nat} {cs cs':List DVal} (hr:T q=none) (D:K q=some (.cells cs e)) (hl:cs.length=n*size) (hs:Lf K cs T cs'):Mh K (.oslice size q 0 n n) T (.vslice cs' n):=fun w hw x hx=>by
 simp only[Rel] at hx⊢
 obtain⟨o,cap,rfl,h1,h2,h3,h4⟩:=hx;refine⟨_,cap,rfl,h2, ?_⟩;by_cases h0:cs= []
 ·subst h0;have:=hs w hw [] (by simp [Az]);cases cs' with
  | nil=>exact .inl rfl
  | cons c cs'=>simp [Az] at this
 ·obtain⟨C,E,hh⟩:=hw.holds D;have ho:o=0:=by
   rcases h3 with h3 | h3
   ·exfalso;have:n=0:=by omega
    subst this;rw[Nat.zero_mul] at hl;exact h0 (List.length_eq_zero_iff.1 hl)
   ·exact h3
  subst ho;exact .inr ⟨q,0,C,rfl, .inr ⟨hr,fun i y I=>by simpa using hh i y I⟩,hs w hw C E⟩
theorem Mh.ownD {e:TypeId} {size n:Nat} {cs:List DVal} {v:DVal} (C: ∀b,K b=none->T b=none) (D: ∀b,B b=none->T b=none) (hv:Jw B e size n cs v K):Mh K v T (.vslice cs n):=by
 rcases hv with⟨rfl,rfl,rfl,_⟩ | ⟨q,h1,h2,rfl,h4,_⟩
 ·exact fun w _ x hx=>Rel.lasts (Wa C w) _ _ (DLe.nil w K x hx)
 ·exact Mh.cellsD (D q h1) h4 h2 (Lf.keepD C _)
theorem Lf.exD {k o n:Int} {s:List UInt8} {D E:DVal} {m:List Ex} {a:List As} {li en t:Int} (C: ∀b,K b=none->T b=none) (hl:Mh K D T (dXs m)) (ha:Mh K E T (dAl a)):
  Lf K [.int .u8 k, .int .u8 o, .int .i64 n, .str s,D,E, .int .i64 li, .int .i64 en, .int .i64 t] T (dEx (.mk k o n s m a li en t)):=by
 rw[Xz];exact .cons (.keepD C _) (.cons (.keepD C _) (.cons (.keepD C _) (.cons (.keepD C _) (.cons hl (.cons ha (.keepD C _))))))
theorem Mh.as0D (C: ∀b,K b=none->T b=none):Mh K .nilSlice T (dAl []):=fun w _ x hx=>Rel.lasts (Wa C w) _ _ (DLe.nil w K x hx)
theorem Mh.exs0D (C: ∀b,K b=none->T b=none):Mh K .nilSlice T (dXs []):=fun w _ x hx=>Rel.lasts (Wa C w) _ _ (DLe.nil w K x hx)
theorem Fb4 {C:Ac} {D k':Nat} {o z:DObj} {l:List Tok} {r:Nat} (E:RAt r l k' C K) (I:K D=some o): ∀b,K b=none->(upd (upd C r (some (rdO l k'))) D (some z)) b=none:=fun b hb=>by
 simp only[upd];split
 ·rename_i e1;rw[e1,I] at hb;cases hb
 ·have:=Sub.lo E hb;simpa only[upd] using this
theorem Rz.cell {env:Nat->DVal} {C:Nat} {cs cs':List DVal} {e:TypeId} (E:K C=some (.cells cs e)) (I:Sub B K) (hs:Lf K cs (upd B C (some (.cells cs' e))) cs'):Rz G ⟨env,K⟩ ⟨env,upd B C (some (.cells cs' e))⟩:=fun w D hG=>by
 have hd: ∀b,K b=none->(upd B C (some (.cells cs' e))) b=none:=fun b hb=>by
  simp only[upd];split
  ·rename_i e1;rw[e1,E] at hb;cases hb
  ·exact I.lo hb
 refine⟨fun b o hb=> ?_,fun b hb h=>hb (hd b h),hG.lasts (Wa hd w),fun i x hx=>Rel.lasts (Wa hd w) _ _ hx⟩;simp only[upd] at hb;split at hb
 ·rename_i e1
  subst e1;cases hb;obtain⟨xs,c,fz,J,L,M,O⟩:=D _ _ E;exact⟨xs,c,fz,J,L,hs w D xs M,O⟩
 ·exact(D b o (I b o hb)).lasts (Wa hd w)
theorem RAt.up {r k D:Nat} {l:List Tok} {H C K:Ac} (h:RAt r l k C K) (E:RAt r l D H C):RAt r l k H K:=fun b o hb=>by
 simp only[upd] at hb;by_cases c:b=r
 ·rw[if_pos c] at hb;exact h b o (by simp only[upd];rw[if_pos c];exact hb)
 ·rw[if_neg c] at hb;exact h b o (by simp only[upd];rw[if_neg c];exact E b o (by simp only[upd];rw[if_neg c];exact hb))
theorem Ye {C:Ac} {D q k':Nat} {x:Ex} {e:TypeId} {o:DObj} {z:DObj} {l:List Tok} {r:Nat} {E:DVal} {a:List As} {I li:Int} {s:List UInt8} (J:RAt r l k' C K) (L:K D=some o) (M:C q=none) (O:q≠r) (S:q≠D) (U:K q=some (.cells (dEx x) e)) (ha: ∀T,(∀b,K b=none->T b=none)->Mh K E T (dAl a)):
  Lf K [.int .u8 I, .int .u8 0, .int .i64 0, .str s, .oslice 9 q 0 1 1,E, .int .i64 li, .int .i64 0, .int .i64 0] (upd (upd C r (some (rdO l k'))) D (some z)) (dEx (.mk I 0 0 s [x] a li 0 0)):=by
 have hd: ∀b,K b=none->(upd (upd C r (some (rdO l k'))) D (some z)) b=none:=fun b hb=>by
  simp only[upd];split
  ·rename_i e1;rw[e1,L] at hb;cases hb
  ·have:=Sub.lo J hb;simpa only[upd] using this
 refine Lf.exD hd ?_ (ha _ hd);show Mh K _ _ (.vslice ([x].flatMap dEx) 1);rw[List.flatMap_singleton];exact Mh.cellsD (by simp only[upd];rw[if_neg S,if_neg O];exact M) U (by rw[Ad]) (Lf.keepD hd _)
theorem Dk8 {C B:Ac} {D k':Nat} {x y:Ex} {e:TypeId} {o:DObj} {z:DObj} {l:List Tok} {r:Nat} {v:DVal} {I li:Int} {s:List UInt8} (J:RAt r l k' C K) (E:K D=some o) (L:RAt r l k' C B) (M:B D≠none) (hv:Jw B e 9 2 ([x,y].flatMap dEx) v K):
  Lf K [.int .u8 I, .int .u8 0, .int .i64 0, .str s,v, .nilSlice, .int .i64 li, .int .i64 0, .int .i64 0] (upd (upd C r (some (rdO l k'))) D (some z)) (dEx (.mk I 0 0 s [x,y] [] li 0 0)):=by
 have key: ∀K':Ac,RAt r l k' C K'->K' D≠none-> ∀b,K' b=none->(upd (upd C r (some (rdO l k'))) D (some z)) b=none:=fun K' ht E b hb=>by
  simp only[upd];split
  ·rename_i e1;rw[e1] at hb;exact absurd hb E
  ·have:=Sub.lo ht hb;simpa only[upd] using this
 have hd:=key K J (by rw[E];simp);exact Lf.exD hd (Mh.ownD hd (key B L M) hv) (.as0D hd)
end
section
variable {G:Nat->DVal} {H0 H H':Ac} {r k:Nat} {l:List Tok}
set_option maxHeartbeats 4000000 in
theorem Ei7 (hG:GX G) (hl:l.length<=800000) (n:Nat) (cj: ∀m≤n,RdC Tryz.prog G l 251 r fun k=>((P l m).arg k).mp dA) (ck: ∀m≤n,RdC Tryz.prog G l 173 r fun k=>((P l m).paren k).mp dE):RdC Tryz.prog G l 65 r fun k=>((P l (n+1)).name k).mp dE:=by
 intro H k hr hk hn;obtain⟨t,ht⟩: ∃t,t=tk l k:=⟨_,rfl⟩;have e:(P l (n+1)).name k=Ka l k fun s k1=>(P l n).nameL (tk l k).line (.mk 3 0 0 s [] [] (tk l k).line 0 0) k1:=rfl;dsimp only at hn⊢
 rw[e,Ka,<-ht] at hn⊢
 refine Ab Tryz.func65 Tryz.call65 rfl (by kernel_rfl) ?_;simp(disch:=omega)only[go_sem];intro r2 bb;dsimp only at bb;obtain⟨Ha,bh⟩: ∃K,K=upd H r2 (some (.cells [.int .u8 0, .int .u8 0, .int .i64 0, .str [], .nilSlice, .nilSlice, .int .i64 0, .int .i64 0, .int .i64 0] 27)):=⟨_,rfl⟩;rw[<-bh];have cl:Ha r2=some (.cells [.int .u8 0, .int .u8 0, .int .i64 0, .str [], .nilSlice, .nilSlice, .int .i64 0, .int .i64 0, .int .i64 0] 27):=by rw[bh];exact Aa _ _ _
 have n2:r≠r2:=Af bb hr;have q2:=n2.symm;have ha:RAt r l k H Ha:=by rw[bh];exact(RAt.refl hr).new bb _
 simp(disch:=omega)only[go_sem];refine(Az0 G Ha 1 ha.get (by omega) (by omega)).mono ?_;intro e1 H1 hq;rw[<-ht] at hq;by_cases c:t.kind=1
 ·rw[if_pos c] at hn hq⊢
  obtain⟨rfl,bc⟩:=hq;have dn:k+1<=l.length:=Oq (by rw[<-ht,c];decide);have U:RAt r l (k+1) H H1:=by rw[bc];exact ha.set _
  have b0:H1 r2=some (.cells [.int .u8 0, .int .u8 0, .int .i64 0, .str [], .nilSlice, .nilSlice, .int .i64 0, .int .i64 0, .int .i64 0] 27):=by rw[bc];exact Aj cl q2
  simp(disch:=omega)only[go_sem,Cq];intro r3 ax;dsimp only at ax;have cm:r2≠r3:=Af ax b0;have n3:r≠r3:=Af ax U.get;have q3:=n3.symm;have dp:H r3=none:=U.lo ax;simp(disch:=omega)only[go_sem];obtain⟨S,bd⟩: ∃K,K=upd H1 r3 (some (.cells [.int .u8 t.kind,dI t.line, .str t.text,dI t.n] 31)):=⟨_,rfl⟩;rw[<-bd];have b6:S r3=some (.cells [.int .u8 t.kind,dI t.line, .str t.text,dI t.n] 31):=by rw[bd];exact Aa _ _ _
  have b7:S r2=some (.cells [.int .u8 0, .int .u8 0, .int .i64 0, .str [], .nilSlice, .nilSlice, .int .i64 0, .int .i64 0, .int .i64 0] 27):=by rw[bd];exact Aj b0 cm
  have ah:RAt r l (k+1) H S:=by rw[bd];exact U.new ax _
  intro O ae;dsimp only at ae;have dq:r2≠O:=Af ae b7;have dr:r3≠O:=Af ae b6;have n4:r≠O:=Af ae ah.get;have Y:=n4.symm;simp(disch:=omega)only[go_sem,Xz,List.flatMap_nil,jB];obtain⟨x0,bi⟩: ∃x0,x0=Ex.mk 3 0 0 t.text [] [] t.line 0 0:=⟨_,rfl⟩;have ds:dEx x0= [.int .u8 3, .int .u8 0, .int .i64 0, .str t.text, .vslice [] 0, .vslice [] 0, .int .i64 t.line, .int .i64 0, .int .i64 0]:=by rw[bi,Xz];rfl
  rw[<-bi] at hn⊢
  obtain⟨n',rfl⟩: ∃n',n=n'+1:=by
   cases n with
   | zero=>exact absurd rfl hn
   | succ n'=>exact⟨n',rfl⟩
  obtain⟨bj,hres⟩: ∃bj,bj=(P l (n'+1)).nameL t.line x0 (k+1):=⟨_,rfl⟩;rw[<-hres] at hn⊢
  have hT: ∀x k' b o,b≠O->upd S r (some (rdO l k')) b=some o->upd (upd S r (some (rdO l k'))) O (some (.cells (dEx x) 27)) b=some o:=fun x k' b o hb h=>by rw[Am _ _ _ _ hb];exact h
  obtain⟨I,hI⟩: ∃I:Nat×Ex×Nat->(Nat->DVal)->Ac->Prop,∀s env heap,I s env heap↔(env 0= .optr r 0/\env 2= .optr r2 0/\env 3= .optr r3 0/\env 4= .optr O 0/\s.2.2<=l.length/\s.1<=n'/\bj=(P l (s.1+1)).nameL t.line s.2.1 s.2.2/\heap=upd (upd S r (some (rdO l s.2.2))) O (some (.cells (dEx s.2.1) 27))):=⟨_,fun _ _ _=>Iff.rfl⟩;have be:RAt r l (k+1) S (upd S O (some (.cells [.int .u8 3, .int .u8 0, .int .i64 0, .str t.text, .nilSlice, .nilSlice, .int .i64 t.line, .int .i64 0, .int .i64 0] 27))):=(RAt.refl ah.get).own ae Y _;refine Dr7.runG I (fun s=>s.1) (n',x0,k+1) ⟨_,upd (upd S r (some (rdO l (k+1)))) O (some (.cells (dEx x0) 27))⟩ (Rz.cell (Aa _ _ _) be ?_) ((hI _ _ _).2 ?_) ?_
  ·rw[bi];exact Lf.exD (Fb4 be (Aa _ _ _)) (.exs0D (Fb4 be (Aa _ _ _))) (.as0D (Fb4 be (Aa _ _ _)))
  ·simp(disch:=omega)only[go_sem]
  ·rintro⟨m,x,k1⟩ env heap cn;obtain⟨E,J,L,M,aq,hm,C,hh⟩:=(hI _ _ _).1 cn;dsimp only at aq hm C hh;have eP:(P l (m+1)).nameL t.line x k1=if isW l k1 [Jj,Zo] then(P l m).nameL t.line (.mk 5 0 0 [] [x] [] t.line 0 0) (k1+2) else if isW l k1 [Jj] then Ka l (k1+1) fun s k=>(P l m).nameL t.line (.mk 4 0 0 s [x] [] t.line 0 0) k
     else if isW l k1 [Bf] then((P l m).arg (k1+1)).then fun a k=>((P l m).argsL [a] k).then fun xs k=>must l Bv k fun k=>(P l m).nameL t.line (.mk 7 0 0 [] [x] xs t.line 0 0) k
     else if isW l k1 [Hz,Bf] then((P l m).paren (k1+1)).then fun y k=>(P l m).nameL t.line (.mk 8 0 0 [] [x,y] [] t.line 0 0) k
     else if isW l k1 [Hz] then Ka l (k1+1) fun s k=>(P l m).nameL t.line (.mk 6 0 0 s [x] [] t.line 0 0) k else .ok x k1:=rfl
   rw[eP] at C;have ar:RAt r l k1 S heap:=by rw[hh];exact((RAt.refl ah.get).set k1).own ae Y _
   have h4:heap O=some (.cells (dEx x) 27):=by rw[hh];exact Aa _ _ _
   have h3:heap r3=some (.cells [.int .u8 t.kind,dI t.line, .str t.text,dI t.n] 31):=ar _ _ (by rw[Am _ _ _ _ q3];exact b6);have bk:=Ad x;simp(disch:=omega)only[go_sem,E,J,L,M,h4,h3];rw[Bo5 bk];simp(disch:=omega)only[go_sem,E,J,L,M,h4,h3];intro q hq0;dsimp only at hq0;have p3:r3≠q:=Af hq0 h3;have p4:O≠q:=Af hq0 h4;have pr:r≠q:=Af hq0 ar.get;have ay:S q=none:=ar.lo hq0;simp(disch:=omega)only[go_sem,E,J,L,M,h4,h3,p3,p4];intro V bl;dsimp only at bl;obtain⟨m5,co,bm⟩:=Ba.1 bl;have ai:O≠V:=Af bm h4;have ab:r≠V:=Af bm ar.get;have a0:S V=none:=ar.lo bm;simp(disch:=omega)only[go_sem,E,J,L,M,h4,h3,p3,p4];have au:q≠V:=by first | exact m5 | exact co
   obtain⟨K1,a1⟩: ∃K,K=upd (upd heap q (some (.cells (dEx x) 27))) V (some (.cells [.int .u8 0, .int .u8 0, .int .i64 0, .str [], .oslice 9 q 0 1 1, .nilSlice, .int .i64 t.line, .int .i64 0, .int .i64 0] 27)):=⟨_,rfl⟩;rw[<-a1];have U:RAt r l k1 S K1:=by rw[a1];exact(ar.new hq0 _).new bl _
   have a2:K1 V=some (.cells [.int .u8 0, .int .u8 0, .int .i64 0, .str [], .oslice 9 q 0 1 1, .nilSlice, .int .i64 t.line, .int .i64 0, .int .i64 0] 27):=by rw[a1];exact Aa _ _ _
   have a3:K1 q=some (.cells (dEx x) 27):=by rw[a1];exact Aj (Aa _ _ _) au
   have av:K1 O=some (.cells (dEx x) 27):=by rw[a1];exact Aj (Aj h4 p4) ai
   have aw:K1 r2=some (.cells [.int .u8 0, .int .u8 0, .int .i64 0, .str [], .nilSlice, .nilSlice, .int .i64 0, .int .i64 0, .int .i64 0] 27):=U _ _ (by rw[Am _ _ _ _ q2];exact b7);intro w1 b8;dsimp only at b8;simp(disch:=omega)only[go_sem];refine(Gt5 hG K1 w1 Jj Zo b8 U.get (by omega) (by omega)).mono ?_;rintro _ H2 ⟨rfl,aj⟩;by_cases b1:isW l k1 [Jj,Zo]=true
   ·rw[if_pos b1] at aj C;have af:=Av b1 aq;rw[show [Jj,Zo].length=2 from rfl] at af;have Z:RAt r l (k1+2) S H2:=by rw[aj];exact U.set _
    have cp:H2 V=some (.cells [.int .u8 0, .int .u8 0, .int .i64 0, .str [], .oslice 9 q 0 1 1, .nilSlice, .int .i64 t.line, .int .i64 0, .int .i64 0] 27):=by rw[aj];exact Aj a2 ab.symm
    have cq:H2 O=some (.cells (dEx x) 27):=by rw[aj];exact Aj av Y
    have cr:H2 q=some (.cells (dEx x) 27):=by rw[aj];exact Aj a3 pr.symm
    have dt:H2 r2=some (.cells [.int .u8 0, .int .u8 0, .int .i64 0, .str [], .nilSlice, .nilSlice, .int .i64 0, .int .i64 0, .int .i64 0] 27):=by rw[aj];exact Aj aw q2
    obtain⟨D,rfl⟩: ∃D,m=D+1:=by
     cases m with
     | zero=>rw[C] at hn;exact absurd rfl hn
     | succ D=>exact⟨D,rfl⟩
    simp(disch:=omega)only[go_sem,b1,E,J,L,M,cp,cq,ai];have ag:=fun z X=>(Z.own a0 ab.symm z).own ae Y X;have am:=fun z X=>Aj (y:=X) (Aj (y:=z) cr au) p4.symm;refine⟨(D, .mk 5 0 0 [] [x] [] t.line 0 0,k1+2),_,Rz.cell (Aa _ _ _) (ag _ _) (Ye (a:= []) (ag _ _) (Aa _ _ _) ay pr.symm p4.symm (am _ _) (fun T hd=> .as0D hd)),(hI _ _ _).2 ?_,by dsimp only;omega⟩;simp(disch:=omega)only[go_sem,E,J,L,M]
   ·have ct:isW l k1 [Jj,Zo]=false:=by simpa using b1
    rw[if_neg b1,Ec U.get] at aj;rw[if_neg b1] at C;rw[aj];simp(disch:=omega)only[go_sem,ct,E,J,L,M];intro w2 b9;dsimp only at b9;simp(disch:=omega)only[go_sem];refine(Ay9 hG K1 w2 Jj b9 U.get (by omega) (by omega)).mono ?_;rintro _ H3 ⟨rfl,ak⟩;by_cases b2:isW l k1 [Jj]=true
    ·rw[if_pos b2] at ak C;have af:=Av b2 aq;rw[jQ] at af;have Z:RAt r l (k1+1) S H3:=by rw[ak];exact U.set _
     have cu:H3 V=some (.cells [.int .u8 0, .int .u8 0, .int .i64 0, .str [], .oslice 9 q 0 1 1, .nilSlice, .int .i64 t.line, .int .i64 0, .int .i64 0] 27):=by rw[ak];exact Aj a2 ab.symm
     have cv:H3 O=some (.cells (dEx x) 27):=by rw[ak];exact Aj av Y
     have cw:H3 q=some (.cells (dEx x) 27):=by rw[ak];exact Aj a3 pr.symm
     have du:H3 r2=some (.cells [.int .u8 0, .int .u8 0, .int .i64 0, .str [], .nilSlice, .nilSlice, .int .i64 0, .int .i64 0, .int .i64 0] 27):=by rw[ak];exact Aj aw q2
     simp(disch:=omega)only[go_sem,b2,E,J,L,M];have bn: ∃t2,t2=tk l (k1+1):=⟨_,rfl⟩;obtain⟨t2,a4⟩:=bn;unfold Ka at C;refine(Az0 G H3 1 Z.get (by omega) (by omega)).mono ?_;intro e1 H9 aa;rw[<-a4] at aa C;by_cases c9:t2.kind=1
     ·rw[if_pos c9] at aa C;obtain⟨rfl,W⟩:=aa;have bo:k1+2<=l.length:=Oq (by rw[<-a4,c9];decide);have a5:RAt r l (k1+2) S H9:=by rw[W];exact Z.set _
      have bp:H9 V=some (.cells [.int .u8 0, .int .u8 0, .int .i64 0, .str [], .oslice 9 q 0 1 1, .nilSlice, .int .i64 t.line, .int .i64 0, .int .i64 0] 27):=by rw[W];exact Aj cu ab.symm
      have bq:H9 O=some (.cells (dEx x) 27):=by rw[W];exact Aj cv Y
      have br:H9 q=some (.cells (dEx x) 27):=by rw[W];exact Aj cw pr.symm
      obtain⟨D,rfl⟩: ∃D,m=D+1:=by
       cases m with
       | zero=>rw[C] at hn;exact absurd rfl hn
       | succ D=>exact⟨D,rfl⟩
      simp(disch:=omega)only[go_sem,Cq,E,J,L,M,bp,bq,ai];have ag:=fun z X=>(a5.own a0 ab.symm z).own ae Y X;have am:=fun z X=>Aj (y:=X) (Aj (y:=z) br au) p4.symm;refine⟨(D, .mk 4 0 0 t2.text [x] [] t.line 0 0,k1+2),_,Rz.cell (Aa _ _ _) (ag _ _) (Ye (a:= []) (ag _ _) (Aa _ _ _) ay pr.symm p4.symm (am _ _) (fun T hd=> .as0D hd)),(hI _ _ _).2 ?_,by dsimp only;omega⟩;simp(disch:=omega)only[go_sem,E,J,L,M]
     ·rw[if_neg c9] at aa C;obtain⟨rfl,W⟩:=aa;simp(disch:=omega)only[go_sem];rw[C];exact RAt.finP (by rw[W];exact RAt.up (Z.set _) ah) ⟨rfl,rfl⟩
    ·have cx:isW l k1 [Jj]=false:=by simpa using b2
     rw[if_neg b2,Ec U.get] at ak;rw[if_neg b2] at C;rw[ak];simp(disch:=omega)only[go_sem,cx,E,J,L,M];intro w3 ca;dsimp only at ca;simp(disch:=omega)only[go_sem];refine(Ay9 hG K1 w3 Bf ca U.get (by omega) (by omega)).mono ?_;rintro _ H4 ⟨rfl,al⟩;by_cases b3:isW l k1 [Bf]=true
     ·rw[if_pos b3] at al C;have af:=Av b3 aq;rw[jQ] at af;have Z:RAt r l (k1+1) S H4:=by rw[al];exact U.set _
      have cy:H4 V=some (.cells [.int .u8 0, .int .u8 0, .int .i64 0, .str [], .oslice 9 q 0 1 1, .nilSlice, .int .i64 t.line, .int .i64 0, .int .i64 0] 27):=by rw[al];exact Aj a2 ab.symm
      have cz:H4 O=some (.cells (dEx x) 27):=by rw[al];exact Aj av Y
      have c0:H4 q=some (.cells (dEx x) 27):=by rw[al];exact Aj a3 pr.symm
      have dv:H4 r2=some (.cells [.int .u8 0, .int .u8 0, .int .i64 0, .str [], .nilSlice, .nilSlice, .int .i64 0, .int .i64 0, .int .i64 0] 27):=by rw[al];exact Aj aw q2
      simp(disch:=omega)only[go_sem,b3,E,J,L,M];have c1: ∀(a:Res As) (f:As->Nat->Res (List As)) (g:List As->Nat->Res Ex),(a.then fun x k=>(f x k).then g)=(a.then f).then g:=fun a f g=>by cases a<;>rfl
      rw[c1] at C;have a6:=Ei6 hG hl m (fun i hi=>cj i (by omega)) H4 (k1+1) Z.get af;dsimp only at a6;cases hcc:(((P l m).arg (k1+1)).then fun a k=>(P l m).argsL [a] k) with
      | bot=>rw[hcc,Rr] at C;rw[C] at hn;exact absurd rfl hn
      | fail k3=>
       rw[hcc] at a6;rw[hcc,Ou] at C;refine(a6 (Cf (by simp))).mono ?_;rintro e H7 ⟨rfl,ad⟩;simp(disch:=omega)only[go_sem];rw[C];exact RAt.finP (by rw[ad];exact RAt.up (Z.set _) ah) ⟨rfl,rfl⟩
      | ok xs k3=>
       rw[hcc] at a6;rw[hcc,Nx] at C;have c2:k3<=l.length:=by
        have:=Ce ((Kl (l:=l) m).arg (k1+1) af) (fun a j h1 h2=>Eh ((Kl (l:=l) m).argsL [a] j h2) h1);rw[hcc] at this;exact this.2
       refine(a6 (Cf (by simp))).mono ?_;rintro e H7 ⟨rfl,ad⟩;have bs:RAt r l k3 S H7:=by rw[ad];exact Z.set _
       have ao:H7 V=some (.cells [.int .u8 0, .int .u8 0, .int .i64 0, .str [], .oslice 9 q 0 1 1, .nilSlice, .int .i64 t.line, .int .i64 0, .int .i64 0] 27):=by rw[ad];exact Aj cy ab.symm
       have bt:H7 O=some (.cells (dEx x) 27):=by rw[ad];exact Aj cz Y
       have a7:H7 q=some (.cells (dEx x) 27):=by rw[ad];exact Aj c0 pr.symm
       simp(disch:=omega)only[go_sem,dAl,E,J,L,M,ao];obtain⟨H8,a8⟩: ∃K,K=upd H7 V (some (.cells [.int .u8 7, .int .u8 0, .int .i64 0, .str [], .oslice 9 q 0 1 1, .vslice (xs.flatMap dAs) xs.length, .int .i64 t.line, .int .i64 0, .int .i64 0] 27)):=⟨_,rfl⟩;rw[<-a8];have bu:RAt r l k3 S H8:=by rw[a8];exact bs.own a0 ab.symm _
       have c3:H8 V=some (.cells [.int .u8 7, .int .u8 0, .int .i64 0, .str [], .oslice 9 q 0 1 1, .vslice (xs.flatMap dAs) xs.length, .int .i64 t.line, .int .i64 0, .int .i64 0] 27):=by rw[a8];exact Aa _ _ _
       have c4:H8 O=some (.cells (dEx x) 27):=by rw[a8];exact Aj bt ai
       have c5:H8 q=some (.cells (dEx x) 27):=by rw[a8];exact Aj a7 au
       refine(Td hG H8 Bv bu.get (by omega) (by omega)).mono ?_;intro e1 H9 aa;unfold must at aa C;by_cases c9:isW l k3 [Bv]=true
       ·rw[if_pos c9] at aa C;obtain⟨rfl,W⟩:=aa;have bo:=Av c9 c2;rw[jQ] at bo;have a5:RAt r l (k3+1) S H9:=by rw[W];exact bu.set _
        have c6:H9 V=some (.cells [.int .u8 7, .int .u8 0, .int .i64 0, .str [], .oslice 9 q 0 1 1, .vslice (xs.flatMap dAs) xs.length, .int .i64 t.line, .int .i64 0, .int .i64 0] 27):=by rw[W];exact Aj c3 ab.symm
        have c7:H9 O=some (.cells (dEx x) 27):=by rw[W];exact Aj c4 Y
        have c8:H9 q=some (.cells (dEx x) 27):=by rw[W];exact Aj c5 pr.symm
        dsimp only at C;obtain⟨D,rfl⟩: ∃D,m=D+1:=by
         cases m with
         | zero=>rw[C] at hn;exact absurd rfl hn
         | succ D=>exact⟨D,rfl⟩
        simp(disch:=omega)only[go_sem,E,J,L,M,c6,c7,ai];have ag:=fun X=>a5.own ae Y X;have am:=fun X=>Aj (y:=X) c8 p4.symm;refine⟨(D, .mk 7 0 0 [] [x] xs t.line 0 0,k3+1),_,Rz.cell (Aa _ _ _) (ag _) (Ye (a:=xs) (ag _) (Aa _ _ _) ay pr.symm p4.symm (am _) (fun T hd=>Mh.keepD hd _)),(hI _ _ _).2 ?_,by dsimp only;omega⟩;simp(disch:=omega)only[go_sem,E,J,L,M]
       ·rw[if_neg c9] at aa C;obtain⟨rfl,W⟩:=aa;simp(disch:=omega)only[go_sem];rw[C];exact RAt.finP (by rw[W];exact RAt.up (bu.set _) ah) ⟨rfl,rfl⟩
     ·have da:isW l k1 [Bf]=false:=by simpa using b3
      rw[if_neg b3,Ec U.get] at al;rw[if_neg b3] at C;rw[al];simp(disch:=omega)only[go_sem,da,E,J,L,M];intro w4 cb;dsimp only at cb;simp(disch:=omega)only[go_sem];refine(is2 hG K1 w4 Hz Bf cb U.get (by omega) (by omega)).mono ?_;rintro _ H5 ⟨rfl,db⟩;rw[db];by_cases b4:isW l k1 [Hz,Bf]=true
      ·rw[if_pos b4] at C;have af:=Av b4 aq;rw[show [Hz,Bf].length=2 from rfl] at af;have gr:=U.get;unfold rdO at gr;have dc:IntKind.i64.wrap ((k1:Int)+1)=((k1+1:Nat):Int):=by rw[IntKind.wrap_i64];omega
       simp(disch:=omega)only[go_sem,b4,E,J,L,M,gr,dc];obtain⟨H6,ac⟩: ∃H6,H6=upd K1 r (some (rdO l (k1+1))):=⟨_,rfl⟩;have cc:=ac;unfold rdO at cc;rw[<-cc];have Z:RAt r l (k1+1) S H6:=by rw[ac];exact U.set _
       have ap:H6 V=some (.cells [.int .u8 0, .int .u8 0, .int .i64 0, .str [], .oslice 9 q 0 1 1, .nilSlice, .int .i64 t.line, .int .i64 0, .int .i64 0] 27):=by rw[ac];exact Aj a2 ab.symm
       have bv:H6 O=some (.cells (dEx x) 27):=by rw[ac];exact Aj av Y
       have bw:H6 q=some (.cells (dEx x) 27):=by rw[ac];exact Aj a3 pr.symm
       have dd:H6 r2=some (.cells [.int .u8 0, .int .u8 0, .int .i64 0, .str [], .nilSlice, .nilSlice, .int .i64 0, .int .i64 0, .int .i64 0] 27):=by rw[ac];exact Aj aw q2
       refine Ak (by kernel_rfl) (.take 0 (.take 1 (.take 2 (.take 6 (.go 3 [1] (.go 4 [1] (.go 5 [] (.go 7 [] (.take 8 (.go 9 [] .done)))))))))) (by kernel_rfl) ?_;simp(disch:=omega)only[go_sem,E,J,L,M,ap];have a9:=ck m (by omega) H6 (k1+1) Z.get (by omega);have cd:=(Kl (l:=l) m).paren (k1+1) (by omega);dsimp only at a9;cases hcc:(P l m).paren (k1+1) with
       | bot=>rw[hcc,Rr] at C;rw[C] at hn;exact absurd rfl hn
       | fail k3=>
        rw[hcc] at a9;rw[hcc,Ou] at C;refine(a9 (Cf (by simp))).mono ?_;rintro e H7 ⟨rfl,ad⟩;simp(disch:=omega)only[go_sem];rw[C];exact RAt.finP (by rw[ad];exact RAt.up (Z.set _) ah) ⟨rfl,rfl⟩
       | ok y k3=>
        rw[hcc] at a9 cd;rw[hcc,Nx] at C;dsimp only[Adv] at cd;refine(a9 (Cf (by simp))).mono ?_;rintro e H7 ⟨rfl,ad⟩;have bs:RAt r l k3 S H7:=by rw[ad];exact Z.set _
        have ao:H7 V=some (.cells [.int .u8 0, .int .u8 0, .int .i64 0, .str [], .oslice 9 q 0 1 1, .nilSlice, .int .i64 t.line, .int .i64 0, .int .i64 0] 27):=by rw[ad];exact Aj ap ab.symm
        have bt:H7 O=some (.cells (dEx x) 27):=by rw[ad];exact Aj bv Y
        have a7:H7 q=some (.cells (dEx x) 27):=by rw[ad];exact Aj bw pr.symm
        have ce:=Ad y;simp(disch:=omega)only[go_sem,dE,E,J,L,M,ap,ao];rw[Bo5 ce];simp(disch:=omega)only[go_sem,E,J,L,M,ap,ao];intro r8 bf;dsimp only at bf;have p8:q≠r8:=Af bf a7;have de:V≠r8:=Af bf ao;simp(disch:=omega)only[go_sem,E,J,L,M,ap,ao,de];rw[if_neg p8,a7];obtain⟨Bq,ba⟩: ∃K,K=upd H7 q none:=⟨_,rfl⟩;have df:Sub Bq H7:=by
         rw[ba];intro b o hb;simp only[upd] at hb;split at hb
         ·cases hb
         ·exact hb
        have dg:RAt r l k3 S Bq:=by rw[ba];exact bs.own ay pr.symm none
        have cf:Bq V=some (.cells [.int .u8 0, .int .u8 0, .int .i64 0, .str [], .oslice 9 q 0 1 1, .nilSlice, .int .i64 t.line, .int .i64 0, .int .i64 0] 27):=by rw[ba];exact Aj ao au.symm
        have cg:Bq O=some (.cells (dEx x) 27):=by rw[ba];exact Aj bt p4
        have dh:Jw Bq 27 9 1 (dEx x) (.oslice 9 q 0 1 1) H7:= .inr ⟨q,by rw[ba];exact Aa _ _ _,by rw[bk],rfl,a7,df⟩;refine Jw.appendO (m:=1) (dh.new bf _) ce (by omega) fun v2 dw bg=> ?_;have di:=bg.keep cf;have dj:=bg.keep cg;obtain⟨j1,j2⟩:=bg.cell1;obtain⟨D,rfl⟩: ∃D,m=D+1:=by
         cases m with
         | zero=>rw[C] at hn;exact absurd rfl hn
         | succ D=>exact⟨D,rfl⟩
        simp(disch:=omega)only[go_sem,E,J,L,M,di,dj,ai,j1,j2];have bx:=fun z X=>(bg.at cf (some z)).at (r:=O) (by rw[Am _ _ _ _ ai];exact cg) (some X);have bz:=fun z X=>(dg.own a0 ab.symm (some z)).own ae Y (some X);refine⟨(D, .mk 8 0 0 [] [x,y] [] t.line 0 0,k3),_,Rz.cell (Aa _ _ _) (Sub.trans (bz _ _) (bx _ _).sub) (Dk8 (Sub.trans (bz _ _) (bx _ _).sub) (Aa _ _ _) (bz _ _) (by rw[Aa];simp) (by rw[show [x,y].flatMap dEx=dEx x++dEx y by simp];exact bx _ _)),(hI _ _ _).2 ?_,by dsimp only;omega⟩;simp(disch:=omega)only[go_sem,E,J,L,M]
      ·have dk:isW l k1 [Hz,Bf]=false:=by simpa using b4
       rw[if_neg b4] at C;simp(disch:=omega)only[go_sem,dk,E,J,L,M];intro w5 ci;dsimp only at ci;simp(disch:=omega)only[go_sem];refine(Ay9 hG K1 w5 Hz ci U.get (by omega) (by omega)).mono ?_;rintro _ H6 ⟨rfl,ac⟩;by_cases b5:isW l k1 [Hz]=true
       ·rw[if_pos b5] at ac C;have af:=Av b5 aq;rw[jQ] at af;have Z:RAt r l (k1+1) S H6:=by rw[ac];exact U.set _
        have ap:H6 V=some (.cells [.int .u8 0, .int .u8 0, .int .i64 0, .str [], .oslice 9 q 0 1 1, .nilSlice, .int .i64 t.line, .int .i64 0, .int .i64 0] 27):=by rw[ac];exact Aj a2 ab.symm
        have bv:H6 O=some (.cells (dEx x) 27):=by rw[ac];exact Aj av Y
        have bw:H6 q=some (.cells (dEx x) 27):=by rw[ac];exact Aj a3 pr.symm
        have dd:H6 r2=some (.cells [.int .u8 0, .int .u8 0, .int .i64 0, .str [], .nilSlice, .nilSlice, .int .i64 0, .int .i64 0, .int .i64 0] 27):=by rw[ac];exact Aj aw q2
        simp(disch:=omega)only[go_sem,b5,E,J,L,M];have bn: ∃t2,t2=tk l (k1+1):=⟨_,rfl⟩;obtain⟨t2,a4⟩:=bn;unfold Ka at C;refine(Az0 G H6 1 Z.get (by omega) (by omega)).mono ?_;intro e1 H9 aa;rw[<-a4] at aa C;by_cases c9:t2.kind=1
        ·rw[if_pos c9] at aa C;obtain⟨rfl,W⟩:=aa;have bo:k1+2<=l.length:=Oq (by rw[<-a4,c9];decide);have a5:RAt r l (k1+2) S H9:=by rw[W];exact Z.set _
         have bp:H9 V=some (.cells [.int .u8 0, .int .u8 0, .int .i64 0, .str [], .oslice 9 q 0 1 1, .nilSlice, .int .i64 t.line, .int .i64 0, .int .i64 0] 27):=by rw[W];exact Aj ap ab.symm
         have bq:H9 O=some (.cells (dEx x) 27):=by rw[W];exact Aj bv Y
         have br:H9 q=some (.cells (dEx x) 27):=by rw[W];exact Aj bw pr.symm
         obtain⟨D,rfl⟩: ∃D,m=D+1:=by
          cases m with
          | zero=>rw[C] at hn;exact absurd rfl hn
          | succ D=>exact⟨D,rfl⟩
         simp(disch:=omega)only[go_sem,Cq,E,J,L,M,bp,bq,ai];have ag:=fun z X=>(a5.own a0 ab.symm z).own ae Y X;have am:=fun z X=>Aj (y:=X) (Aj (y:=z) br au) p4.symm;refine⟨(D, .mk 6 0 0 t2.text [x] [] t.line 0 0,k1+2),_,Rz.cell (Aa _ _ _) (ag _ _) (Ye (a:= []) (ag _ _) (Aa _ _ _) ay pr.symm p4.symm (am _ _) (fun T hd=> .as0D hd)),(hI _ _ _).2 ?_,by dsimp only;omega⟩;simp(disch:=omega)only[go_sem,E,J,L,M]
        ·rw[if_neg c9] at aa C;obtain⟨rfl,W⟩:=aa;simp(disch:=omega)only[go_sem];rw[C];exact RAt.finP (by rw[W];exact RAt.up (Z.set _) ah) ⟨rfl,rfl⟩
       ·have dl:isW l k1 [Hz]=false:=by simpa using b5
        rw[if_neg b5,Ec U.get] at ac;rw[if_neg b5] at C;rw[ac];have dm:=Bo x;simp(disch:=omega)only[go_sem,dl,E,J,L,M,av,aw,bk,dm];rw[C];exact RAt.fin ((RAt.up U ah).own bb q2 _) ⟨rfl,rfl⟩
 ·rw[if_neg c] at hn hq⊢
  obtain⟨rfl,bc⟩:=hq;simp(disch:=omega)only[go_sem];exact RAt.finP (by rw[bc];exact ha.set k) ⟨rfl,rfl⟩
end
section
variable {G:Nat->DVal} {r:Nat} {l:List Tok}
structure RdAll (G:Nat->DVal) (l:List Tok) (r:Nat) (m:Nat):Prop where
 expr:RdC Tryz.prog G l 58 r fun k=>((P l m).expr k).mp dE
 rest: ∀x,Dk6 Tryz.prog G l 164 r (.agg (dEx x)) fun k=>((P l m).rest x k).mp dE
 relation: ∀x,Dk6 Tryz.prog G l 60 r (.agg (dEx x)) fun k=>((P l m).relation x k).mp dE
 simple:RdC Tryz.prog G l 61 r fun k=>((P l m).simple k).mp dE
 term:RdC Tryz.prog G l 62 r fun k=>((P l m).term k).mp dE
 factor:RdC Tryz.prog G l 63 r fun k=>((P l m).factor k).mp dE
 primary:RdC Tryz.prog G l 64 r fun k=>((P l m).primary k).mp dE
 paren:RdC Tryz.prog G l 173 r fun k=>((P l m).paren k).mp dE
 assoc:RdC Tryz.prog G l 250 r fun k=>((P l m).assoc k).mp dA
 choice:RdC Tryz.prog G l 294 r fun k=>((P l m).choice k).mp dC
 arg:RdC Tryz.prog G l 251 r fun k=>((P l m).arg k).mp dA
 name:RdC Tryz.prog G l 65 r fun k=>((P l m).name k).mp dE
theorem Gl6 (hG:GX G) (hl:l.length<=800000): ∀n m,m<=n->RdAll G l r m:=by
 intro n
 induction n with
 | zero=>
  intro m hm;have:m=0:=by omega
  subst this;constructor<;>intros<;>intro H k _ _ hn<;>exact absurd rfl hn
 | succ n ih=>
  intro m hm;rcases Nat.lt_or_ge m (n+1) with h | h
  ·exact ih m (by omega)
  ·have:m=n+1:=by omega
   subst this;have h0:=ih n (Nat.le_refl _);exact⟨Ei2 hl _ (Kl n) h0.simple h0.rest,Ei4 hG hl n (fun m hm=>(ih m hm).simple) (fun m hm=>(ih m hm).relation),Bx4 hG hl _ (Kl n) h0.simple,
    Cv8 hG hl n (fun m hm=>(ih m hm).term),Ei1 hG hl n (fun m hm=>(ih m hm).factor),Cv6 hG hl _ (Kl n) h0.primary,Ci5 hG hl _ h0.paren h0.name,
    Dk7 hG hl n h0.expr (fun m hm=>(ih m hm).assoc),Ci7 hG hl n (fun m hm=>(ih m hm).choice) h0.expr,Cv9 hG hl _ (Kl n) h0.simple h0.rest,Bx5 hG hl _ h0.expr,
    Ei7 hG hl n (fun m hm=>(ih m hm).arg) (fun m hm=>(ih m hm).paren)⟩
theorem Fb5 (hG:GX G) (hl:l.length<=800000) (m:Nat):RdAll G l r m:=Gl6 hG hl m m (Nat.le_refl _)
end
section
variable {G:Nat->DVal} {l:List Tok}
def Fb6:Res Ex->DVal
 | .ok x k=> .tuple [dE x,dI k,dI 0]
 | .fail k=> .tuple [dE ex0,dI k,dI 30]
 | .bot=> .nilPtr
set_option maxHeartbeats 4000000 in
theorem Dk9 (hG:GX G) (H:Ac) (hl:l.length<=800000) (g:FuncId) (ad:Res Ex) (hn:ad≠ .bot) (hf: ∀r H,H r=some (rdO l 0)->Ag Tryz.prog G g [.optr r 0] H (RdR r l H (ad.mp dE))):
  Ag Tryz.prog G 66 [Bl l, .func (.func g) [] []] H (Ax (Fb6 ad) H):=by
 refine Ot Tryz.func66 Tryz.func177 Tryz.call66 Tryz.call177 rfl rfl (by kernel_rfl) (by kernel_rfl) rfl ?_;simp(disch:=omega)only[go_sem];intro C Y;dsimp only at Y;simp(disch:=omega)only[go_sem];intro D M;dsimp only at M;obtain⟨ap,a3,aq⟩:=Ba.1 M;simp(disch:=omega)only[go_sem];intro I S;dsimp only at S;have a5:upd (upd H C (some (.cells [.int .u8 0, .int .u8 0, .int .i64 0, .str [], .nilSlice, .nilSlice, .int .i64 0, .int .i64 0, .int .i64 0] 27))) D (some (.cells [dI 0] 3)) D=some (.cells [dI 0] 3):=Aa _ _ _;have a4:upd (upd H C (some (.cells [.int .u8 0, .int .u8 0, .int .i64 0, .str [], .nilSlice, .nilSlice, .int .i64 0, .int .i64 0, .int .i64 0] 27))) D (some (.cells [dI 0] 3)) C=some (.cells [.int .u8 0, .int .u8 0, .int .i64 0, .str [], .nilSlice, .nilSlice, .int .i64 0, .int .i64 0, .int .i64 0] 27):=Aj (Aa _ _ _) (Af M (Aa _ _ _));have U:D≠I:=Af S a5;have Z:C≠I:=Af S a4;have ah:C≠D:=Af M (Aa _ _ _);have ax:(Bl l).cells= [Bl l]:=rfl;simp(disch:=omega)only[go_sem,ax,jA,jB,jE,jJ,jI,jG];intro O V;dsimp only at V;have ae:C≠O:=Af V (Aj a4 Z);have aa:D≠O:=Af V (Aj a5 U);have ab:I≠O:=Af V (Aa _ _ _);have ar:H I=none:=((((Sub.refl H).new Y _).new M _).lo S);have au:H O=none:=(((((Sub.refl H).new Y _).new M _).new S _).lo V);have ay:=ae.symm;have a0:=aa.symm;have a1:=ab.symm;have av:=Z.symm;have aw:=U.symm;simp(disch:=omega)only[go_sem];refine(hf O _ (Aa _ _ _)).mono ?_;intro e J hq;have g4: ∀z,upd (upd (upd (upd (upd H C (some (.cells [.int .u8 0, .int .u8 0, .int .i64 0, .str [], .nilSlice, .nilSlice, .int .i64 0, .int .i64 0, .int .i64 0] 27))) D (some (.cells [dI 0] 3))) I (some (.cells [dI 0] 36))) O (some (rdO l 0))) O z C=some (.cells [.int .u8 0, .int .u8 0, .int .i64 0, .str [], .nilSlice, .nilSlice, .int .i64 0, .int .i64 0, .int .i64 0] 27):=fun z=>by
  rw[Am _ _ _ _ ae,Am _ _ _ _ ae,Am _ _ _ _ Z];exact a4
 cases hres:ad with
 | bot=>exact absurd hres hn
 | ok x k=>
  rw[hres] at hq;obtain⟨rfl,L⟩:=hq;have ai:=Ad x;have aj:=Bo x;have ac:J C=some (.cells [.int .u8 0, .int .u8 0, .int .i64 0, .str [], .nilSlice, .nilSlice, .int .i64 0, .int .i64 0, .int .i64 0] 27):=by rw[L];exact g4 _
  have af:J D=some (.cells [dI 0] 3):=by rw[L,Am _ _ _ _ aa,Am _ _ _ _ aa,Am _ _ _ _ U];exact a5
  have ag:J I=some (.cells [dI 0] 36):=by rw[L,Am _ _ _ _ ab,Am _ _ _ _ ab];exact Aa _ _ _
  have a2:J O=some (.cells [Bl l,dI k] 226):=by rw[L];exact Aa _ _ _
  have ak:Sub H J:=by rw[L];exact((((((Sub.refl H).new Y _).new M _).new S _).new V _).up au _)
  simp(disch:=omega)only[go_sem,dE,ac,ai,aj];refine Ak (by kernel_rfl) pL2 (by kernel_rfl) ?_;simp(disch:=omega)only[go_sem,ac,af,ag,a2,ah,Z,ae,U,aa,ab,ap,ay,a0,a1,av,aw,ai,aj];intro W E;dsimp only at E;obtain⟨K,hK⟩: ∃K,K=upd (upd (upd J C (some (.cells (dEx x) 27))) D (some (.cells [dI k] 3))) I (some (.cells [dI 0] 36)):=⟨_,rfl⟩;have X:Sub H K:=by rw[hK];exact((ak.up Y _).up aq _).up ar _
  have k4:K C=some (.cells (dEx x) 27):=by rw[hK];exact Aj (Aj (Aa _ _ _) ah) Z
  have k5:K D=some (.cells [dI k] 3):=by rw[hK];exact Aj (Aa _ _ _) U
  have k6:K I=some (.cells [dI 0] 36):=by rw[hK];exact Aa _ _ _
  rw[<-hK] at E⊢
  have al:C≠W:=Af E k4;have am:D≠W:=Af E k5;have ao:I≠W:=Af E k6;simp(disch:=omega)only[go_sem,k4,k5,k6,al,am,ao,ai,aj];exact Fa.sub (X.new E _) (.refl ⟨rfl,rfl⟩)
 | fail k=>
  rw[hres] at hq;obtain⟨rfl,L⟩:=hq;have ac:J C=some (.cells [.int .u8 0, .int .u8 0, .int .i64 0, .str [], .nilSlice, .nilSlice, .int .i64 0, .int .i64 0, .int .i64 0] 27):=by rw[L];exact g4 _
  have af:J D=some (.cells [dI 0] 3):=by rw[L,Am _ _ _ _ aa,Am _ _ _ _ aa,Am _ _ _ _ U];exact a5
  have ag:J I=some (.cells [dI 0] 36):=by rw[L,Am _ _ _ _ ab,Am _ _ _ _ ab];exact Aa _ _ _
  have ak:Sub H J:=by rw[L];exact((((((Sub.refl H).new Y _).new M _).new S _).new V _).up au _)
  simp(disch:=omega)only[go_sem,Ci4];intro W E;dsimp only at E;have al:C≠W:=Af E ac;have am:D≠W:=Af E af;have ao:I≠W:=Af E ag;simp(disch:=omega)only[go_sem,ac,af,ag,al,am,ao,ah,Z,U,ap,av,aw];have X:=fun x y z=>(((ak.new E x).up aq y).up ar z);exact Mh.fin (X _ _ _) (Mh.tuple (.cons (Mh.agg (Mh.ex (l:= []) (a:= []) (X _ _ _) (.exs0 (X _ _ _)) (.as0 (X _ _ _)))) (Lf.keep (X _ _ _) _))) ⟨rfl,rfl⟩
def Fb7:Res DVal->DVal
 | .ok v k=> .tuple [v,dI k,dI 0]
 | .fail k=> .tuple [.vslice [] 0,dI k,dI 30]
 | .bot=> .nilPtr
set_option maxHeartbeats 4000000 in
theorem Cw1 (hG:GX G) (H:Ac) (hl:l.length<=800000) (g:FuncId) (W:Res DVal) (hn:W≠ .bot) (hv: ∀v k,W= .ok v k->v.cells= [v]/\v.one=true) (hf: ∀r H,H r=some (rdO l 0)->Ag Tryz.prog G g [.optr r 0] H (RdR r l H W)):
  Ag Tryz.prog G 318 [Bl l, .func (.func g) [] []] H (Ax (Fb7 W) H):=by
 refine Ot Tryz.func318 Tryz.func324 Tryz.call318 Tryz.call324 rfl rfl (by kernel_rfl) (by kernel_rfl) rfl ?_;simp(disch:=omega)only[go_sem];intro E L;dsimp only at L;simp(disch:=omega)only[go_sem];intro D O;dsimp only at O;have M:E≠D:=Af O (Aa _ _ _);have af:=M.symm;have ai:(Bl l).cells= [Bl l]:=rfl;simp(disch:=omega)only[go_sem,ai,jA,jB,jE,jJ,jI,jG];intro X S;dsimp only at S;have U:E≠X:=Af S (Aj (Aa _ _ _) M);have V:D≠X:=Af S (Aa _ _ _);have ag:H D=none:=((Sub.refl H).new L _).lo O;have ah:H X=none:=(((Sub.refl H).new L _).new O _).lo S;have aj:=U.symm;have ak:=V.symm;simp(disch:=omega)only[go_sem];refine(hf X _ (Aa _ _ _)).mono ?_;intro e I hq;cases hres:W with
 | bot=>exact absurd hres hn
 | ok x k=>
  obtain⟨v1,v2⟩:=hv x k hres;rw[hres] at hq;obtain⟨rfl,J⟩:=hq;have aa:I E=some (.cells [dI 0] 3):=by rw[J,Am _ _ _ _ U,Am _ _ _ _ U,Am _ _ _ _ M];exact Aa _ _ _
  have ab:I D=some (.cells [dI 0] 36):=by rw[J,Am _ _ _ _ V,Am _ _ _ _ V];exact Aa _ _ _
  have al:I X=some (.cells [Bl l,dI k] 226):=by rw[J];exact Aa _ _ _
  have ac:Sub H I:=by rw[J];exact(((((Sub.refl H).new L _).new O _).new S _).up ah _)
  simp(disch:=omega)only[go_sem];refine Ak (by kernel_rfl) pL8 (by kernel_rfl) ?_;simp(disch:=omega)only[go_sem,aa,ab,al,M,U,V,aj,ak,af];intro Y C;dsimp only at C;obtain⟨K,hK⟩: ∃K,K=upd (upd I E (some (.cells [dI k] 3))) D (some (.cells [dI 0] 36)):=⟨_,rfl⟩;have Z:Sub H K:=by rw[hK];exact(ac.up L _).up ag _
  have k5:K E=some (.cells [dI k] 3):=by rw[hK];exact Aj (Aa _ _ _) M
  have k6:K D=some (.cells [dI 0] 36):=by rw[hK];exact Aa _ _ _
  rw[<-hK] at C⊢
  have ad:E≠Y:=Af C k5;have ae:D≠Y:=Af C k6;simp(disch:=omega)only[go_sem,k5,k6,ad,ae,v1,v2];exact Fa.sub (Z.new C _) (.refl ⟨rfl,rfl⟩)
 | fail k=>
  rw[hres] at hq;obtain⟨rfl,J⟩:=hq;have aa:I E=some (.cells [dI 0] 3):=by rw[J,Am _ _ _ _ U,Am _ _ _ _ U,Am _ _ _ _ M];exact Aa _ _ _
  have ab:I D=some (.cells [dI 0] 36):=by rw[J,Am _ _ _ _ V,Am _ _ _ _ V];exact Aa _ _ _
  have ac:Sub H I:=by rw[J];exact(((((Sub.refl H).new L _).new O _).new S _).up ah _)
  simp(disch:=omega)only[go_sem,Ci4];intro Y C;dsimp only at C;have ad:E≠Y:=Af C aa;have ae:D≠Y:=Af C ab;simp(disch:=omega)only[go_sem,aa,ab,ad,ae,M,af];have Z:=fun x y z=>(((ac.new C x).up L y).up ag z);exact Mh.fin (Z _ _ _) (Mh.tuple (.cons (Mh.nil (Z _ _ _)) (Lf.keep (Z _ _ _) _))) ⟨rfl,rfl⟩
end
end Go.Dl
