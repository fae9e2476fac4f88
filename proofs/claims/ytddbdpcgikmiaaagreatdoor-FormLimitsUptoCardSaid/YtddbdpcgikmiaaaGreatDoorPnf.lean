/- The data level and the contracts of the functions that are reached (part 6). -/
import Derived.Test.YtddbdpcgikmiaaaGreatDoorPne
set_option linter.unusedSimpArgs false
set_option linter.unusedVariables false
set_option linter.unusedSectionVars false
-- Chapter 3: the package's reader: express
namespace Go.Dl
open Go Go.Proofs
set_option maxRecDepth 100000
section
variable {G:Nat->DVal} {H0 H:Ac} {r k:Nat} {l:List Tok}
set_option maxHeartbeats 4000000 in
theorem Ed5 (hl:l.length<=800000) (p:PS) (hA:p.Adv l) (hs:RdC Tryz.prog G l 61 r fun k=>(p.simple k).mp dE) (aa: ∀x,Df9 Tryz.prog G l 164 r (.agg (dEx x)) fun k=>(p.rest x k).mp dE):RdC Tryz.prog G l 58 r fun k=>((Bl l p).expr k).mp dE:=by
 intro H k hr hk hn;dsimp only[Bl] at hn⊢
 refine Ab Tryz.func58 Tryz.call58 rfl (by kernel_rfl) ?_;simp(disch:=omega)only[go_sem];intro D J;dsimp only at J;obtain⟨V,O⟩: ∃K,K=upd H D (some (.cells [.int .u8 0, .int .u8 0, .int .i64 0, .str [], .nilSlice, .nilSlice, .int .i64 0, .int .i64 0, .int .i64 0] 27)):=⟨_,rfl⟩;rw[<-O];have ab:V D=some (.cells [.int .u8 0, .int .u8 0, .int .i64 0, .str [], .nilSlice, .nilSlice, .int .i64 0, .int .i64 0, .int .i64 0] 27):=by rw[O];exact Aa _ _ _
 have n2:r≠D:=Ae J hr;have q2:=n2.symm;have ha:RAt r l k H V:=by rw[O];exact(RAt.refl hr).new J _
 simp(disch:=omega)only[go_sem];have E:=hs _ k ha.get hk;have W:=hA.simple k hk;dsimp only at E;cases hpr:p.simple k with
 | bot=>rw[hpr] at hn;exact absurd rfl hn
 | fail C=>
  rw[hpr] at E;refine(E (Cf (by simp))).mono ?_;rintro e L ⟨rfl,rfl⟩;simp(disch:=omega)only[go_sem];exact RAt.finP (ha.set C) ⟨rfl,rfl⟩
 | ok x C=>
  rw[hpr] at E hn W;refine(E (Cf (by simp))).mono ?_;rintro e L ⟨rfl,X⟩;have S:RAt r l C H L:=by rw[X];exact ha.set C
  dsimp only[Res.then,Adv] at hn W⊢
  have g3:L D=some (.cells [.int .u8 0, .int .u8 0, .int .i64 0, .str [], .nilSlice, .nilSlice, .int .i64 0, .int .i64 0, .int .i64 0] 27):=by rw[X];exact An ab q2
  simp(disch:=omega)only[go_sem,dE];have Y:p.rest x C≠ .bot:=fun h=>hn (by rw[h];rfl);have I:=aa x L C S.get (by omega) (Cf Y);dsimp only at I;cases hpc:p.rest x C with
  | bot=>exact absurd hpc Y
  | fail M=>
   rw[hpc] at I;refine I.mono ?_;rintro e U ⟨rfl,rfl⟩;simp(disch:=omega)only[go_sem];exact RAt.finP (S.set M) ⟨rfl,rfl⟩
  | ok y M=>
   rw[hpc] at I;refine I.mono ?_;rintro e U ⟨rfl,Z⟩;have ac:RAt r l M H U:=by rw[Z];exact S.set M
   have g4:U D=some (.cells [.int .u8 0, .int .u8 0, .int .i64 0, .str [], .nilSlice, .nilSlice, .int .i64 0, .int .i64 0, .int .i64 0] 27):=by rw[Z];exact An g3 q2
   have ad:=Ad y;have ae:=Bo y;simp(disch:=omega)only[go_sem,dE,g4,ad,ae];exact RAt.fin (ac.own J q2 _) ⟨rfl,rfl⟩
theorem Ed6 {os:List Nat} (h:(opF l 0 k os).1≠0):opF l (opF l 0 k os).1 k os=opF l 0 k os:=by
 have key: ∀ {os:List Nat} {w:Nat},(opF l 0 k os).1=w->w≠0->opF l w k os=opF l 0 k os:=by
  intro os w hw h
  induction os with
  | nil=>rfl
  | cons o m ih=>
   simp only[opF] at hw⊢
   by_cases hi:isW l k (Bd o)=true
   ·simp only[hi,if_true,ne_eq,not_true_eq_false,false_and,if_false] at hw⊢
    rw[if_neg (by rintro⟨_,h2⟩;exact h2 hw)]
   ·simp only[hi,if_false,Bool.false_eq_true] at hw⊢
    exact ih hw
 exact key rfl h
set_option maxHeartbeats 4000000 in
theorem Ed7 (hG:GX G) (hl:l.length<=800000) (n:Nat) (hs: ∀m≤n,RdC Tryz.prog G l 61 r fun k=>((P l m).simple k).mp dE) (aw: ∀m≤n,∀x,Df9 Tryz.prog G l 60 r (.agg (dEx x)) fun k=>((P l m).relation x k).mp dE) (x:Ex):Df9 Tryz.prog G l 164 r (.agg (dEx x)) fun k=>((P l (n+1)).rest x k).mp dE:=by
 intro H k hr hk hn;have e:(P l (n+1)).rest x k=((P l n).relation x k).then fun x k=>(P l n).restL (opF l 0 k Fp).1 x k:=rfl
 dsimp only at hn⊢
 rw[e] at hn⊢
 refine Ab Tryz.func164 Tryz.call164 rfl (by kernel_rfl) ?_;simp(disch:=omega)only[go_sem,DVal.cells];intro E aa;dsimp only at aa;obtain⟨Hb,al⟩: ∃K,K=upd H E (some (.cells (dEx x) 27)):=⟨_,rfl⟩;rw[<-al];have ax:Hb E=some (.cells (dEx x) 27):=by rw[al];exact Aa _ _ _
 have n3:r≠E:=Ae aa hr;have W:=n3.symm;simp(disch:=omega)only[go_sem,DVal.cells];intro J ab;dsimp only at ab;obtain⟨Ha,ag⟩: ∃K,K=upd Hb J (some (.cells [.int .u8 0, .int .u8 0, .int .i64 0, .str [], .nilSlice, .nilSlice, .int .i64 0, .int .i64 0, .int .i64 0] 27)):=⟨_,rfl⟩;rw[<-ag];have a7:Ha J=some (.cells [.int .u8 0, .int .u8 0, .int .i64 0, .str [], .nilSlice, .nilSlice, .int .i64 0, .int .i64 0, .int .i64 0] 27):=by rw[ag];exact Aa _ _ _
 have am:RAt r l k H Hb:=by rw[al];exact(RAt.refl hr).new aa _
 have n4:r≠J:=Ae ab am.get;have Z:=n4.symm;have m3:E≠J:=Ae ab ax;have m4:=m3.symm;have a8:H J=none:=am.lo ab;have ha:RAt r l k H Ha:=by rw[ag];exact am.new ab _
 have g3:Ha E=some (.cells (dEx x) 27):=by rw[ag];exact An ax m3
 have a9:=Ad x;simp(disch:=omega)only[go_sem,g3];have ac:=aw n (Nat.le_refl _) x _ k ha.get hk;have ah:=(Jz (l:=l) n).relation x k hk;dsimp only at ac;cases hpr:(P l n).relation x k with
 | bot=>rw[hpr] at hn;exact absurd rfl hn
 | fail D=>
  rw[hpr] at ac;refine(ac (Cf (by simp))).mono ?_;rintro e H3 ⟨rfl,rfl⟩;simp(disch:=omega)only[go_sem];exact RAt.finP (ha.set D) ⟨rfl,rfl⟩
 | ok L D=>
  rw[hpr] at ac hn ah;refine(ac (Cf (by simp))).mono ?_;rintro e H3 ⟨rfl,ao⟩;have ba:RAt r l D H H3:=by rw[ao];exact ha.set D
  dsimp only[Res.then,Adv] at hn ah⊢
  have bb:H3 E=some (.cells (dEx x) 27):=by rw[ao];exact An g3 W
  have bc:H3 J=some (.cells [.int .u8 0, .int .u8 0, .int .i64 0, .str [], .nilSlice, .nilSlice, .int .i64 0, .int .i64 0, .int .i64 0] 27):=by rw[ao];exact An a7 Z
  have bd:=Ad L;have be:=Bo L;have bf:(dEx x).drop 9= []:=List.drop_eq_nil_of_le (by omega);simp(disch:=omega)only[go_sem,dE,bb,bd,be,a9,bf];obtain⟨Hc,ai⟩: ∃K,K=upd H3 E (some (.cells (dEx L) 27)):=⟨_,rfl⟩;rw[<-ai];have ay:RAt r l D H Hc:=by rw[ai];exact ba.own aa W _
  have bg:Hc E=some (.cells (dEx L) 27):=by rw[ai];exact Aa _ _ _
  have bh:Hc J=some (.cells [.int .u8 0, .int .u8 0, .int .i64 0, .str [], .nilSlice, .nilSlice, .int .i64 0, .int .i64 0, .int .i64 0] 27):=by rw[ai];exact An bc m4
  refine(Dq1 hG _ 0 ay.get hl ah.2).mono ?_;rintro _ H5 ⟨rfl,ad⟩;obtain⟨o,ho⟩: ∃o,o=(opF l 0 D Fp).1:=⟨_,rfl⟩;obtain⟨q,hq⟩: ∃q:Nat->Nat×Nat,∀k,q k=if o=0 then(0,k) else opF l o k Fp:=⟨_,fun _=>rfl⟩
  have bi: ∀k,k<=l.length->((q k).1=0->(q k).2=k)/\((q k).1≠0->k+1<=(q k).2)/\(q k).2<=l.length:=by
   intro k hk;rw[hq];by_cases c:o=0
   ·rw[if_pos c];exact⟨fun _=>rfl,fun h=>absurd rfl h,hk⟩
   ·rw[if_neg c];have:=Ej (want:=o) (os:=Fp) (k:=k) (l:=l) Gp7.1 hk;exact⟨this.1,this.2.1,this.2.2.1⟩
  have hL: ∀m x k,(P l (m+1)).restL o x k=if(q k).1=0 then .ok x k else((P l m).simple (q k).2).then fun y k=>((P l m).relation y k).then fun y k=>(P l m).restL o (both o x y) k:=by
   intro m x k;have:(P l (m+1)).restL o x k=if o=0 then .ok x k else if(opF l o k Fp).1=0 then .ok x k else((P l m).simple (opF l o k Fp).2).then fun y k=>((P l m).relation y k).then fun y k=>(P l m).restL o (both o x y) k:=rfl
   rw[this,hq];by_cases c:o=0
   ·rw[if_pos c,if_pos c,if_pos rfl]
   ·rw[if_neg c,if_neg c]
  have ap:(opF l 0 D Fp)=(o,(q D).2)/\(q D).1=o:=by
   rw[hq];by_cases c:o=0
   ·have h0:=Ej (want:=0) (os:=Fp) (k:=D) (l:=l) Gp7.1 ah.2;rw[if_pos c];exact⟨Prod.ext ho.symm (h0.1 (ho▸c)),c.symm⟩
   ·have h0:=Ed6 (l:=l) (k:=D) (os:=Fp) (ho▸c);rw[<-ho] at h0;rw[if_neg c,h0];exact⟨Prod.ext ho.symm rfl,ho.symm⟩
  rw[ap.1] at hn⊢
  rw[ap.1] at ad;dsimp only at hn ad⊢
  have aj:(P l n).restL o L D≠ .bot:=fun h=>hn (by rw[h];rfl);obtain⟨n',rfl⟩: ∃n',n=n'+1:=by
   cases n with
   | zero=>exact absurd rfl aj
   | succ n'=>exact⟨n',rfl⟩
  have bu:RAt r l (q D).2 H H5:=by rw[ad];exact ay.set _
  have bv:H5 E=some (.cells (dEx L) 27):=by rw[ad];exact An bg W
  have bw:H5 J=some (.cells [.int .u8 0, .int .u8 0, .int .i64 0, .str [], .nilSlice, .nilSlice, .int .i64 0, .int .i64 0, .int .i64 0] 27):=by rw[ad];exact An bh Z
  simp(disch:=omega)only[go_sem];obtain⟨I,hI⟩: ∃I:Nat×Ex×Nat->(Nat->DVal)->Ac->Prop,∀s env heap,I s env heap↔(env 0= .optr r 0/\env 3= .optr E 0/\env 4= .optr J 0/\env 5= .int .u8 o/\env 6= .int .u8 (q s.2.2).1/\s.2.2<=l.length/\s.1<=n'/\(P l (s.1+1)).restL o s.2.1 s.2.2=(P l (n'+1)).restL o L D/\RAt r l (q s.2.2).2 H heap/\heap E=some (.cells (dEx s.2.1) 27)/\heap J=some (.cells [.int .u8 0, .int .u8 0, .int .i64 0, .str [], .nilSlice, .nilSlice, .int .i64 0, .int .i64 0, .int .i64 0] 27)):=⟨_,fun _ _ _=>Iff.rfl⟩;refine Dn5.run I (fun s=>s.1) (n',L,D) ((hI _ _ _).2 ?_) ?_
  ·simp(disch:=omega)only[go_sem,ap.2];(repeat' apply And.intro)<;>(try first | rfl | assumption | omega)
   done
  ·rintro⟨m,y,k1⟩ env heap bj;obtain⟨M,O,S,U,V,a0,hm,C,X,g6,gx⟩:=(hI _ _ _).1 bj;dsimp only at V a0 hm C X g6;rw[hL] at C;have a1:=bi k1 a0;obtain⟨o1,ak⟩: ∃o1,o1=(q k1).1:=⟨_,rfl⟩;obtain⟨k2,a2⟩: ∃k2,k2=(q k1).2:=⟨_,rfl⟩;rw[<-ak,<-a2] at C a1;rw[<-ak] at V;rw[<-a2] at X;by_cases c:o1=0
   ·have c':(o1:Int)=0:=by omega
    rw[if_pos c] at C;have bk:k2=k1:=a1.1 c;rw[bk] at X;simp(disch:=omega)only[go_sem,M,O,S,U,V,c',g6,gx];rw[<-C];exact RAt.fin (X.own a8 Z _) ⟨rfl,rfl⟩
   ·have c': ¬(o1:Int)=0:=by omega
    rw[if_neg c] at C;simp(disch:=omega)only[go_sem,M,O,S,U,V,c'];refine Aj (by kernel_rfl) (.take 0 (.take 1 (.take 2 (.take 3 (.go 4 [1] (.go 5 [1] (.go 6 [] (.go 7 [] .done)))))))) (by kernel_rfl) ?_;simp(disch:=omega)only[go_sem,M,O,S,U,V,g6];have bl:o≠0:=by
     intro h0;rw[hq,if_pos h0] at ak;exact c ak
    have bm: ∀k,q k=opF l o k Fp:=fun k=>by rw[hq,if_neg bl]
    have ae:=hs m (by omega) heap k2 X.get (by omega);have a3:=(Jz (l:=l) m).simple k2 (by omega);dsimp only at ae;cases hp1:(P l m).simple k2 with
    | bot=>rw[hp1] at C;exact absurd C.symm aj
    | fail Y=>
     rw[hp1] at ae C;refine(ae (Cf (by simp))).mono ?_;rintro e H6 ⟨rfl,rfl⟩;simp(disch:=omega)only[go_sem];rw[<-C];exact RAt.finP (X.set Y) ⟨rfl,rfl⟩
    | ok y1 Y=>
     rw[hp1] at ae C a3;dsimp only[Res.then,Adv] at C a3;refine(ae (Cf (by simp))).mono ?_;rintro e H6 ⟨rfl,aq⟩;have ar:RAt r l Y H H6:=by rw[aq];exact X.set Y
     have au:H6 E=some (.cells (dEx y) 27):=by rw[aq];exact An g6 W
     have bn:H6 J=some (.cells [.int .u8 0, .int .u8 0, .int .i64 0, .str [], .nilSlice, .nilSlice, .int .i64 0, .int .i64 0, .int .i64 0] 27):=by rw[aq];exact An gx Z
     simp(disch:=omega)only[go_sem,M,O,S,U,V,dE,g6,au];have af:=aw m (by omega) y1 H6 Y ar.get (by omega);have a4:=(Jz (l:=l) m).relation y1 Y (by omega);dsimp only at af;cases hp2:(P l m).relation y1 Y with
     | bot=>rw[hp2] at C;exact absurd C.symm aj
     | fail k5=>
      rw[hp2] at af C;refine(af (Cf (by simp))).mono ?_;rintro e H7 ⟨rfl,rfl⟩;simp(disch:=omega)only[go_sem];rw[<-C];exact RAt.finP (ar.set k5) ⟨rfl,rfl⟩
     | ok y2 k5=>
      rw[hp2] at af C a4;dsimp only[Res.then,Adv] at C a4;refine(af (Cf (by simp))).mono ?_;rintro e H7 ⟨rfl,av⟩;have bo:RAt r l k5 H H7:=by rw[av];exact ar.set k5
      have a5:H7 E=some (.cells (dEx y) 27):=by rw[av];exact An au W
      have bp:H7 J=some (.cells [.int .u8 0, .int .u8 0, .int .i64 0, .str [], .nilSlice, .nilSlice, .int .i64 0, .int .i64 0, .int .i64 0] 27):=by rw[av];exact An bn Z
      simp(disch:=omega)only[go_sem,M,O,S,U,V,dE,au,a5];refine(Av5 G _ o y y2).mono ?_;rintro _ H8 ⟨rfl,rfl⟩;have bq:=Ad (both o y y2);have br:=Bo (both o y y2);have bs:=Ad y;have bt:(dEx y).drop 9= []:=List.drop_eq_nil_of_le (by omega);simp(disch:=omega)only[go_sem,M,O,S,U,V,a5,bq,br,bs,bt];have a6:RAt r l k5 H (upd H8 E (some (.cells (dEx (both o y y2)) 27))):=bo.own aa W _;refine(Dq1 hG _ o a6.get hl (by omega)).mono ?_;rintro _ H9 ⟨rfl,rfl⟩;rw[<-bm];obtain⟨m',rfl⟩: ∃m',m=m'+1:=by
       cases m with
       | zero=>exact absurd C.symm aj
       | succ m'=>exact⟨m',rfl⟩
      simp(disch:=omega)only[go_sem,M,O,S,U];refine⟨(m',both o y y2,k5),_,Ri.refl _,(hI _ _ _).2 ?_,by dsimp only;omega⟩;simp(disch:=omega)only[go_sem,M,O,S,U,W,Z,m3,m4,bp,C];(repeat' apply And.intro)<;>(try first | rfl | assumption | omega);exact a6.set _
end
section
variable {G:Nat->DVal} {H0 H:Ac} {r k:Nat} {l:List Tok}
set_option maxHeartbeats 4000000 in
theorem Ce9 (hG:GX G) (hl:l.length<=800000) (p:PS) (aj:RdC Tryz.prog G l 173 r fun k=>(p.paren k).mp dE) (ak:RdC Tryz.prog G l 65 r fun k=>(p.name k).mp dE):RdC Tryz.prog G l 64 r fun k=>((Bl l p).primary k).mp dE:=by
 intro H k hr hk hn;dsimp only[Bl] at hn⊢
 obtain⟨t,ht⟩: ∃t,t=tk l k:=⟨_,rfl⟩;rw[<-ht] at hn⊢
 have hw:IntKind.i64.wrap ((k:Int)+1)=((k+1:Nat):Int):=by rw[IntKind.wrap_i64];omega
 refine Ab Tryz.func64 Tryz.call64 rfl (by kernel_rfl) ?_;simp(disch:=omega)only[go_sem];intro I J;dsimp only at J;obtain⟨Ha,Z⟩: ∃K,K=upd H I (some (.cells [.int .u8 0, .int .u8 0, .int .i64 0, .str [], .nilSlice, .nilSlice, .int .i64 0, .int .i64 0, .int .i64 0] 27)):=⟨_,rfl⟩;rw[<-Z];have af:Ha I=some (.cells [.int .u8 0, .int .u8 0, .int .i64 0, .str [], .nilSlice, .nilSlice, .int .i64 0, .int .i64 0, .int .i64 0] 27):=by rw[Z];exact Aa _ _ _
 have n2:r≠I:=Ae J hr;have q2:=n2.symm;have ha:RAt r l k H Ha:=by rw[Z];exact(RAt.refl hr).new J _
 simp(disch:=omega)only[go_sem];refine(Zu G _ ha.get (by omega) (by omega)).mono ?_;rintro _ H1 ⟨rfl,rfl⟩;rw[<-ht];simp(disch:=omega)only[go_sem];intro O V;dsimp only at V;have aa:I≠O:=Ae V af;have al:=aa.symm;have n3:r≠O:=Ae V ha.get;have q3:=n3.symm;simp(disch:=omega)only[go_sem,Cy];obtain⟨Hc,W⟩: ∃K,K=upd H1 O (some (.cells [.int .u8 t.kind,dI t.line, .str t.text,dI t.n] 31)):=⟨_,rfl⟩;rw[<-W];have h:RAt r l k H Hc:=by rw[W];exact ha.new V _
 have S:Hc I=some (.cells [.int .u8 0, .int .u8 0, .int .i64 0, .str [], .nilSlice, .nilSlice, .int .i64 0, .int .i64 0, .int .i64 0] 27):=by rw[W];exact An af aa
 have ab:Hc O=some (.cells [.int .u8 t.kind,dI t.line, .str t.text,dI t.n] 31):=by rw[W];exact Aa _ _ _
 have ag:=h.get;unfold rdO at ag;by_cases c:t.kind=3
 ·rw[if_pos c] at hn⊢
  simp(disch:=omega)only[go_sem,ab,c,ag,hw,n3,n2,q3,q2,S,aa,al];have D:=fun y=>(h.set (k+1)).own J q2 y;exact Lt.fin (D _) (Lt.agg (Lt.ex (D _) (.exs0 (D _)) (.as0 (D _)))) ⟨rfl,rfl⟩
 ·rw[if_neg c] at hn⊢
  simp(disch:=omega)only[go_sem,ab,c,S];intro w1 ah;dsimp only at ah;simp(disch:=omega)only[go_sem];refine(Av3 hG _ w1 Ez ah h.get (by omega) (by omega)).mono ?_;rintro _ H2 ⟨rfl,L⟩;by_cases X:isW l k [Ez]=true
  ·rw[if_pos X] at hn L⊢
   have am:RAt r l (k+1) H H2:=by rw[L];exact h.set _
   have ao:H2 I=some (.cells [.int .u8 0, .int .u8 0, .int .i64 0, .str [], .nilSlice, .nilSlice, .int .i64 0, .int .i64 0, .int .i64 0] 27):=by rw[L];exact An S q2
   have ap:H2 O=some (.cells [.int .u8 t.kind,dI t.line, .str t.text,dI t.n] 31):=by rw[L];exact An ab q3
   simp(disch:=omega)only[go_sem,X,ao,ap];have D:=fun y=>am.own J q2 y;exact Lt.fin (D _) (Lt.agg (Lt.ex (D _) (.exs0 (D _)) (.as0 (D _)))) ⟨rfl,rfl⟩
  ·have aq:isW l k [Ez]=false:=by simpa using X
   rw[if_neg X] at hn L⊢
   rw[Dv h.get] at L;subst L;simp(disch:=omega)only[go_sem,aq];intro w2 ai;dsimp only at ai;simp(disch:=omega)only[go_sem];refine(is1 hG _ w2 Bi ai h.get (by omega) (by omega)).mono ?_;rintro _ H3 ⟨rfl,rfl⟩;by_cases Y:isW l k [Bi]=true
   ·rw[if_pos Y] at hn⊢
    simp(disch:=omega)only[go_sem,Y];have C:=aj _ k h.get hk;dsimp only at C;cases hpr:p.paren k with
    | bot=>rw[hpr] at hn;exact absurd rfl hn
    | fail E=>
     rw[hpr] at C;refine(C (Cf (by simp))).mono ?_;rintro e M ⟨rfl,rfl⟩;simp(disch:=omega)only[go_sem];exact RAt.finP (h.set E) ⟨rfl,rfl⟩
    | ok y E=>
     rw[hpr] at C;refine(C (Cf (by simp))).mono ?_;rintro e M ⟨rfl,U⟩;have ac:RAt r l E H M:=by rw[U];exact h.set E
     have g4:M I=some (.cells [.int .u8 0, .int .u8 0, .int .i64 0, .str [], .nilSlice, .nilSlice, .int .i64 0, .int .i64 0, .int .i64 0] 27):=by rw[U];exact An S q2
     have ad:=Ad y;have ae:=Bo y;simp(disch:=omega)only[go_sem,dE,g4,ad,ae];exact RAt.fin (ac.own J q2 _) ⟨rfl,rfl⟩
   ·have ar:isW l k [Bi]=false:=by simpa using Y
    rw[if_neg Y] at hn⊢
    simp(disch:=omega)only[go_sem,ar];have C:=ak _ k h.get hk;dsimp only at C;cases hpr:p.name k with
    | bot=>rw[hpr] at hn;exact absurd rfl hn
    | fail E=>
     rw[hpr] at C;refine(C (Cf (by simp))).mono ?_;rintro e M ⟨rfl,rfl⟩;simp(disch:=omega)only[go_sem];exact RAt.finP (h.set E) ⟨rfl,rfl⟩
    | ok y E=>
     rw[hpr] at C;refine(C (Cf (by simp))).mono ?_;rintro e M ⟨rfl,U⟩;have ac:RAt r l E H M:=by rw[U];exact h.set E
     have g4:M I=some (.cells [.int .u8 0, .int .u8 0, .int .i64 0, .str [], .nilSlice, .nilSlice, .int .i64 0, .int .i64 0, .int .i64 0] 27):=by rw[U];exact An S q2
     have ad:=Ad y;have ae:=Bo y;simp(disch:=omega)only[go_sem,dE,g4,ad,ae];exact RAt.fin (ac.own J q2 _) ⟨rfl,rfl⟩
end
def dC (c:Ch):DVal:= .agg (dCh c)
def dA (a:As):DVal:= .agg (dAs a)
section
variable {G:Nat->DVal} {H0 H H':Ac} {r k:Nat} {l:List Tok}
theorem Lt.choice {y:Int} {v:DVal} {m:List Ex} (hs:Sub H H') (h:Lt H' v H (dXs m)):Kq H' [.int .u8 y,v] H (dCh (.mk y m)):=by
 rw[Au6];exact .cons (.keep hs _) (.cons h .nil)
set_option maxHeartbeats 4000000 in
theorem Cs0 (hG:GX G) (hl:l.length<=800000) (p:PS) (hA:p.Adv l) (hs:RdC Tryz.prog G l 61 r fun k=>(p.simple k).mp dE) (a0: ∀x,Df9 Tryz.prog G l 164 r (.agg (dEx x)) fun k=>(p.rest x k).mp dE):RdC Tryz.prog G l 294 r fun k=>((Bl l p).choice k).mp dC:=by
 intro H k hr hk hn;dsimp only[Bl] at hn⊢
 refine Ab Tryz.func294 Tryz.call294 rfl (by kernel_rfl) ?_;simp(disch:=omega)only[go_sem];intro D M;dsimp only at M;obtain⟨Ha,ah⟩: ∃K,K=upd H D (some (.cells [.int .u8 0, .nilSlice] 47)):=⟨_,rfl⟩;rw[<-ah];have al:Ha D=some (.cells [.int .u8 0, .nilSlice] 47):=by rw[ah];exact Aa _ _ _
 have n2:r≠D:=Ae M hr;have q2:=n2.symm;have ha:RAt r l k H Ha:=by rw[ah];exact(RAt.refl hr).new M _
 simp(disch:=omega)only[go_sem];intro w1 am;dsimp only at am;simp(disch:=omega)only[go_sem];refine(Av3 hG _ w1 Lf am ha.get (by omega) (by omega)).mono ?_;rintro _ H2 ⟨rfl,O⟩;by_cases c:isW l k [Lf]=true
 ·rw[if_pos c] at hn O⊢
  have a1:RAt r l (k+1) H H2:=by rw[O];exact ha.set _
  have g2:H2 D=some (.cells [.int .u8 0, .nilSlice] 47):=by rw[O];exact An al q2
  simp(disch:=omega)only[go_sem,c,g2];have E:=fun y=>a1.own M q2 y;exact Lt.fin (E _) (Lt.agg (Lt.choice (E _) (.exs0 (E _)))) ⟨rfl,rfl⟩
 ·have c':isW l k [Lf]=false:=by simpa using c
  rw[if_neg c] at hn O⊢
  rw[Dv ha.get] at O;subst O;simp(disch:=omega)only[go_sem,c'];have W:=hs _ k ha.get hk;have ae:=hA.simple k hk;dsimp only at W;cases hpr:p.simple k with
  | bot=>rw[hpr] at hn;exact absurd rfl hn
  | fail C=>
   rw[hpr] at W;refine(W (Cf (by simp))).mono ?_;rintro e H3 ⟨rfl,rfl⟩;simp(disch:=omega)only[go_sem];exact RAt.finP (ha.set C) ⟨rfl,rfl⟩
  | ok x C=>
   rw[hpr] at W hn ae;refine(W (Cf (by simp))).mono ?_;rintro e H3 ⟨rfl,ao⟩;have ap:RAt r l C H H3:=by rw[ao];exact ha.set C
   dsimp only[Res.then,Adv] at hn ae⊢
   have g3:H3 D=some (.cells [.int .u8 0, .nilSlice] 47):=by rw[ao];exact An al q2
   have ai:=Ad x;have a2:=Bo x;simp(disch:=omega)only[go_sem,dE];intro S af;dsimp only at af;have aq:D≠S:=Ae af g3;have a6:=aq.symm;have n3:r≠S:=Ae af ap.get;have q3:=n3.symm;simp(disch:=omega)only[go_sem,ai,a2];obtain⟨Hc,ag⟩: ∃K,K=upd H3 S (some (.cells (dEx x) 27)):=⟨_,rfl⟩;rw[<-ag];have U:RAt r l C H Hc:=by rw[ag];exact ap.new af _
   have ar:Hc D=some (.cells [.int .u8 0, .nilSlice] 47):=by rw[ag];exact An g3 aq
   have au:Hc S=some (.cells (dEx x) 27):=by rw[ag];exact Aa _ _ _
   intro w2 av;dsimp only at av;simp(disch:=omega)only[go_sem];refine(Av3 hG _ w2 Ev av U.get (by omega) (by omega)).mono ?_;rintro _ H4 ⟨rfl,L⟩;by_cases X:isW l C [Ev]=true
   ·rw[if_pos X] at hn L⊢
    have aj:RAt r l (C+1) H H4:=by rw[L];exact U.set _
    have a3:H4 D=some (.cells [.int .u8 0, .nilSlice] 47):=by rw[L];exact An ar q2
    have ak:H4 S=some (.cells (dEx x) 27):=by rw[L];exact An au q3
    have aw:=Bf X ae.2;rw[jQ] at aw;simp(disch:=omega)only[go_sem,X];refine Aj (by kernel_rfl) (.take 0 (.take 1 (.go 2 [0] (.go 3 [] (.take 4 (.go 5 [] .done)))))) (by kernel_rfl) ?_;simp(disch:=omega)only[go_sem,ak];have hp2:=hs _ (C+1) aj.get aw;dsimp only at hp2;cases hpr2:p.simple (C+1) with
    | bot=>rw[hpr2] at hn;exact absurd rfl hn
    | fail k5=>
     rw[hpr2] at hp2;refine(hp2 (Cf (by simp))).mono ?_;rintro e J ⟨rfl,rfl⟩;simp(disch:=omega)only[go_sem];exact RAt.finP (aj.set k5) ⟨rfl,rfl⟩
    | ok y k5=>
     rw[hpr2] at hp2;refine(hp2 (Cf (by simp))).mono ?_;rintro e J ⟨rfl,V⟩;have Y:RAt r l k5 H J:=by rw[V];exact aj.set k5
     have Z:J D=some (.cells [.int .u8 0, .nilSlice] 47):=by rw[V];exact An a3 q2
     have a4:J S=some (.cells (dEx x) 27):=by rw[V];exact An ak q3
     have aa:=Ad y;dsimp only[Res.then];simp(disch:=omega)only[go_sem,dE,ak,a4];rw[Ap ai aa];simp(disch:=omega)only[go_sem];intro r7 I;dsimp only at I;have ab:D≠r7:=Ae I Z;have ac:=ab.symm;simp(disch:=omega)only[go_sem,Z,ab,ac];have ax: [x,y].flatMap dEx=dEx x++dEx y:=by simp
     have E:=fun z=>(Y.new I (some (.cells (dEx x++dEx y) 27))).own M q2 z;refine Lt.fin (E _) (Lt.agg (Lt.choice (m:= [x,y]) (E _) (Lt.block (e:=27) (E _) (Sub.lo Y I) ?_ ?_))) ⟨rfl,rfl⟩
     ·rw[ax];simp [upd,ac]
     ·rw[ax,jC,ai,aa]
   ·have a5:isW l C [Ev]=false:=by simpa using X
    rw[if_neg X] at hn L⊢
    rw[Dv U.get] at L;subst L;simp(disch:=omega)only[go_sem,a5,au];have ay:p.rest x C≠ .bot:=fun h=>hn (by rw[h];rfl);have ad:=a0 x _ C U.get ae.2 (Cf ay);dsimp only at ad;cases hpc:p.rest x C with
    | bot=>exact absurd hpc ay
    | fail k4=>
     rw[hpc] at ad;refine ad.mono ?_;rintro e J ⟨rfl,rfl⟩;simp(disch:=omega)only[go_sem];exact RAt.finP (U.set k4) ⟨rfl,rfl⟩
    | ok y k4=>
     rw[hpc] at ad;refine ad.mono ?_;rintro e J ⟨rfl,V⟩;have Y:RAt r l k4 H J:=by rw[V];exact U.set k4
     have Z:J D=some (.cells [.int .u8 0, .nilSlice] 47):=by rw[V];exact An ar q2
     have aa:=Ad y;dsimp only[Res.then];simp(disch:=omega)only[go_sem,dE];rw[Ai aa];simp(disch:=omega)only[go_sem];intro r7 I;dsimp only at I;have ab:D≠r7:=Ae I Z;have ac:=ab.symm;simp(disch:=omega)only[go_sem,Z,ab,ac];have E:=fun z=>(Y.new I (some (.cells (dEx y) 27))).own M q2 z;refine Lt.fin (E _) (Lt.agg (Lt.choice (m:= [y]) (E _) (Lt.block (e:=27) (E _) (Sub.lo Y I) ?_ ?_))) ⟨rfl,rfl⟩
     ·rw[List.flatMap_singleton];simp [upd,ac]
     ·rw[List.flatMap_singleton,aa]
end
section
variable {G:Nat->DVal} {H0 H H':Ac} {r k:Nat} {l:List Tok}
theorem Jf.move {H H':Ac} {e:TypeId} {size n:Nat} {cs:List DVal} {v:DVal} {r:Nat} {o:DObj} (h:Jf (upd H r (some o)) e size n cs v H') (y:Option DObj):Jf (upd H r y) e size n cs v (upd H' r y):=by
 have C: ∀ {K:Ac},Sub (upd H r (some o)) K->Sub (upd H r y) (upd K r y):=fun s b ob hb=>by
  simp only[upd] at hb⊢
  by_cases c:b=r
  ·rw[if_pos c] at hb⊢;exact hb
  ·rw[if_neg c] at hb⊢
   exact s b ob (by simp only[upd];rw[if_neg c];exact hb)
 rcases h with⟨a,b,c,d⟩ | ⟨q,h1,h2,h3,h4,h5⟩
 ·exact .inl ⟨a,b,c,C d⟩
 ·have hq:q≠r:=fun e=>by rw[e,Aa] at h1;cases h1
  exact .inr ⟨q,by rw[Ak _ _ _ _ hq] at h1⊢;exact h1,h2,h3,by rw[Ak _ _ _ _ hq];exact h4,C h5⟩
theorem Cs1 {x:List DVal} (hx:x.length=10):
  (if 10<=(Cc 1 [DVal.nilSlice,DVal.int .u8 0,DVal.int .u8 0,DVal.int .i64 0,DVal.str [],DVal.nilSlice,DVal.nilSlice,DVal.int .i64 0,DVal.int .i64 0,DVal.int .i64 0]).length then some (x++List.drop 10 (Cc 1 [DVal.nilSlice,DVal.int .u8 0,DVal.int .u8 0,DVal.int .i64 0,DVal.str [],DVal.nilSlice,DVal.nilSlice,DVal.int .i64 0,DVal.int .i64 0,DVal.int .i64 0])) else none)=some x:=by
 have e: ∀u:List DVal,Cc 1 u=u:=fun u=>by simp [Cc]
 rw[e,if_pos (by simp),List.drop_eq_nil_of_le (by simp),jH]
def Bl5 (H:Ac) (l:List As) (v:DVal) (H':Ac):Prop:=Jf H 44 10 l.length (l.flatMap dAs) v H'
set_option maxHeartbeats 4000000 in
theorem Bx6 (hG:GX G) (hl:l.length<=800000) (g:FuncId) (T:Nat->Nat->Res As) (L:Nat->List As->Nat->Res (List As)) (sep:List UInt8)
  (ad: ∀x k,L 0 x k= .bot) (hL: ∀m x k,L (m+1) x k=if isW l k [sep] then(T m (k+1)).then fun a k=>L m (x++ [a]) k else .ok x k)
  (hT: ∀m k,k<=l.length->Adv l (k+1) (T m k)) (n:Nat) (hg: ∀m≤n,RdC Tryz.prog G l g r fun k=>(T m k).mp dA) (H:Ac) (k:Nat) (hr:H r=some (rdO l k)) (hk:k<=l.length) (E:((T n k).then fun a k=>L n [a] k)≠ .bot):
  Af Tryz.prog G 249 [.optr r 0, .str sep, .func (.func g) [.optr r 0] []] H (RdR r l H (((T n k).then fun a k=>L n [a] k).mp dAl)):=by
 refine Ab Tryz.func249 Tryz.call249 rfl (by kernel_rfl) ?_;simp(disch:=omega)only[go_sem];have M:=hg n (Nat.le_refl _) _ k hr hk;have ae:=hT n k hk;dsimp only at M;cases hpr:T n k with
 | bot=>rw[hpr] at E;exact absurd rfl E
 | fail V=>
  rw[hpr] at M;refine(M (Cf (by simp))).mono ?_;rintro e H3 ⟨rfl,rfl⟩;simp(disch:=omega)only[go_sem];exact Sz.refl ⟨rfl,rfl⟩
 | ok O V=>
  rw[hpr] at M E ae;refine(M (Cf (by simp))).mono ?_;rintro e H3 ⟨rfl,af⟩;dsimp only[Res.then,Adv] at E ae⊢
  have ag:=Fz O;simp(disch:=omega)only[go_sem,dA];rw[Cs1 ag];simp(disch:=omega)only[go_sem];intro X W;dsimp only at W;obtain⟨n',rfl⟩: ∃n',n=n'+1:=by
   cases n with
   | zero=>exact absurd (ad _ _) E
   | succ n'=>exact⟨n',rfl⟩
  have ar:Bl5 (upd H r (some (rdO l V))) [O] (.oslice 10 X 0 1 1) (upd H3 X (some (.cells (dAs O) 44))):=
   .inr ⟨X,by rw[<-af];exact W,by rw[List.flatMap_singleton,ag];rfl,rfl,by rw[List.flatMap_singleton];exact Aa _ _ _,by rw[af] at W⊢;exact(Sub.refl _).new W _⟩
  simp(disch:=omega)only[go_sem];obtain⟨I,Y⟩: ∃I:Nat×List As×Nat->(Nat->DVal)->Ac->Prop,∀s env heap,I s env heap↔(env 0= .optr r 0/\env 1= .str sep/\env 2= .func (.func g) [.optr r 0] []/\s.2.2<=l.length/\s.2.1.length<=s.2.2/\s.1<=n'/\L (s.1+1) s.2.1 s.2.2=L (n'+1) [O] V/\Bl5 (upd H r (some (rdO l s.2.2))) s.2.1 (env 7) heap):=⟨_,fun _ _ _=>Iff.rfl⟩;refine Dn5.run I (fun s=>s.1) (n',[O],V) ((Y _ _ _).2 ?_) ?_
  ·simp(disch:=omega)only[go_sem];(repeat' apply And.intro)<;>(try first | rfl | assumption | omega)
  ·rintro⟨m,xs,k1⟩ env heap am;obtain⟨y,e1,C,ah,ao,hm,h,hv⟩:=(Y _ _ _).1 am;dsimp only at ah ao hm h hv;rw[hL] at h;obtain⟨v,D⟩: ∃v,env 7=v:=⟨_,rfl⟩;rw[D] at hv;have gr:heap r=some (rdO l k1):=Jf.keep hv (Aa _ _ _);simp(disch:=omega)only[go_sem,y,e1,C,D];intro w1 ai;dsimp only at ai;simp(disch:=omega)only[go_sem,y,e1,C,D];refine(Av3 hG _ w1 sep ai gr (by omega) (by omega)).mono ?_;rintro _ H4 ⟨rfl,S⟩;by_cases c:isW l k1 [sep]=true
   ·rw[if_pos c] at h S;have Z:=Bf c ah;rw[jQ] at Z;have aa:Bl5 (upd H r (some (rdO l (k1+1)))) xs v H4:=by rw[S];exact Jf.move hv _
    have ap:H4 r=some (rdO l (k1+1)):=Jf.keep aa (Aa _ _ _);simp(disch:=omega)only[go_sem,y,e1,C,D,c];have hp2:=hg m (by omega) _ (k1+1) ap Z;have aj:=hT m (k1+1) Z;dsimp only at hp2;cases hpr2:T m (k1+1) with
    | bot=>rw[hpr2] at h;exact absurd h.symm E
    | fail J=>
     rw[hpr2] at hp2 h;refine(hp2 (Cf (by simp))).mono ?_;rintro e H5 ⟨rfl,ab⟩;have ac:Bl5 (upd H r (some (rdO l J))) xs v H5:=by rw[ab];exact Jf.move aa _
     simp(disch:=omega)only[go_sem];rw[<-h];exact Sz.sub (Jf.sub ac) ⟨rfl,rfl⟩
    | ok a J=>
     rw[hpr2] at hp2 h aj;dsimp only[Res.then,Adv] at h aj;refine(hp2 (Cf (by simp))).mono ?_;rintro e H5 ⟨rfl,ab⟩;have ac:Bl5 (upd H r (some (rdO l J))) xs v H5:=by rw[ab];exact Jf.move aa _
     have ak:=Fz a;simp(disch:=omega)only[go_sem,y,e1,C,D,dA];rw[Cs1 ak];simp(disch:=omega)only[go_sem,y,e1,C,D];intro r8 al;dsimp only at al;simp(disch:=omega)only[go_sem,y,e1,C,D];refine Jf.append (m:=1) (Jf.new ac al _) (by rw[ak]) (by omega) fun v2 H6 aq=> ?_;simp(disch:=omega)only[go_sem,y,e1,C];obtain⟨U,rfl⟩: ∃U,m=U+1:=by
      cases m with
      | zero=>rw[ad] at h;exact absurd h.symm E
      | succ U=>exact⟨U,rfl⟩
     have au:(xs++ [a]).length<=J:=by rw[jC,jQ];omega
     have av:Bl5 (upd H r (some (rdO l J))) (xs++ [a]) v2 H6:=by
      unfold Bl5;rw[jC,jQ,List.flatMap_append,List.flatMap_singleton];exact aq
     refine⟨(U,xs++ [a],J),_,Ri.refl _,(Y _ _ _).2 ?_,by dsimp only;omega⟩;simp(disch:=omega)only[go_sem,y,e1,C];(repeat' apply And.intro)<;>(try first | rfl | assumption | omega)
   ·have c':isW l k1 [sep]=false:=by simpa using c
    rw[if_neg c] at h S;rw[Dv gr] at S;subst S;simp(disch:=omega)only[go_sem,y,e1,C,D,c'];rw[<-h];exact Jf.fin hv ⟨rfl,rfl⟩
theorem Bl6 {x:List DVal} (hx:x.length=2):
  (if 2<=(Cc 1 [DVal.int .u8 0,DVal.nilSlice]).length then some (x++List.drop 2 (Cc 1 [DVal.int .u8 0,DVal.nilSlice])) else none)=some x:=by
 have e: ∀u:List DVal,Cc 1 u=u:=fun u=>by simp [Cc]
 rw[e,if_pos (by simp),List.drop_eq_nil_of_le (by simp),jH]
def Lv (H:Ac) (l:List Ch) (v:DVal) (H':Ac):Prop:=Jf H 47 2 l.length (l.flatMap dCh) v H'
set_option maxHeartbeats 4000000 in
theorem Ed8 (hG:GX G) (hl:l.length<=800000) (g:FuncId) (T:Nat->Nat->Res Ch) (L:Nat->List Ch->Nat->Res (List Ch)) (sep:List UInt8)
  (ad: ∀x k,L 0 x k= .bot) (hL: ∀m x k,L (m+1) x k=if isW l k [sep] then(T m (k+1)).then fun a k=>L m (x++ [a]) k else .ok x k)
  (hT: ∀m k,k<=l.length->Adv l (k+1) (T m k)) (n:Nat) (hg: ∀m≤n,RdC Tryz.prog G l g r fun k=>(T m k).mp dC) (H:Ac) (k:Nat) (hr:H r=some (rdO l k)) (hk:k<=l.length) (E:((T n k).then fun a k=>L n [a] k)≠ .bot):
  Af Tryz.prog G 325 [.optr r 0, .str sep, .func (.func g) [.optr r 0] []] H (RdR r l H (((T n k).then fun a k=>L n [a] k).mp dCl)):=by
 refine Ab Tryz.func325 Tryz.call325 rfl (by kernel_rfl) ?_;simp(disch:=omega)only[go_sem];have M:=hg n (Nat.le_refl _) _ k hr hk;have ae:=hT n k hk;dsimp only at M;cases hpr:T n k with
 | bot=>rw[hpr] at E;exact absurd rfl E
 | fail V=>
  rw[hpr] at M;refine(M (Cf (by simp))).mono ?_;rintro e H3 ⟨rfl,rfl⟩;simp(disch:=omega)only[go_sem];exact Sz.refl ⟨rfl,rfl⟩
 | ok O V=>
  rw[hpr] at M E ae;refine(M (Cf (by simp))).mono ?_;rintro e H3 ⟨rfl,af⟩;dsimp only[Res.then,Adv] at E ae⊢
  have ag:=Gh O;simp(disch:=omega)only[go_sem,dC];rw[Bl6 ag];simp(disch:=omega)only[go_sem];intro X W;dsimp only at W;obtain⟨n',rfl⟩: ∃n',n=n'+1:=by
   cases n with
   | zero=>exact absurd (ad _ _) E
   | succ n'=>exact⟨n',rfl⟩
  have ar:Lv (upd H r (some (rdO l V))) [O] (.oslice 2 X 0 1 1) (upd H3 X (some (.cells (dCh O) 47))):=
   .inr ⟨X,by rw[<-af];exact W,by rw[List.flatMap_singleton,ag];rfl,rfl,by rw[List.flatMap_singleton];exact Aa _ _ _,by rw[af] at W⊢;exact(Sub.refl _).new W _⟩
  simp(disch:=omega)only[go_sem];obtain⟨I,Y⟩: ∃I:Nat×List Ch×Nat->(Nat->DVal)->Ac->Prop,∀s env heap,I s env heap↔(env 0= .optr r 0/\env 1= .str sep/\env 2= .func (.func g) [.optr r 0] []/\s.2.2<=l.length/\s.2.1.length<=s.2.2/\s.1<=n'/\L (s.1+1) s.2.1 s.2.2=L (n'+1) [O] V/\Lv (upd H r (some (rdO l s.2.2))) s.2.1 (env 7) heap):=⟨_,fun _ _ _=>Iff.rfl⟩;refine Dn5.run I (fun s=>s.1) (n',[O],V) ((Y _ _ _).2 ?_) ?_
  ·simp(disch:=omega)only[go_sem];(repeat' apply And.intro)<;>(try first | rfl | assumption | omega)
  ·rintro⟨m,xs,k1⟩ env heap am;obtain⟨y,e1,C,ah,ao,hm,h,hv⟩:=(Y _ _ _).1 am;dsimp only at ah ao hm h hv;rw[hL] at h;obtain⟨v,D⟩: ∃v,env 7=v:=⟨_,rfl⟩;rw[D] at hv;have gr:heap r=some (rdO l k1):=Jf.keep hv (Aa _ _ _);simp(disch:=omega)only[go_sem,y,e1,C,D];intro w1 ai;dsimp only at ai;simp(disch:=omega)only[go_sem,y,e1,C,D];refine(Av3 hG _ w1 sep ai gr (by omega) (by omega)).mono ?_;rintro _ H4 ⟨rfl,S⟩;by_cases c:isW l k1 [sep]=true
   ·rw[if_pos c] at h S;have Z:=Bf c ah;rw[jQ] at Z;have aa:Lv (upd H r (some (rdO l (k1+1)))) xs v H4:=by rw[S];exact Jf.move hv _
    have ap:H4 r=some (rdO l (k1+1)):=Jf.keep aa (Aa _ _ _);simp(disch:=omega)only[go_sem,y,e1,C,D,c];have hp2:=hg m (by omega) _ (k1+1) ap Z;have aj:=hT m (k1+1) Z;dsimp only at hp2;cases hpr2:T m (k1+1) with
    | bot=>rw[hpr2] at h;exact absurd h.symm E
    | fail J=>
     rw[hpr2] at hp2 h;refine(hp2 (Cf (by simp))).mono ?_;rintro e H5 ⟨rfl,ab⟩;have ac:Lv (upd H r (some (rdO l J))) xs v H5:=by rw[ab];exact Jf.move aa _
     simp(disch:=omega)only[go_sem];rw[<-h];exact Sz.sub (Jf.sub ac) ⟨rfl,rfl⟩
    | ok a J=>
     rw[hpr2] at hp2 h aj;dsimp only[Res.then,Adv] at h aj;refine(hp2 (Cf (by simp))).mono ?_;rintro e H5 ⟨rfl,ab⟩;have ac:Lv (upd H r (some (rdO l J))) xs v H5:=by rw[ab];exact Jf.move aa _
     have ak:=Gh a;simp(disch:=omega)only[go_sem,y,e1,C,D,dC];rw[Bl6 ak];simp(disch:=omega)only[go_sem,y,e1,C,D];intro r8 al;dsimp only at al;simp(disch:=omega)only[go_sem,y,e1,C,D];refine Jf.append (m:=1) (Jf.new ac al _) (by rw[ak]) (by omega) fun v2 H6 aq=> ?_;simp(disch:=omega)only[go_sem,y,e1,C];obtain⟨U,rfl⟩: ∃U,m=U+1:=by
      cases m with
      | zero=>rw[ad] at h;exact absurd h.symm E
      | succ U=>exact⟨U,rfl⟩
     have au:(xs++ [a]).length<=J:=by rw[jC,jQ];omega
     have av:Lv (upd H r (some (rdO l J))) (xs++ [a]) v2 H6:=by
      unfold Lv;rw[jC,jQ,List.flatMap_append,List.flatMap_singleton];exact aq
     refine⟨(U,xs++ [a],J),_,Ri.refl _,(Y _ _ _).2 ?_,by dsimp only;omega⟩;simp(disch:=omega)only[go_sem,y,e1,C];(repeat' apply And.intro)<;>(try first | rfl | assumption | omega)
   ·have c':isW l k1 [sep]=false:=by simpa using c
    rw[if_neg c] at h S;rw[Dv gr] at S;subst S;simp(disch:=omega)only[go_sem,y,e1,C,D,c'];rw[<-h];exact Jf.fin hv ⟨rfl,rfl⟩
theorem Ed9 (hG:GX G) (hl:l.length<=800000) (n:Nat) (y: ∀m≤n,RdC Tryz.prog G l 251 r fun k=>((P l m).arg k).mp dA):RdC Tryz.prog G l 175 r fun k=>(((P l n).arg k).then fun a k=>(P l n).argsL [a] k).mp dAl:=by
 intro H k hr hk hn;refine Ab Tryz.func175 Tryz.call175 rfl (by kernel_rfl) ?_;simp(disch:=omega)only[go_sem];have hs:=Bx6 hG hl 251 (fun m=>(P l m).arg) (fun m=>(P l m).argsL) Dh (fun _ _=>rfl) (fun _ _ _=>rfl) (fun m k hk=>(Jz m).arg k hk) n y H k hr hk (fun h=>hn (by dsimp only;rw[h];rfl));refine hs.mono ?_;intro e H' h;dsimp only at hn⊢
 cases hc:(((P l n).arg k).then fun a k=>(P l n).argsL [a] k) with
 | bot=>rw[hc] at h;exact h.elim
 | fail C=>
  rw[hc] at h;obtain⟨rfl,rfl⟩:=h;simp(disch:=omega)only[go_sem];exact Sz.refl ⟨rfl,rfl⟩
 | ok x C=>
  rw[hc] at h;obtain⟨rfl,rfl⟩:=h;simp(disch:=omega)only[go_sem];exact Es.refl ⟨rfl,rfl⟩
theorem Cf0 (hG:GX G) (hl:l.length<=800000) (n:Nat) (y: ∀m≤n,RdC Tryz.prog G l 294 r fun k=>((P l m).choice k).mp dC):RdC Tryz.prog G l 319 r fun k=>(((P l n).choice k).then fun a k=>(P l n).choicesL [a] k).mp dCl:=by
 intro H k hr hk hn;refine Ab Tryz.func319 Tryz.call319 rfl (by kernel_rfl) ?_;simp(disch:=omega)only[go_sem];have hs:=Ed8 hG hl 294 (fun m=>(P l m).choice) (fun m=>(P l m).choicesL) Gl (fun _ _=>rfl) (fun _ _ _=>rfl) (fun m k hk=>Eb ((Jz m).choice k hk) (Nat.le_refl _)) n y H k hr hk (fun h=>hn (by dsimp only;rw[h];rfl));refine hs.mono ?_;intro e H' h;dsimp only at hn⊢
 cases hc:(((P l n).choice k).then fun a k=>(P l n).choicesL [a] k) with
 | bot=>rw[hc] at h;exact h.elim
 | fail C=>
  rw[hc] at h;obtain⟨rfl,rfl⟩:=h;simp(disch:=omega)only[go_sem];exact Sz.refl ⟨rfl,rfl⟩
 | ok x C=>
  rw[hc] at h;obtain⟨rfl,rfl⟩:=h;simp(disch:=omega)only[go_sem];exact Es.refl ⟨rfl,rfl⟩
end
section
variable {G:Nat->DVal} {H0 H H':Ac} {r k:Nat} {l:List Tok}
theorem Gm7 (hG:GX G) (H:Ac) (q:Nat) (s:List UInt8) (y:H q=some (.cells [.str s] 9)) (hr:H r=some (rdO l k)) (h:r≠q) (hl:l.length<=1000000) (hk:k<=900000):Af Tryz.prog G 172 [.optr r 0, .oslice 1 q 0 1 1] H (Au (.bool (isW l k [s])) (upd H q none)):=by
 refine Af.fzArgs q y ?_;simp only[fzs,fz,if_neg h,if_pos];exact An2 hG _ [s] (by rw[Ak _ _ _ _ h];exact hr) hl hk (by simp)
theorem Lt.assoc {v:DVal} {c:List Ch} {e:Ex} (hs:Sub H H') (h:Lt H' v H (dCl c)):Kq H' (v::dEx e) H (dAs (.mk c e)):=by
 rw[Au5];exact .cons h (.keep hs _)
set_option maxHeartbeats 4000000 in
theorem Bt8 (hG:GX G) (hl:l.length<=800000) (p:PS) (au:RdC Tryz.prog G l 58 r fun k=>(p.expr k).mp dE):RdC Tryz.prog G l 251 r fun k=>((Bl l p).arg k).mp dA:=by
 intro H k hr hk hn;dsimp only[Bl] at hn⊢
 obtain⟨t,ht⟩: ∃t,t=tk l k:=⟨_,rfl⟩;rw[<-ht] at hn⊢
 have bv:IntKind.i64.wrap ((k:Int)+1)=((k+1:Nat):Int):=by rw[IntKind.wrap_i64];omega
 have bq:IntKind.i64.wrap ((k:Int)+2)=((k+2:Nat):Int):=by rw[IntKind.wrap_i64];omega
 refine Ab Tryz.func251 Tryz.call251 rfl (by kernel_rfl) ?_;simp(disch:=omega)only[go_sem];intro I ac;dsimp only at ac;obtain⟨Ha,bg⟩: ∃K,K=upd H I (some (.cells [.nilSlice, .int .u8 0, .int .u8 0, .int .i64 0, .str [], .nilSlice, .nilSlice, .int .i64 0, .int .i64 0, .int .i64 0] 44)):=⟨_,rfl⟩;rw[<-bg];have br:Ha I=some (.cells [.nilSlice, .int .u8 0, .int .u8 0, .int .i64 0, .str [], .nilSlice, .nilSlice, .int .i64 0, .int .i64 0, .int .i64 0] 44):=by rw[bg];exact Aa _ _ _
 have n2:r≠I:=Ae ac hr;have q2:=n2.symm;have ha:RAt r l k H Ha:=by rw[bg];exact(RAt.refl hr).new ac _
 simp(disch:=omega)only[go_sem];refine(Zu G _ ha.get (by omega) (by omega)).mono ?_;rintro _ H1 ⟨rfl,rfl⟩;rw[<-ht];simp(disch:=omega)only[go_sem];intro W bd;dsimp only at bd;have bs:I≠W:=Ae bd br;have bz:=bs.symm;have n3:r≠W:=Ae bd ha.get;have q3:=n3.symm;simp(disch:=omega)only[go_sem,Cy];obtain⟨Hc,be⟩: ∃K,K=upd H1 W (some (.cells [.int .u8 t.kind,dI t.line, .str t.text,dI t.n] 31)):=⟨_,rfl⟩;rw[<-be];have X:RAt r l k H Hc:=by rw[be];exact ha.new bd _
 have ak:Hc I=some (.cells [.nilSlice, .int .u8 0, .int .u8 0, .int .i64 0, .str [], .nilSlice, .nilSlice, .int .i64 0, .int .i64 0, .int .i64 0] 44):=by rw[be];exact An br bs
 have aj:Hc W=some (.cells [.int .u8 t.kind,dI t.line, .str t.text,dI t.n] 31):=by rw[be];exact Aa _ _ _
 have bt:=X.get;unfold rdO at bt;by_cases c:t.kind=1
 ·refine Aj (by kernel_rfl) pL10 (by kernel_rfl) ?_;have bw:(Bh l).cells= [Bh l]:=rfl;simp(disch:=omega)only[go_sem,aj,c,bt,bv,bw];have bu:k+1<=l.length:=Rs (by rw[<-ht,c];decide);refine⟨?_, ?_⟩
  ·intro w1 hw;dsimp only at hw;have ar:r≠w1:=Ae hw X.get;simp(disch:=omega)only[go_sem,ar];intro ad ae;dsimp only at ae;obtain⟨m1,m2,bh⟩:=Av.1 ae;have bf:r≠ad:=Ae bh X.get;simp(disch:=omega)only[go_sem,ar,bf,m1,m2];refine(Gm7 hG _ w1 Bn (r:=ad) (k:=k+1) (by rw[Ak _ _ _ _ m2];exact Aa _ _ _) (Aa _ _ _) m1 (by omega) (by omega)).mono ?_;rintro _ H5 ⟨rfl,al⟩;have av:I≠w1:=Ae hw ak;have aw:W≠w1:=Ae hw aj;have bi:I≠ad:=Ae bh ak;have bj:W≠ad:=Ae bh aj;have ax:H5 I=some (.cells [.nilSlice, .int .u8 0, .int .u8 0, .int .i64 0, .str [], .nilSlice, .nilSlice, .int .i64 0, .int .i64 0, .int .i64 0] 44):=by rw[al,Ak _ _ _ _ av];exact An (An ak av) bi
   have ay:H5 W=some (.cells [.int .u8 t.kind,dI t.line, .str t.text,dI t.n] 31):=by rw[al,Ak _ _ _ _ aw];exact An (An aj aw) bj
   have Y:RAt r l k H H5:=by rw[al];exact((X.new hw (some (.cells [.str Bn] 9))).new ae (some (rdO l (k+1)))).own (X.lo hw) ar.symm none
   have a0:=Y.get;unfold rdO at a0;by_cases L:isW l (k+1) [Bn]=true
   ·rw[if_pos ⟨c,L⟩] at hn;rw[if_pos L];have bk:=Bf L bu;rw[jQ] at bk;simp(disch:=omega)only[go_sem,L,a0,bq,q3,ay];obtain⟨O,af⟩: ∃O,O=upd H5 r (some (rdO l (k+2))):=⟨_,rfl⟩;have a3:=af;unfold rdO at a3;rw[<-a3];have Z:RAt r l (k+2) H O:=by rw[af];exact Y.set _
    have am:O I=some (.cells [.nilSlice, .int .u8 0, .int .u8 0, .int .i64 0, .str [], .nilSlice, .nilSlice, .int .i64 0, .int .i64 0, .int .i64 0] 44):=by rw[af];exact An ax q2
    have bx:O W=some (.cells [.int .u8 t.kind,dI t.line, .str t.text,dI t.n] 31):=by rw[af];exact An ay q3
    intro S aa;dsimp only at aa;have a4:I≠S:=Ae aa am;have a5:=a4.symm;have a6:r≠S:=Ae aa Z.get;simp(disch:=omega)only[go_sem];intro U ao;dsimp only at ao;obtain⟨a1,a2,ap⟩:=Av.1 ao;have a7:I≠U:=Ae ap am;have a8:=a7.symm;have a9:r≠U:=Ae ap Z.get;simp(disch:=omega)only[go_sem,a4,a7,am];obtain⟨V,ab⟩: ∃V,V=upd (upd (upd O S (some (.cells [.int .u8 3, .int .u8 0, .int .i64 0, .str t.text, .nilSlice, .nilSlice, .int .i64 t.line, .int .i64 0, .int .i64 0] 27))) U (some (.cells [.int .u8 1, .oslice 9 S 0 1 1] 47))) I (some (.cells [.oslice 2 U 0 1 1, .int .u8 0, .int .u8 0, .int .i64 0, .str [], .nilSlice, .nilSlice, .int .i64 0, .int .i64 0, .int .i64 0] 44)):=⟨_,rfl⟩;rw[show List.drop 9 (Cc 1 [DVal.int .u8 0,DVal.int .u8 0,DVal.int .i64 0,DVal.str [],DVal.nilSlice,DVal.nilSlice,DVal.int .i64 0,DVal.int .i64 0,DVal.int .i64 0])= [] from rfl,show List.drop 2 (Cc 1 [DVal.int .u8 0,DVal.nilSlice])= [] from rfl,<-ab];have aq:RAt r l (k+2) H V:=by rw[ab];exact((Z.new aa _).new ao _).own ac q2 _
    have bl:V S=some (.cells [.int .u8 3, .int .u8 0, .int .i64 0, .str t.text, .nilSlice, .nilSlice, .int .i64 t.line, .int .i64 0, .int .i64 0] 27):=by rw[ab];simp [upd,a5,a1,a2]
    have bm:V U=some (.cells [.int .u8 1, .oslice 9 S 0 1 1] 47):=by rw[ab];simp [upd,a8]
    have bn:V I=some (.cells [.oslice 2 U 0 1 1, .int .u8 0, .int .u8 0, .int .i64 0, .str [], .nilSlice, .nilSlice, .int .i64 0, .int .i64 0, .int .i64 0] 44):=by rw[ab];exact Aa _ _ _
    have D:=au _ (k+2) aq.get (by omega);dsimp only at D;cases hpr:p.expr (k+2) with
    | bot=>rw[hpr] at hn;exact absurd rfl hn
    | fail C=>
     rw[hpr] at D;refine(D (Cf (by simp))).mono ?_;rintro e J ⟨rfl,rfl⟩;simp(disch:=omega)only[go_sem];exact RAt.finP (aq.set C) ⟨rfl,rfl⟩
    | ok y C=>
     rw[hpr] at D;refine(D (Cf (by simp))).mono ?_;rintro e J ⟨rfl,M⟩;have ag:RAt r l C H J:=by rw[M];exact aq.set C
     have ba:=An (y:=some (rdO l C)) bn q2;have bb:=An (y:=some (rdO l C)) bl a6.symm;have bc:=An (y:=some (rdO l C)) bm a9.symm;rw[<-M] at ba bb bc;have ah:=Ad y;have ai:=Bo y;dsimp only[Res.then];simp(disch:=omega)only[go_sem,dE,ba,ah,ai];have E:=fun z=>ag.own ac q2 z;refine Lt.fin (E _) (Lt.agg (Lt.assoc (c:= [.mk 1 [.mk 3 0 0 t.text [] [] t.line 0 0]]) (E _) (Lt.cells (e:=47) (cs':= [Ch.mk 1 [.mk 3 0 0 t.text [] [] t.line 0 0]].flatMap dCh) (E _) ?_ (An bc a8) rfl ?_))) ⟨rfl,rfl⟩
     ·rw[Ak _ _ _ _ a9.symm];exact Z.lo ap
     ·rw[List.flatMap_singleton];refine Lt.choice (m:= [.mk 3 0 0 t.text [] [] t.line 0 0]) (E _) (Lt.cells (e:=27) (cs':= [Ex.mk 3 0 0 t.text [] [] t.line 0 0].flatMap dEx) (E _) ?_ (An bb a5) rfl ?_)
      ·rw[Ak _ _ _ _ a6.symm];exact Z.lo aa
      ·rw[List.flatMap_singleton];exact Lt.ex (E _) (.exs0 (E _)) (.as0 (E _))
   ·have bo:isW l (k+1) [Bn]=false:=by simpa using L
    rw[if_neg (fun h=>L h.2)] at hn;rw[if_neg L];simp(disch:=omega)only[go_sem,bo];have D:=au _ k Y.get hk;dsimp only at D;cases hpr:p.expr k with
    | bot=>rw[hpr] at hn;exact absurd rfl hn
    | fail C=>
     rw[hpr] at D;refine(D (Cf (by simp))).mono ?_;rintro e J ⟨rfl,rfl⟩;simp(disch:=omega)only[go_sem];exact RAt.finP (Y.set C) ⟨rfl,rfl⟩
    | ok y C=>
     rw[hpr] at D;refine(D (Cf (by simp))).mono ?_;rintro e J ⟨rfl,M⟩;have ag:RAt r l C H J:=by rw[M];exact Y.set C
     have g4:J I=some (.cells [.nilSlice, .int .u8 0, .int .u8 0, .int .i64 0, .str [], .nilSlice, .nilSlice, .int .i64 0, .int .i64 0, .int .i64 0] 44):=by rw[M];exact An ax q2
     have ah:=Ad y;have ai:=Bo y;dsimp only[Res.then];simp(disch:=omega)only[go_sem,dE,g4,ah,ai];have E:=fun z=>ag.own ac q2 z;exact Lt.fin (E _) (Lt.agg (Lt.assoc (c:= []) (E _) (.ch0 (E _)))) ⟨rfl,rfl⟩
  ·intro ad ae;dsimp only at ae;have bf:r≠ad:=Ae ae X.get;simp(disch:=omega)only[go_sem,bf];intro w1 bp;dsimp only at bp;obtain⟨m1,m2,hw⟩:=Av.1 bp;have ar:r≠w1:=Ae hw X.get;simp(disch:=omega)only[go_sem,ar,bf,m1,m2];refine(Gm7 hG _ w1 Bn (r:=ad) (k:=k+1) (Aa _ _ _) (by rw[Ak _ _ _ _ m2];exact Aa _ _ _) m2 (by omega) (by omega)).mono ?_;rintro _ H5 ⟨rfl,al⟩;have av:I≠w1:=Ae hw ak;have aw:W≠w1:=Ae hw aj;have bi:I≠ad:=Ae ae ak;have bj:W≠ad:=Ae ae aj;have ax:H5 I=some (.cells [.nilSlice, .int .u8 0, .int .u8 0, .int .i64 0, .str [], .nilSlice, .nilSlice, .int .i64 0, .int .i64 0, .int .i64 0] 44):=by rw[al,Ak _ _ _ _ av];exact An (An ak bi) av
   have ay:H5 W=some (.cells [.int .u8 t.kind,dI t.line, .str t.text,dI t.n] 31):=by rw[al,Ak _ _ _ _ aw];exact An (An aj bj) aw
   have Y:RAt r l k H H5:=by rw[al];exact((X.new ae (some (rdO l (k+1)))).new bp (some (.cells [.str Bn] 9))).own (X.lo hw) ar.symm none
   have a0:=Y.get;unfold rdO at a0;by_cases L:isW l (k+1) [Bn]=true
   ·rw[if_pos ⟨c,L⟩] at hn;rw[if_pos L];have bk:=Bf L bu;rw[jQ] at bk;simp(disch:=omega)only[go_sem,L,a0,bq,q3,ay];obtain⟨O,af⟩: ∃O,O=upd H5 r (some (rdO l (k+2))):=⟨_,rfl⟩;have a3:=af;unfold rdO at a3;rw[<-a3];have Z:RAt r l (k+2) H O:=by rw[af];exact Y.set _
    have am:O I=some (.cells [.nilSlice, .int .u8 0, .int .u8 0, .int .i64 0, .str [], .nilSlice, .nilSlice, .int .i64 0, .int .i64 0, .int .i64 0] 44):=by rw[af];exact An ax q2
    have bx:O W=some (.cells [.int .u8 t.kind,dI t.line, .str t.text,dI t.n] 31):=by rw[af];exact An ay q3
    intro S aa;dsimp only at aa;have a4:I≠S:=Ae aa am;have a5:=a4.symm;have a6:r≠S:=Ae aa Z.get;simp(disch:=omega)only[go_sem];intro U ao;dsimp only at ao;obtain⟨a1,a2,ap⟩:=Av.1 ao;have a7:I≠U:=Ae ap am;have a8:=a7.symm;have a9:r≠U:=Ae ap Z.get;simp(disch:=omega)only[go_sem,a4,a7,am];obtain⟨V,ab⟩: ∃V,V=upd (upd (upd O S (some (.cells [.int .u8 3, .int .u8 0, .int .i64 0, .str t.text, .nilSlice, .nilSlice, .int .i64 t.line, .int .i64 0, .int .i64 0] 27))) U (some (.cells [.int .u8 1, .oslice 9 S 0 1 1] 47))) I (some (.cells [.oslice 2 U 0 1 1, .int .u8 0, .int .u8 0, .int .i64 0, .str [], .nilSlice, .nilSlice, .int .i64 0, .int .i64 0, .int .i64 0] 44)):=⟨_,rfl⟩;rw[show List.drop 9 (Cc 1 [DVal.int .u8 0,DVal.int .u8 0,DVal.int .i64 0,DVal.str [],DVal.nilSlice,DVal.nilSlice,DVal.int .i64 0,DVal.int .i64 0,DVal.int .i64 0])= [] from rfl,show List.drop 2 (Cc 1 [DVal.int .u8 0,DVal.nilSlice])= [] from rfl,<-ab];have aq:RAt r l (k+2) H V:=by rw[ab];exact((Z.new aa _).new ao _).own ac q2 _
    have bl:V S=some (.cells [.int .u8 3, .int .u8 0, .int .i64 0, .str t.text, .nilSlice, .nilSlice, .int .i64 t.line, .int .i64 0, .int .i64 0] 27):=by rw[ab];simp [upd,a5,a1,a2]
    have bm:V U=some (.cells [.int .u8 1, .oslice 9 S 0 1 1] 47):=by rw[ab];simp [upd,a8]
    have bn:V I=some (.cells [.oslice 2 U 0 1 1, .int .u8 0, .int .u8 0, .int .i64 0, .str [], .nilSlice, .nilSlice, .int .i64 0, .int .i64 0, .int .i64 0] 44):=by rw[ab];exact Aa _ _ _
    have D:=au _ (k+2) aq.get (by omega);dsimp only at D;cases hpr:p.expr (k+2) with
    | bot=>rw[hpr] at hn;exact absurd rfl hn
    | fail C=>
     rw[hpr] at D;refine(D (Cf (by simp))).mono ?_;rintro e J ⟨rfl,rfl⟩;simp(disch:=omega)only[go_sem];exact RAt.finP (aq.set C) ⟨rfl,rfl⟩
    | ok y C=>
     rw[hpr] at D;refine(D (Cf (by simp))).mono ?_;rintro e J ⟨rfl,M⟩;have ag:RAt r l C H J:=by rw[M];exact aq.set C
     have ba:=An (y:=some (rdO l C)) bn q2;have bb:=An (y:=some (rdO l C)) bl a6.symm;have bc:=An (y:=some (rdO l C)) bm a9.symm;rw[<-M] at ba bb bc;have ah:=Ad y;have ai:=Bo y;dsimp only[Res.then];simp(disch:=omega)only[go_sem,dE,ba,ah,ai];have E:=fun z=>ag.own ac q2 z;refine Lt.fin (E _) (Lt.agg (Lt.assoc (c:= [.mk 1 [.mk 3 0 0 t.text [] [] t.line 0 0]]) (E _) (Lt.cells (e:=47) (cs':= [Ch.mk 1 [.mk 3 0 0 t.text [] [] t.line 0 0]].flatMap dCh) (E _) ?_ (An bc a8) rfl ?_))) ⟨rfl,rfl⟩
     ·rw[Ak _ _ _ _ a9.symm];exact Z.lo ap
     ·rw[List.flatMap_singleton];refine Lt.choice (m:= [.mk 3 0 0 t.text [] [] t.line 0 0]) (E _) (Lt.cells (e:=27) (cs':= [Ex.mk 3 0 0 t.text [] [] t.line 0 0].flatMap dEx) (E _) ?_ (An bb a5) rfl ?_)
      ·rw[Ak _ _ _ _ a6.symm];exact Z.lo aa
      ·rw[List.flatMap_singleton];exact Lt.ex (E _) (.exs0 (E _)) (.as0 (E _))
   ·have bo:isW l (k+1) [Bn]=false:=by simpa using L
    rw[if_neg (fun h=>L h.2)] at hn;rw[if_neg L];simp(disch:=omega)only[go_sem,bo];have D:=au _ k Y.get hk;dsimp only at D;cases hpr:p.expr k with
    | bot=>rw[hpr] at hn;exact absurd rfl hn
    | fail C=>
     rw[hpr] at D;refine(D (Cf (by simp))).mono ?_;rintro e J ⟨rfl,rfl⟩;simp(disch:=omega)only[go_sem];exact RAt.finP (Y.set C) ⟨rfl,rfl⟩
    | ok y C=>
     rw[hpr] at D;refine(D (Cf (by simp))).mono ?_;rintro e J ⟨rfl,M⟩;have ag:RAt r l C H J:=by rw[M];exact Y.set C
     have g4:J I=some (.cells [.nilSlice, .int .u8 0, .int .u8 0, .int .i64 0, .str [], .nilSlice, .nilSlice, .int .i64 0, .int .i64 0, .int .i64 0] 44):=by rw[M];exact An ax q2
     have ah:=Ad y;have ai:=Bo y;dsimp only[Res.then];simp(disch:=omega)only[go_sem,dE,g4,ah,ai];have E:=fun z=>ag.own ac q2 z;exact Lt.fin (E _) (Lt.agg (Lt.assoc (c:= []) (E _) (.ch0 (E _)))) ⟨rfl,rfl⟩
 ·rw[if_neg (fun h=>c h.1)] at hn⊢
  refine Aj (by kernel_rfl) pL10 (by kernel_rfl) ?_;simp(disch:=omega)only[go_sem,aj,c];refine⟨⟨⟨Jy,Jy⟩, ?_⟩,⟨Jy,Jy⟩, ?_⟩;all_goals
   have D:=au _ k X.get hk;dsimp only at D;cases hpr:p.expr k with
   | bot=>rw[hpr] at hn;exact absurd rfl hn
   | fail C=>
    rw[hpr] at D;refine(D (Cf (by simp))).mono ?_;rintro e J ⟨rfl,rfl⟩;simp(disch:=omega)only[go_sem];exact RAt.finP (X.set C) ⟨rfl,rfl⟩
   | ok y C=>
    rw[hpr] at D;refine(D (Cf (by simp))).mono ?_;rintro e J ⟨rfl,M⟩;have ag:RAt r l C H J:=by rw[M];exact X.set C
    have g4:J I=some (.cells [.nilSlice, .int .u8 0, .int .u8 0, .int .i64 0, .str [], .nilSlice, .nilSlice, .int .i64 0, .int .i64 0, .int .i64 0] 44):=by rw[M];exact An ak q2
    have ah:=Ad y;have ai:=Bo y;dsimp only[Res.then];simp(disch:=omega)only[go_sem,dE,g4,ah,ai];have E:=fun z=>ag.own ac q2 z;exact Lt.fin (E _) (Lt.agg (Lt.assoc (c:= []) (E _) (.ch0 (E _)))) ⟨rfl,rfl⟩
end
section
variable {G:Nat->DVal} {H0 H H':Ac} {r k:Nat} {l:List Tok}
theorem Nf {α β:Type} (x:α) (k:Nat) (f:α->Nat->Res β):(Res.ok x k).then f=f x k:=rfl
theorem Od {α β:Type} (k:Nat) (f:α->Nat->Res β):(Res.fail k).then f= .fail k:=rfl
theorem Qs {α β:Type} (f:α->Nat->Res β):Res.bot.then f= .bot:=rfl
theorem Jf.at {B H':Ac} {e:TypeId} {size n:Nat} {cs:List DVal} {v:DVal} {r:Nat} {o:DObj} (h:Jf B e size n cs v H') (hr:B r=some o) (y:Option DObj):Jf (upd B r y) e size n cs v (upd H' r y):=by
 have h2:Jf (upd B r (some o)) e size n cs v H':=by rw[Dv hr];exact h
 exact h2.move y
theorem An3 {n k:Nat} {c:Ch} {k':Nat} (h:(P l n).choice k= .ok c k'):(c.kind=3/\c.l= [])\/(c.kind=2/\ ∃x y,c.l= [x,y])\/(c.kind=1/\ ∃x,c.l= [x]):=by
 cases n with
 | zero=>cases h
 | succ n=>
  have e:(P l (n+1)).choice k=if isW l k [Lf] then .ok (.mk 3 []) (k+1) else((P l n).simple k).then fun x k=>if isW l k [Ev] then((P l n).simple (k+1)).then fun y k=> .ok (.mk 2 [x,y]) k else((P l n).rest x k).then fun x k=> .ok (.mk 1 [x]) k:=rfl
  rw[e] at h;split at h
  ·cases h;exact .inl ⟨rfl,rfl⟩
  ·cases h1:(P l n).simple k with
   | bot=>rw[h1] at h;cases h
   | fail k=>rw[h1] at h;cases h
   | ok x k1=>
    rw[h1] at h;dsimp only[Res.then] at h;split at h
    ·cases h2:(P l n).simple (k1+1) with
     | bot=>rw[h2] at h;cases h
     | fail k=>rw[h2] at h;cases h
     | ok y C=>rw[h2] at h;cases h;exact .inr (.inl ⟨rfl,x,y,rfl⟩)
    ·cases h2:(P l n).rest x k1 with
     | bot=>rw[h2] at h;cases h
     | fail k=>rw[h2] at h;cases h
     | ok y C=>rw[h2] at h;cases h;exact .inr (.inr ⟨rfl,y,rfl⟩)
set_option maxHeartbeats 4000000 in
theorem Cf1 (hG:GX G) (hl:l.length<=800000) (n:Nat) (hc: ∀m≤n,RdC Tryz.prog G l 294 r fun k=>((P l m).choice k).mp dC) (bj:RdC Tryz.prog G l 58 r fun k=>((P l n).expr k).mp dE):RdC Tryz.prog G l 250 r fun k=>((P l (n+1)).assoc k).mp dA:=by
 intro H k hr hk hn;obtain⟨F,hF⟩: ∃F:Ch->Nat->Res As,∀c k,F c k=if c.kind=1/\isW l k [Gl]=false/\isW l k [Bn]=false then .ok (.mk [] (c.l.getD 0 ex0)) k else if c.kind=3 then must l Bn k fun k=>((P l n).expr k).then fun e k=> .ok (.mk [c] e) k else((P l n).choicesL [c] k).then fun cs k=>must l Bn k fun k=>((P l n).expr k).then fun e k=> .ok (.mk cs e) k:=⟨_,fun _ _=>rfl⟩
 have e:(P l (n+1)).assoc k=((P l n).choice k).then F:=by
  have:F=fun c k=>if c.kind=1/\isW l k [Gl]=false/\isW l k [Bn]=false then .ok (.mk [] (c.l.getD 0 ex0)) k else if c.kind=3 then must l Bn k fun k=>((P l n).expr k).then fun e k=> .ok (.mk [c] e) k else((P l n).choicesL [c] k).then fun cs k=>must l Bn k fun k=>((P l n).expr k).then fun e k=> .ok (.mk cs e) k:=funext fun c=>funext fun k=>hF c k
  rw[this];rfl
 dsimp only at hn⊢
 rw[e] at hn⊢
 refine Ab Tryz.func250 Tryz.call250 rfl (by kernel_rfl) ?_;simp(disch:=omega)only[go_sem];intro M ag;dsimp only at ag;obtain⟨Ha,a7⟩: ∃K,K=upd H M (some (.cells [.nilSlice, .int .u8 0, .int .u8 0, .int .i64 0, .str [], .nilSlice, .nilSlice, .int .i64 0, .int .i64 0, .int .i64 0] 44)):=⟨_,rfl⟩;rw[<-a7];have bx:Ha M=some (.cells [.nilSlice, .int .u8 0, .int .u8 0, .int .i64 0, .str [], .nilSlice, .nilSlice, .int .i64 0, .int .i64 0, .int .i64 0] 44):=by rw[a7];exact Aa _ _ _
 have n2:r≠M:=Ae ag hr;have q2:=n2.symm;have ha:RAt r l k H Ha:=by rw[a7];exact(RAt.refl hr).new ag _
 simp(disch:=omega)only[go_sem];have L:=hc n (Nat.le_refl _) _ k ha.get hk;have bk:=(Jz (l:=l) n).choice k hk;dsimp only at L;cases hpr:(P l n).choice k with
 | bot=>rw[hpr] at hn;exact absurd rfl hn
 | fail J=>
  rw[hpr] at L;refine(L (Cf (by simp))).mono ?_;rintro e H4 ⟨rfl,rfl⟩;simp(disch:=omega)only[go_sem];exact RAt.finP (ha.set J) ⟨rfl,rfl⟩
 | ok c J=>
  rw[hpr] at L hn bk;refine(L (Cf (by simp))).mono ?_;rintro e H3 ⟨rfl,bl⟩;have bm:RAt r l J H H3:=by rw[bl];exact ha.set J
  dsimp only[Res.then,Adv] at hn bk⊢
  have hres:=hF c J;obtain⟨a8,bz⟩: ∃a8,a8=F c J:=⟨_,rfl⟩;rw[<-bz] at hn hres⊢
  have g3:H3 M=some (.cells [.nilSlice, .int .u8 0, .int .u8 0, .int .i64 0, .str [], .nilSlice, .nilSlice, .int .i64 0, .int .i64 0, .int .i64 0] 44):=by rw[bl];exact An bx q2
  have ao:=Gh c;have bn:=Dp5 c;simp(disch:=omega)only[go_sem,dC];intro r3 ax;dsimp only at ax;have bo:M≠r3:=Ae ax g3;have b0:=bo.symm;have n3:r≠r3:=Ae ax bm.get;have q3:=n3.symm;simp(disch:=omega)only[go_sem,ao,bn];obtain⟨O,ay⟩: ∃K,K=upd H3 r3 (some (.cells (dCh c) 47)):=⟨_,rfl⟩;rw[<-ay];have aq:RAt r l J H O:=by rw[ay];exact bm.new ax _
  have ap:O M=some (.cells [.nilSlice, .int .u8 0, .int .u8 0, .int .i64 0, .str [], .nilSlice, .nilSlice, .int .i64 0, .int .i64 0, .int .i64 0] 44):=by rw[ay];exact An g3 bo
  have ah:O r3=some (.cells (dCh c) 47):=by rw[ay];exact Aa _ _ _
  have gk:(dCh c)[0]? =some (.int .u8 c.kind):=by rw[Au6];rfl
  refine(fun(tail: ∀S:DS,S.heap=O->S.env 0= .optr r 0->S.env 2= .optr M 0->S.env 3= .optr r3 0->S.env 27= .nilSlice-> ¬(c.kind=1/\isW l J [Gl]=false/\isW l J [Bn]=false)->(?T:DS->Prop) S)=> ?A) ?B
  case A=>
   by_cases c1:c.kind=1
   ·simp(disch:=omega)only[go_sem,ah,gk,c1];intro w1 ar;dsimp only at ar;simp(disch:=omega)only[go_sem];refine(is1 hG _ w1 Gl ar aq.get (by omega) (by omega)).mono ?_;rintro _ H5 ⟨rfl,au⟩;rw[au];by_cases b1:isW l J [Gl]=true
    ·simp(disch:=omega)only[go_sem,b1];have ai: ¬(c.kind=1/\isW l J [Gl]=false/\isW l J [Bn]=false):=fun h=>by rw[b1] at h;exact absurd h.2.1 (by decide)
     simp(disch:=omega)only[go_sem,ap,ah,ao];generalize hS:(DS.mk _ O:DS)=S;exact tail S (by rw[<-hS]) (by rw[<-hS];first | rfl | simp(disch:=omega)only[go_sem]) (by rw[<-hS];first | rfl | simp(disch:=omega)only[go_sem]) (by rw[<-hS];first | rfl | simp(disch:=omega)only[go_sem]) (by rw[<-hS];first | rfl | simp(disch:=omega)only[go_sem]) ai
    ·have bp:isW l J [Gl]=false:=by simpa using b1
     simp(disch:=omega)only[go_sem,bp];intro w2 bq;dsimp only at bq;simp(disch:=omega)only[go_sem];refine(is1 hG _ w2 Bn bq aq.get (by omega) (by omega)).mono ?_;rintro _ H6 ⟨rfl,av⟩;rw[av];by_cases b2:isW l J [Bn]=true
     ·simp(disch:=omega)only[go_sem,b2];have ai: ¬(c.kind=1/\isW l J [Gl]=false/\isW l J [Bn]=false):=fun h=>by rw[b2] at h;exact absurd h.2.2 (by decide)
      simp(disch:=omega)only[go_sem,ap,ah,ao];generalize hS:(DS.mk _ O:DS)=S;exact tail S (by rw[<-hS]) (by rw[<-hS];first | rfl | simp(disch:=omega)only[go_sem]) (by rw[<-hS];first | rfl | simp(disch:=omega)only[go_sem]) (by rw[<-hS];first | rfl | simp(disch:=omega)only[go_sem]) (by rw[<-hS];first | rfl | simp(disch:=omega)only[go_sem]) ai
     ·have br:isW l J [Bn]=false:=by simpa using b2
      rw[if_pos ⟨c1,bp,br⟩] at hres;obtain⟨x,hx⟩: ∃x,c.l= [x]:=by
       rcases An3 hpr with h | h | h
       ·rw[h.1] at c1;cases c1
       ·rw[h.1] at c1;cases c1
       ·exact h.2
      have gl:(dCh c)[1]? =some (.vslice (dEx x) 1):=by rw[Ev2,hx,List.flatMap_singleton];rfl
      rw[hx] at hres;have b3:=Ad x;have b4:=Bo x;have b6:List.take 9 (List.drop 0 (dEx x))=dEx x:=List.take_of_length_le (by rw[jJ];omega);simp(disch:=omega)only[go_sem,br,ah,gl,b3,b6,jJ,ap,b4];rw[hres];have a9:=fun z=>aq.own ag q2 z;exact Lt.fin (a9 _) (Lt.agg (Lt.assoc (c:= []) (a9 _) (.ch0 (a9 _)))) ⟨rfl,rfl⟩
   ·simp(disch:=omega)only[go_sem,ah,gk,c1];have ai: ¬(c.kind=1/\isW l J [Gl]=false/\isW l J [Bn]=false):=fun h=>c1 h.1;simp(disch:=omega)only[go_sem,ap,ah,ao];generalize hS:(DS.mk _ O:DS)=S;exact tail S (by rw[<-hS]) (by rw[<-hS];first | rfl | simp(disch:=omega)only[go_sem]) (by rw[<-hS];first | rfl | simp(disch:=omega)only[go_sem]) (by rw[<-hS];first | rfl | simp(disch:=omega)only[go_sem]) (by rw[<-hS];first | rfl | simp(disch:=omega)only[go_sem]) ai
  case B=>
   rintro⟨E,X⟩ hX z0 z2 z3 z7 ai;obtain rfl:O=X:=hX.symm;dsimp only at z0 z2 z3 z7;have ci:=An3 hpr;obtain⟨n',rfl⟩: ∃n',n=n'+1:=by
    cases n with
    | zero=>cases hpr
    | succ n'=>exact⟨n',rfl⟩
   obtain⟨L',b7,hL,C⟩: ∃L':Nat->List Ch->Nat->Res (List Ch),(c.kind≠3-> ∀x k,L' 0 x k= .bot)/\(∀m x k,L' (m+1) x k=if c.kind≠3/\isW l k [Gl]=true then((P l m).choice (k+1)).then fun a k=>L' m (x++ [a]) k else .ok x k)/\a8=(L' (n'+1) [c] J).then fun cs k=>must l Bn k fun k=>((P l (n'+1)).expr k).then fun e k=> .ok (.mk cs e) k:=by
    rw[hres];by_cases c3:c.kind=3
    ·refine⟨fun _ x k=> .ok x k,fun h=>absurd c3 h,fun m x k=>by rw[if_neg (fun h=>h.1 c3)], ?_⟩;rw[if_neg (fun h=>by rw[c3] at h;exact absurd h.1 (by decide)),if_pos c3];rfl
    ·refine⟨fun m=>(P l m).choicesL,fun _ _ _=>rfl,fun m x k=> ?_, ?_⟩
     ·have e:(P l (m+1)).choicesL x k=if isW l k [Gl] then((P l m).choice (k+1)).then fun c k=>(P l m).choicesL (x++ [c]) k else .ok x k:=rfl
      show(P l (m+1)).choicesL x k=_;rw[e];by_cases hb:isW l k [Gl]=true
      ·rw[if_pos hb,if_pos ⟨c3,hb⟩]
      ·rw[if_neg hb,if_neg (fun h=>hb h.2)]
     ·rw[if_neg ai,if_neg c3]
   obtain⟨D,ae⟩: ∃D:DVal->Nat->Ac,∀v k,D v k=upd (upd O M (some (.cells [v, .int .u8 0, .int .u8 0, .int .i64 0, .str [], .nilSlice, .nilSlice, .int .i64 0, .int .i64 0, .int .i64 0] 44))) r (some (rdO l k)):=⟨_,fun _ _=>rfl⟩;have U: ∀v k,D v k r=some (rdO l k):=fun v k=>by rw[ae];exact Aa _ _ _
   have af: ∀v k,D v k M=some (.cells [v, .int .u8 0, .int .u8 0, .int .i64 0, .str [], .nilSlice, .nilSlice, .int .i64 0, .int .i64 0, .int .i64 0] 44):=fun v k=>by rw[ae,Ak _ _ _ _ q2];exact Aa _ _ _
   have b8: ∀v k,D v k r3=some (.cells (dCh c) 47):=fun v k=>by rw[ae,Ak _ _ _ _ q3,Ak _ _ _ _ b0];exact ah
   have ab: ∀v k k',upd (D v k) r (some (rdO l k'))=D v k':=fun v k k'=>by rw[ae,ae,Fy]
   have b9: ∀v v' k,upd (D v k) M (some (.cells [v', .int .u8 0, .int .u8 0, .int .i64 0, .str [], .nilSlice, .nilSlice, .int .i64 0, .int .i64 0, .int .i64 0] 44))=D v' k:=fun v v' k=>by rw[ae,ae,Zi q2,Fy]
   have aj: ∀v k,RAt r l k H (D v k):=fun v k=>by rw[ae];exact(aq.own ag q2 _).set k
   rw[show List.drop 2 (Cc 1 [DVal.int .u8 0,DVal.nilSlice])= [] from rfl];simp(disch:=omega)only[go_sem,z0,z2,z3,z7,ao,bn];intro bs bt;dsimp only at bt;simp(disch:=omega)only[go_sem,z0,z2,z3,z7];intro a0 ba;dsimp only at ba;obtain⟨H6,av⟩: ∃K,K=upd (upd O bs (some (.cells (dCh c) 47))) a0 (some (.cells (dCh c) 47)):=⟨_,rfl⟩;rw[<-av];have bu:Sub O (upd O bs (some (.cells (dCh c) 47))):=(Sub.refl O).new bt _;have a1:Jf O 47 2 1 (dCh c) (.oslice 2 a0 0 1 1) H6:= .inr ⟨a0,bu.lo ba,ao,rfl,by rw[av];exact Aa _ _ _,by rw[av];exact bu.new ba _⟩;obtain⟨v1,ca⟩: ∃v1,v1=DVal.oslice 2 a0 0 1 1:=⟨_,rfl⟩;rw[<-ca] at a1⊢
   have bb:=a1.keep ap;obtain⟨cb,cc⟩:=a1.cell1;simp(disch:=omega)only[go_sem,z0,z2,z3,z7,bb,cb,cc];have cd:Lv (D v1 J) [c] v1 (upd H6 M (some (.cells [v1, .int .u8 0, .int .u8 0, .int .i64 0, .str [], .nilSlice, .nilSlice, .int .i64 0, .int .i64 0, .int .i64 0] 44))):=by
    have:=a1.at ap (some (.cells [v1, .int .u8 0, .int .u8 0, .int .i64 0, .str [], .nilSlice, .nilSlice, .int .i64 0, .int .i64 0, .int .i64 0] 44));rw[show D v1 J=upd O M (some (.cells [v1, .int .u8 0, .int .u8 0, .int .i64 0, .str [], .nilSlice, .nilSlice, .int .i64 0, .int .i64 0, .int .i64 0] 44)) by rw[ae];exact Dv (An aq.get n2)];unfold Lv;rw[List.flatMap_singleton];exact this
   obtain⟨I,hI⟩: ∃I:Nat×List Ch×Nat->(Nat->DVal)->Ac->Prop,∀s env heap,I s env heap↔(env 0= .optr r 0/\env 2= .optr M 0/\env 3= .optr r3 0/\s.2.2<=l.length/\s.2.1.length<=s.2.2/\s.1<=n'/\L' (s.1+1) s.2.1 s.2.2=L' (n'+1) [c] J/\ ∃v,Lv (D v s.2.2) s.2.1 v heap):=⟨_,fun _ _ _=>Iff.rfl⟩;refine Dn5.run I (fun s=>s.1) (n',[c],J) ((hI _ _ _).2 ?_) ?_
   ·simp(disch:=omega)only[go_sem,z0,z2,z3,z7];(repeat' apply And.intro)<;>(try first | rfl | assumption | omega);exact⟨v1,cd⟩
   ·rintro⟨m,xs,k1⟩ env heap ce;obtain⟨V,W,Y,a2,cf,hm,aa,v,hv⟩:=(hI _ _ _).1 ce;dsimp only at a2 cf hm aa hv;rw[hL] at aa;have gr:heap r=some (rdO l k1):=Jf.keep hv (U _ _);have g2:=Jf.keep hv (af _ _);have g3:=Jf.keep hv (b8 _ _);by_cases c3:c.kind=3
    ·rw[if_neg (fun h=>h.1 c3)] at aa;simp(disch:=omega)only[go_sem,V,W,Y,g3,gk,c3];refine(Sm hG heap Bn gr (by omega) (by omega)).mono ?_;intro e1 H8 hq;rw[<-aa,Nf] at C;unfold must at hq C;by_cases b5:isW l k1 [Bn]=true
     ·rw[if_pos b5] at hq C;obtain⟨rfl,ak⟩:=hq;dsimp only at C;have aw:=Bf b5 a2;rw[jQ] at aw;have ac:Lv (D v (k1+1)) xs v H8:=by rw[ak,<-ab v k1];exact Jf.at hv (U _ _) _
      simp(disch:=omega)only[go_sem,V,W,Y];have L:=bj _ (k1+1) (Jf.keep ac (U _ _)) aw;dsimp only at L;cases hpe:(P l (n'+1)).expr (k1+1) with
      | bot=>rw[hpe,Qs] at C;rw[C] at hn;exact absurd rfl hn
      | fail Z=>
       rw[hpe] at L;rw[hpe,Od] at C;refine(L (Cf (by simp))).mono ?_;rintro e H9 ⟨rfl,al⟩;have ad:Lv (D v Z) xs v H9:=by rw[al,<-ab v (k1+1)];exact Jf.at ac (U _ _) _
       simp(disch:=omega)only[go_sem];rw[C];exact RAt.finP ((aj v Z).more (Jf.sub ad)) ⟨rfl,rfl⟩
      | ok y Z=>
       rw[hpe] at L;rw[hpe,Nf] at C;refine(L (Cf (by simp))).mono ?_;rintro e H9 ⟨rfl,al⟩;have ad:Lv (D v Z) xs v H9:=by rw[al,<-ab v (k1+1)];exact Jf.at ac (U _ _) _
       have bc:=Jf.keep ad (af v Z);obtain⟨j1,j2⟩:=Jf.cell1 ad;have bd:=Ad y;have be:=Bo y;simp(disch:=omega)only[go_sem,V,W,Y,dE,bc,bd,be,j1,j2];rw[C];have am:=fun z=>Jf.less (Jf.at ad (af v Z) z) ((aj v Z).own ag q2 z);refine Lt.fin (Jf.sub (am _)) (Lt.agg (Lt.assoc (c:=xs) (Jf.sub (am _)) (Lt.own (am _)))) ⟨rfl,rfl⟩
     ·rw[if_neg b5] at hq C;obtain⟨rfl,ak⟩:=hq;have ac:Lv (D v k1) xs v H8:=by rw[ak,<-ab v k1];exact Jf.at hv (U _ _) _
      simp(disch:=omega)only[go_sem];rw[C];exact RAt.finP ((aj v k1).more (Jf.sub ac)) ⟨rfl,rfl⟩
    ·simp(disch:=omega)only[go_sem,V,W,Y,g3,gk,c3];intro w1 ar;dsimp only at ar;simp(disch:=omega)only[go_sem,V,W,Y,g3,gk,c3];refine(Av3 hG _ w1 Gl ar gr (by omega) (by omega)).mono ?_;rintro _ H4 ⟨rfl,a3⟩;by_cases b:isW l k1 [Gl]=true
     ·rw[if_pos ⟨c3,b⟩] at aa;rw[if_pos b] at a3;have bf:=Bf b a2;rw[jQ] at bf;have a4:Lv (D v (k1+1)) xs v H4:=by rw[a3,<-ab v k1];exact Jf.at hv (U _ _) _
      have bg:=Jf.keep a4 (af _ _);simp(disch:=omega)only[go_sem,V,W,Y,b];refine Aj (by kernel_rfl) pL17 (by kernel_rfl) ?_;simp(disch:=omega)only[go_sem,V,W,Y,bg];have hp2:=hc m (by omega) _ (k1+1) (Jf.keep a4 (U _ _)) bf;have bv:=(Jz (l:=l) m).choice (k1+1) bf;dsimp only at hp2;cases hpr2:(P l m).choice (k1+1) with
      | bot=>
       rw[hpr2,Qs] at aa;rw[<-aa,Qs] at C;rw[C] at hn;exact absurd rfl hn
      | fail k5=>
       rw[hpr2] at hp2;rw[hpr2,Od] at aa;rw[<-aa,Od] at C;refine(hp2 (Cf (by simp))).mono ?_;rintro e H5 ⟨rfl,au⟩;have a5:Lv (D v k5) xs v H5:=by rw[au,<-ab v (k1+1)];exact Jf.at a4 (U _ _) _
       simp(disch:=omega)only[go_sem];rw[C];exact RAt.finP ((aj v k5).more (Jf.sub a5)) ⟨rfl,rfl⟩
      | ok a k5=>
       rw[hpr2] at hp2 bv;rw[hpr2,Nf] at aa;dsimp only[Adv] at bv;refine(hp2 (Cf (by simp))).mono ?_;rintro e H5 ⟨rfl,au⟩;have a5:Lv (D v k5) xs v H5:=by rw[au,<-ab v (k1+1)];exact Jf.at a4 (U _ _) _
       have a6:=Jf.keep a5 (af _ _);have bw:=Gh a;simp(disch:=omega)only[go_sem,V,W,Y,bg,a6,dC];rw[Bl6 bw];simp(disch:=omega)only[go_sem,V,W,Y,bg,a6];intro r8 bh;dsimp only at bh;have n8:M≠r8:=Ae bh a6;simp(disch:=omega)only[go_sem,V,W,Y,a6,n8];refine Jf.append (m:=1) (Jf.new a5 bh _) (by rw[bw]) (by omega) fun v2 H6 bi=> ?_;have bb:=Jf.keep bi (af _ _);obtain⟨j1,j2⟩:=Jf.cell1 bi;simp(disch:=omega)only[go_sem,V,W,Y,bb,j1,j2];obtain⟨m',rfl⟩: ∃m',m=m'+1:=by
        cases m with
        | zero=>rw[b7 c3] at aa;rw[<-aa,Qs] at C;rw[C] at hn;exact absurd rfl hn
        | succ m'=>exact⟨m',rfl⟩
       have cj:(xs++ [a]).length<=k5:=by rw[jC,jQ];omega
       have cg:Lv (D v2 k5) (xs++ [a]) v2 (upd H6 M (some (.cells [v2, .int .u8 0, .int .u8 0, .int .i64 0, .str [], .nilSlice, .nilSlice, .int .i64 0, .int .i64 0, .int .i64 0] 44))):=by
        have:=Jf.at bi (af _ _) (some (.cells [v2, .int .u8 0, .int .u8 0, .int .i64 0, .str [], .nilSlice, .nilSlice, .int .i64 0, .int .i64 0, .int .i64 0] 44));rw[b9] at this;unfold Lv;rw[jC,jQ,List.flatMap_append,List.flatMap_singleton];exact this
       refine⟨(m',xs++ [a],k5),_,Ri.refl _,(hI _ _ _).2 ?_,by dsimp only;omega⟩;simp(disch:=omega)only[go_sem,V,W,Y];(repeat' apply And.intro)<;>(try first | rfl | assumption | omega);exact⟨v2,cg⟩
     ·have b':isW l k1 [Gl]=false:=by simpa using b
      rw[if_neg (fun h=>b h.2)] at aa;rw[if_neg b,Dv gr] at a3;rw[a3];simp(disch:=omega)only[go_sem,V,W,Y,b'];refine(Sm hG heap Bn gr (by omega) (by omega)).mono ?_;intro e1 H8 hq;rw[<-aa,Nf] at C;unfold must at hq C;by_cases b5:isW l k1 [Bn]=true
      ·rw[if_pos b5] at hq C;obtain⟨rfl,ak⟩:=hq;dsimp only at C;have aw:=Bf b5 a2;rw[jQ] at aw;have ac:Lv (D v (k1+1)) xs v H8:=by rw[ak,<-ab v k1];exact Jf.at hv (U _ _) _
       simp(disch:=omega)only[go_sem,V,W,Y];have L:=bj _ (k1+1) (Jf.keep ac (U _ _)) aw;dsimp only at L;cases hpe:(P l (n'+1)).expr (k1+1) with
       | bot=>rw[hpe,Qs] at C;rw[C] at hn;exact absurd rfl hn
       | fail Z=>
        rw[hpe] at L;rw[hpe,Od] at C;refine(L (Cf (by simp))).mono ?_;rintro e H9 ⟨rfl,al⟩;have ad:Lv (D v Z) xs v H9:=by rw[al,<-ab v (k1+1)];exact Jf.at ac (U _ _) _
        simp(disch:=omega)only[go_sem];rw[C];exact RAt.finP ((aj v Z).more (Jf.sub ad)) ⟨rfl,rfl⟩
       | ok y Z=>
        rw[hpe] at L;rw[hpe,Nf] at C;refine(L (Cf (by simp))).mono ?_;rintro e H9 ⟨rfl,al⟩;have ad:Lv (D v Z) xs v H9:=by rw[al,<-ab v (k1+1)];exact Jf.at ac (U _ _) _
        have bc:=Jf.keep ad (af v Z);obtain⟨j1,j2⟩:=Jf.cell1 ad;have bd:=Ad y;have be:=Bo y;simp(disch:=omega)only[go_sem,V,W,Y,dE,bc,bd,be,j1,j2];rw[C];have am:=fun z=>Jf.less (Jf.at ad (af v Z) z) ((aj v Z).own ag q2 z);refine Lt.fin (Jf.sub (am _)) (Lt.agg (Lt.assoc (c:=xs) (Jf.sub (am _)) (Lt.own (am _)))) ⟨rfl,rfl⟩
      ·rw[if_neg b5] at hq C;obtain⟨rfl,ak⟩:=hq;have ac:Lv (D v k1) xs v H8:=by rw[ak,<-ab v k1];exact Jf.at hv (U _ _) _
       simp(disch:=omega)only[go_sem];rw[C];exact RAt.finP ((aj v k1).more (Jf.sub ac)) ⟨rfl,rfl⟩
end
def ifR (l:List Tok) (p:Nat->Res Ex) (line:Int):List (List UInt8)->List Ex->Nat->Res Ex
 | [],xs,k=> .ok (.mk 10 0 0 [] xs [] line 0 0) k
 | w::ws,xs,k=>(p k).then fun a k=>must l w k fun k=>ifR l p line ws (xs++ [a]) k
section
variable {G:Nat->DVal} {H0 H H':Ac} {r k:Nat} {l:List Tok}
def Ba0 (H:Ac) (l:List Ex) (v:DVal) (H':Ac):Prop:=Jf H 27 9 l.length (l.flatMap dEx) v H'
theorem Bl7 {x:List DVal} (hx:x.length=9):
  (if 9<=(Cc 1 [DVal.int .u8 0,DVal.int .u8 0,DVal.int .i64 0,DVal.str [],DVal.nilSlice,DVal.nilSlice,DVal.int .i64 0,DVal.int .i64 0,DVal.int .i64 0]).length then some (x++List.drop 9 (Cc 1 [DVal.int .u8 0,DVal.int .u8 0,DVal.int .i64 0,DVal.str [],DVal.nilSlice,DVal.nilSlice,DVal.int .i64 0,DVal.int .i64 0,DVal.int .i64 0])) else none)=some x:=by
 have e: ∀u:List DVal,Cc 1 u=u:=fun u=>by simp [Cc]
 rw[e,if_pos (by simp),List.drop_eq_nil_of_le (by simp),jH]
set_option maxHeartbeats 4000000 in
theorem Dg0 (hG:GX G) (hl:l.length<=800000) (n:Nat) (b2:RdC Tryz.prog G l 58 r fun k=>((P l n).expr k).mp dE) (hc: ∀m≤n,RdC Tryz.prog G l 250 r fun k=>((P l m).assoc k).mp dA):RdC Tryz.prog G l 173 r fun k=>((P l (n+1)).paren k).mp dE:=by
 intro H k hr hk hn
 obtain⟨li,bn⟩: ∃li,li=(tk l k).line:=⟨_,rfl⟩
 have e:(P l (n+1)).paren k=must l Bi k fun k1=>if isW l k1 [wIf] then ifR l (P l n).expr (tk l (k1-1)).line [Pm,Qp,Bt] [] (k1+1) else(((P l n).assoc k1).then fun a k=>(P l n).assocsL [a] k).then fun xs k=>must l Bt k fun k=> .ok (Bj9 (tk l (k1-1)).line xs) k:=by
  have b3: ∀(a:Res As) (f:As->Nat->Res (List As)) (g:List As->Nat->Res Ex),(a.then f).then g=a.then fun x k=>(f x k).then g:=fun a f g=>by cases a<;>rfl
  simp only[b3];rfl
 dsimp only at hn⊢
 rw[e] at hn⊢
 obtain⟨a8,hres⟩: ∃a8,a8=must l Bi k fun k1=>if isW l k1 [wIf] then ifR l (P l n).expr (tk l (k1-1)).line [Pm,Qp,Bt] [] (k1+1) else(((P l n).assoc k1).then fun a k=>(P l n).assocsL [a] k).then fun xs k=>must l Bt k fun k=> .ok (Bj9 (tk l (k1-1)).line xs) k:=⟨_,rfl⟩
 rw[<-hres] at hn⊢
 refine Ab Tryz.func173 Tryz.call173 rfl (by kernel_rfl) ?_
 simp(disch:=omega)only[go_sem]
 intro E aj;dsimp only at aj
 obtain⟨Ha,a9⟩: ∃K,K=upd H E (some (.cells [.int .u8 0, .int .u8 0, .int .i64 0, .str [], .nilSlice, .nilSlice, .int .i64 0, .int .i64 0, .int .i64 0] 27)):=⟨_,rfl⟩
 rw[<-a9]
 have bo:Ha E=some (.cells [.int .u8 0, .int .u8 0, .int .i64 0, .str [], .nilSlice, .nilSlice, .int .i64 0, .int .i64 0, .int .i64 0] 27):=by rw[a9];exact Aa _ _ _
 have n2:r≠E:=Ae aj hr
 have q2:=n2.symm
 have ha:RAt r l k H Ha:=by rw[a9];exact(RAt.refl hr).new aj _
 simp(disch:=omega)only[go_sem]
 refine(Av1 G _ ha.get (by omega) (by omega)).mono ?_
 rintro _ H1 ⟨rfl,b4⟩
 rw[b4,<-bn]
 simp(disch:=omega)only[go_sem]
 intro C ak;dsimp only at ak
 simp(disch:=omega)only[go_sem]
 obtain⟨Hb,aw⟩: ∃K,K=upd Ha C (some (.cells [.int .u8 9, .int .u8 0, .int .i64 0, .str [], .nilSlice, .nilSlice, .int .i64 li, .int .i64 0, .int .i64 0] 27)):=⟨_,rfl⟩
 rw[<-aw]
 have b6:Hb C=some (.cells [.int .u8 9, .int .u8 0, .int .i64 0, .str [], .nilSlice, .nilSlice, .int .i64 li, .int .i64 0, .int .i64 0] 27):=by rw[aw];exact Aa _ _ _
 have al:E≠C:=Ae ak bo
 have c5:=al.symm
 have n3:r≠C:=Ae ak ha.get
 have V:=n3.symm
 have ba:H C=none:=ha.lo ak
 have bb:RAt r l k H Hb:=by rw[aw];exact ha.new ak _
 have b7:Hb E=some (.cells [.int .u8 0, .int .u8 0, .int .i64 0, .str [], .nilSlice, .nilSlice, .int .i64 0, .int .i64 0, .int .i64 0] 27):=by rw[aw];exact An bo al
 refine(Sm hG Hb Bi bb.get (by omega) (by omega)).mono ?_
 intro e1 H2 hq
 unfold must at hq hres
 by_cases b0:isW l k [Bi]=true
 ·rw[if_pos b0] at hq hres
  obtain⟨rfl,ae⟩:=hq
  dsimp only at hres
  rw[Nat.add_sub_cancel,<-bn] at hres
  have am:=Bf b0 hk
  rw[jQ] at am
  obtain⟨k1,b8⟩: ∃k1,k1=k+1:=⟨_,rfl⟩
  rw[<-b8] at hres ae am
  have af:RAt r l k1 H H2:=by rw[ae];exact bb.set k1
  have bp:H2 E=some (.cells [.int .u8 0, .int .u8 0, .int .i64 0, .str [], .nilSlice, .nilSlice, .int .i64 0, .int .i64 0, .int .i64 0] 27):=by rw[ae];exact An b7 q2
  have bq:H2 C=some (.cells [.int .u8 9, .int .u8 0, .int .i64 0, .str [], .nilSlice, .nilSlice, .int .i64 li, .int .i64 0, .int .i64 0] 27):=by rw[ae];exact An b6 V
  simp(disch:=omega)only[go_sem]
  intro w1 br;dsimp only at br
  simp(disch:=omega)only[go_sem]
  refine(Av3 hG _ w1 wIf br af.get (by omega) (by omega)).mono ?_
  rintro _ H4 ⟨rfl,ag⟩
  by_cases b1:isW l k1 [wIf]=true
  ·rw[if_pos b1] at ag hres
   have b9:=Bf b1 am
   rw[jQ] at b9
   have ca:RAt r l (k1+1) H H4:=by rw[ag];exact af.set _
   have cb:H4 E=some (.cells [.int .u8 0, .int .u8 0, .int .i64 0, .str [], .nilSlice, .nilSlice, .int .i64 0, .int .i64 0, .int .i64 0] 27):=by rw[ag];exact An bp q2
   have cc:H4 C=some (.cells [.int .u8 9, .int .u8 0, .int .i64 0, .str [], .nilSlice, .nilSlice, .int .i64 li, .int .i64 0, .int .i64 0] 27):=by rw[ag];exact An bq V
   simp(disch:=omega)only[go_sem,b1,cc]
   obtain⟨W,O⟩: ∃K,K=upd H4 C (some (.cells [.int .u8 10, .int .u8 0, .int .i64 0, .str [], .nilSlice, .nilSlice, .int .i64 li, .int .i64 0, .int .i64 0] 27)):=⟨_,rfl⟩
   rw[<-O]
   have ax:RAt r l (k1+1) H W:=by rw[O];exact ca.own ba V _
   have ay:W C=some (.cells [.int .u8 10, .int .u8 0, .int .i64 0, .str [], .nilSlice, .nilSlice, .int .i64 li, .int .i64 0, .int .i64 0] 27):=by rw[O];exact Aa _ _ _
   have a0:W E=some (.cells [.int .u8 0, .int .u8 0, .int .i64 0, .str [], .nilSlice, .nilSlice, .int .i64 0, .int .i64 0, .int .i64 0] 27):=by rw[O];exact An cb al
   intro ad ao;dsimp only at ao
   obtain⟨Hk,ap⟩: ∃K,K=upd W ad (some (.cells [.str [116,104,101,110], .str [101,108,115,101], .str [41]] 9)):=⟨_,rfl⟩
   rw[<-ap]
   have cd:Hk ad=some (.cells [.str [116,104,101,110], .str [101,108,115,101], .str [41]] 9):=by rw[ap];exact Aa _ _ _
   have bs:C≠ad:=Ae ao ay
   have ce:E≠ad:=Ae ao a0
   have cf:r≠ad:=Ae ao ax.get
   have bt:RAt r l (k1+1) H Hk:=by rw[ap];exact ax.new ao _
   have cg:Hk C=some (.cells [.int .u8 10, .int .u8 0, .int .i64 0, .str [], .nilSlice, .nilSlice, .int .i64 li, .int .i64 0, .int .i64 0] 27):=by rw[ap];exact An ay bs
   have ci:Hk E=some (.cells [.int .u8 0, .int .u8 0, .int .i64 0, .str [], .nilSlice, .nilSlice, .int .i64 0, .int .i64 0, .int .i64 0] 27):=by rw[ap];exact An a0 ce
   obtain⟨D,S⟩: ∃D:DVal->Nat->Ac,∀v k,D v k=upd (upd Hk C (some (.cells [.int .u8 10, .int .u8 0, .int .i64 0, .str [],v, .nilSlice, .int .i64 li, .int .i64 0, .int .i64 0] 27))) r (some (rdO l k)):=⟨_,fun _ _=>rfl⟩
   have ah: ∀v k,D v k r=some (rdO l k):=fun v k=>by rw[S];exact Aa _ _ _
   have aq: ∀v k,D v k C=some (.cells [.int .u8 10, .int .u8 0, .int .i64 0, .str [],v, .nilSlice, .int .i64 li, .int .i64 0, .int .i64 0] 27):=fun v k=>by rw[S,Ak _ _ _ _ V];exact Aa _ _ _
   have bu: ∀v k,D v k E=some (.cells [.int .u8 0, .int .u8 0, .int .i64 0, .str [], .nilSlice, .nilSlice, .int .i64 0, .int .i64 0, .int .i64 0] 27):=fun v k=>by rw[S,Ak _ _ _ _ q2,Ak _ _ _ _ al];exact ci
   have cj: ∀v k,D v k ad=some (.cells [.str [116,104,101,110], .str [101,108,115,101], .str [41]] 9):=fun v k=>by rw[S,Ak _ _ _ _ cf.symm,Ak _ _ _ _ bs.symm];exact cd
   have a1: ∀v k k',upd (D v k) r (some (rdO l k'))=D v k':=fun v k k'=>by rw[S,S,Fy]
   have ck: ∀v v' k,upd (D v k) C (some (.cells [.int .u8 10, .int .u8 0, .int .i64 0, .str [],v', .nilSlice, .int .i64 li, .int .i64 0, .int .i64 0] 27))=D v' k:=fun v v' k=>by rw[S,S,Zi V,Fy]
   have bc: ∀v k,RAt r l k H (D v k):=fun v k=>by rw[S];exact(bt.own ba V _).set k
   have cl:Ba0 (D .nilSlice (k1+1)) [] .nilSlice Hk:=by
    rw[S,Dv cg,Dv bt.get];exact Jf.nil _ _ (Sub.refl _)
   simp(disch:=omega)only[go_sem]
   obtain⟨I,hI⟩: ∃I:Nat×List Ex×Nat->(Nat->DVal)->Ac->Prop,∀s env heap,I s env heap↔(env 0= .optr r 0/\env 2= .optr E 0/\env 3= .optr C 0/\env 15= .oslice 1 ad 0 3 3/\env 16=dI 3/\env 17=dI s.1/\s.1<=3/\s.2.1.length=s.1/\s.2.2<=l.length/\a8=ifR l (P l n).expr li ([Pm,Qp,Bt].drop s.1) s.2.1 s.2.2/\ ∃v,Ba0 (D v s.2.2) s.2.1 v heap):=⟨_,fun _ _ _=>Iff.rfl⟩
   refine Dn5.run I (fun s=>3-s.1) (0,[],k1+1) ((hI _ _ _).2 ?_) ?_
   ·simp(disch:=omega)only[go_sem]
    (repeat' apply And.intro)<;>(try first | rfl | assumption | omega)
    exact⟨_,cl⟩
   ·rintro⟨j,xs,k2⟩ env heap cm
    obtain⟨X,Y,Z,aa,ab,U,hj,cn,bd,J,v,hv⟩:=(hI _ _ _).1 cm
    dsimp only at U hj cn bd J hv
    by_cases c:j<3
    ·have c':(j:Int)<3:=by omega
     obtain⟨w,hw,co⟩: ∃w,([DVal.str [116,104,101,110], .str [101,108,115,101], .str [41]])[j]? =some (.str w)/\ [Pm,Qp,Bt].drop j=w:: [Pm,Qp,Bt].drop (j+1):=by
      have:j=0\/j=1\/j=2:=by omega
      rcases this with rfl | rfl | rfl<;>exact⟨_,rfl,rfl⟩
     rw[co,ifR] at J
     have cp:=Jf.keep hv (cj _ _)
     have g3:=Jf.keep hv (aq _ _)
     simp(disch:=omega)only[go_sem,X,Y,Z,aa,ab,U,c',cp,hw,jD]
     refine Aj (by kernel_rfl) pL17 (by kernel_rfl) ?_
     simp(disch:=omega)only[go_sem,X,Y,Z,aa,ab,U,g3]
     have ar:=b2 _ k2 (Jf.keep hv (ah _ _)) bd
     have be:=(Jz (l:=l) n).expr k2 bd
     dsimp only at ar
     cases hpe:(P l n).expr k2 with
     | bot=>rw[hpe,Qs] at J;rw[J] at hn;exact absurd rfl hn
     | fail M=>
      rw[hpe] at ar
      rw[hpe,Od] at J
      refine(ar (Cf (by simp))).mono ?_
      rintro e H9 ⟨rfl,bf⟩
      have a2:Ba0 (D v M) xs v H9:=by rw[bf,<-a1 v k2];exact Jf.at hv (ah _ _) _
      simp(disch:=omega)only[go_sem]
      rw[J]
      exact RAt.finP ((bc v M).more (Jf.sub a2)) ⟨rfl,rfl⟩
     | ok y M=>
      rw[hpe] at ar be
      rw[hpe,Nf] at J
      dsimp only[Adv] at be
      refine(ar (Cf (by simp))).mono ?_
      rintro e H9 ⟨rfl,bf⟩
      have a2:Ba0 (D v M) xs v H9:=by rw[bf,<-a1 v k2];exact Jf.at hv (ah _ _) _
      have a3:=Jf.keep a2 (aq _ _)
      have bv:=Ad y
      simp(disch:=omega)only[go_sem,X,Y,Z,aa,ab,U,g3,a3,dE]
      rw[Bl7 bv]
      simp(disch:=omega)only[go_sem,X,Y,Z,aa,ab,U,g3,a3]
      intro r8 bg;dsimp only at bg
      have n8:C≠r8:=Ae bg a3
      simp(disch:=omega)only[go_sem,X,Y,Z,aa,ab,U,a3,n8]
      refine Jf.append (m:=1) (Jf.new a2 bg _) (by rw[bv]) (by omega) fun L bw bh=> ?_
      have cq:=Jf.keep bh (aq _ _)
      obtain⟨j1,j2⟩:=Jf.cell1 bh
      simp(disch:=omega)only[go_sem,X,Y,Z,aa,ab,U,cq,j1,j2]
      have a4:Ba0 (D L M) (xs++ [y]) L (upd bw C (some (.cells [.int .u8 10, .int .u8 0, .int .i64 0, .str [],L, .nilSlice, .int .i64 li, .int .i64 0, .int .i64 0] 27))):=by
       have:=Jf.at bh (aq _ _) (some (.cells [.int .u8 10, .int .u8 0, .int .i64 0, .str [],L, .nilSlice, .int .i64 li, .int .i64 0, .int .i64 0] 27))
       rw[ck] at this
       unfold Ba0
       rw[jC,jQ,List.flatMap_append,List.flatMap_singleton]
       exact this
      obtain⟨cr,ct⟩: ∃K,K=upd bw C (some (.cells [.int .u8 10, .int .u8 0, .int .i64 0, .str [],L, .nilSlice, .int .i64 li, .int .i64 0, .int .i64 0] 27)):=⟨_,rfl⟩
      rw[<-ct] at a4⊢
      refine(Sm hG cr w (Jf.keep a4 (ah _ _)) (by omega) (by omega)).mono ?_
      intro e1 bx hq
      unfold must at hq J
      by_cases b5:isW l M [w]=true
      ·rw[if_pos b5] at hq J
       obtain⟨rfl,bi⟩:=hq
       dsimp only at J
       have cu:=Bf b5 be.2
       rw[jQ] at cu
       have bj:Ba0 (D L (M+1)) (xs++ [y]) L bx:=by rw[bi,<-a1 L M];exact Jf.at a4 (ah _ _) _
       have cv:IntKind.i64.wrap ((j:Int)+1)=((j+1:Nat):Int):=by rw[IntKind.wrap_i64];omega
       simp(disch:=omega)only[go_sem,X,Y,Z,aa,ab,U]
       refine⟨(j+1,xs++ [y],M+1),_,Ri.refl _,(hI _ _ _).2 ?_,by dsimp only;omega⟩
       simp(disch:=omega)only[go_sem,X,Y,Z,aa,ab,U,cv]
       (repeat' apply And.intro)<;>(try first | rfl | assumption | omega)
       ·rw[jC,jQ];omega
       ·exact⟨L,bj⟩
      ·rw[if_neg b5] at hq J
       obtain⟨rfl,bi⟩:=hq
       have bj:Ba0 (D L M) (xs++ [y]) L bx:=by rw[bi,<-a1 L M];exact Jf.at a4 (ah _ _) _
       simp(disch:=omega)only[go_sem]
       rw[J]
       exact RAt.finP ((bc L M).more (Jf.sub bj)) ⟨rfl,rfl⟩
    ·have cw:j=3:=by omega
     subst cw
     have c': ¬((3:Nat):Int)<3:=by omega
     rw[show [Pm,Qp,Bt].drop 3= [] from rfl,ifR] at J
     have g3:=Jf.keep hv (aq _ _)
     have g2:=Jf.keep hv (bu _ _)
     obtain⟨j1,j2⟩:=Jf.cell1 hv
     simp(disch:=omega)only[go_sem,X,Y,Z,aa,ab,U,c',g3,g2,j1,j2]
     rw[J]
     have a5:=fun z=>Jf.less (Jf.at hv (bu v k2) z) ((bc v k2).own aj q2 z)
     exact Lt.fin (Jf.sub (a5 _)) (Lt.agg (Lt.ex (l:=xs) (Jf.sub (a5 _)) (Lt.own (a5 _)) (.as0 (Jf.sub (a5 _))))) ⟨rfl,rfl⟩
  ·have cx:isW l k1 [wIf]=false:=by simpa using b1
   rw[if_neg b1,Dv af.get] at ag
   rw[if_neg b1] at hres
   rw[ag]
   simp(disch:=omega)only[go_sem,cx]
   have hs:=Bx6 hG hl 250 (fun m=>(P l m).assoc) (fun m=>(P l m).assocsL) Dh (fun _ _=>rfl) (fun _ _ _=>rfl) (fun m k hk=>(Jz m).assoc k hk) n hc H2 k1 af.get am (fun h=>hn (by rw[hres,h];rfl))
   refine hs.mono ?_
   intro e1 W ai
   cases hcc:(((P l n).assoc k1).then fun a k=>(P l n).assocsL [a] k) with
   | bot=>rw[hcc] at ai;exact ai.elim
   | fail k3=>
    rw[hcc] at ai
    rw[hcc,Od] at hres
    obtain⟨rfl,O⟩:=ai
    simp(disch:=omega)only[go_sem]
    rw[hres]
    exact RAt.finP (by rw[O];exact af.set k3) ⟨rfl,rfl⟩
   | ok xs k3=>
    rw[hcc] at ai
    rw[hcc,Nf] at hres
    obtain⟨rfl,O⟩:=ai
    have c6:k3<=l.length:=by
     have:=Ce ((Jz (l:=l) n).assoc k1 am) (fun a j h1 h2=>(Jz (l:=l) n).assocsL [a] j h2 |>fun h=>Eb h h1)
     rw[hcc] at this
     exact this.2
    have ax:RAt r l k3 H W:=by rw[O];exact af.set _
    have ay:W C=some (.cells [.int .u8 9, .int .u8 0, .int .i64 0, .str [], .nilSlice, .nilSlice, .int .i64 li, .int .i64 0, .int .i64 0] 27):=by rw[O];exact An bq V
    have a0:W E=some (.cells [.int .u8 0, .int .u8 0, .int .i64 0, .str [], .nilSlice, .nilSlice, .int .i64 0, .int .i64 0, .int .i64 0] 27):=by rw[O];exact An bp q2
    simp(disch:=omega)only[go_sem,dAl,ay]
    obtain⟨H6,a6⟩: ∃K,K=upd W C (some (.cells [.int .u8 9, .int .u8 0, .int .i64 0, .str [], .nilSlice, .vslice (xs.flatMap dAs) xs.length, .int .i64 li, .int .i64 0, .int .i64 0] 27)):=⟨_,rfl⟩
    rw[<-a6]
    have bk:RAt r l k3 H H6:=by rw[a6];exact ax.own ba V _
    have cy:H6 C=some (.cells [.int .u8 9, .int .u8 0, .int .i64 0, .str [], .nilSlice, .vslice (xs.flatMap dAs) xs.length, .int .i64 li, .int .i64 0, .int .i64 0] 27):=by rw[a6];exact Aa _ _ _
    have cz:H6 E=some (.cells [.int .u8 0, .int .u8 0, .int .i64 0, .str [], .nilSlice, .nilSlice, .int .i64 0, .int .i64 0, .int .i64 0] 27):=by rw[a6];exact An a0 al
    refine(Sm hG H6 Bt bk.get (by omega) (by omega)).mono ?_
    intro e1 H7 au
    unfold must at au
    by_cases b5:isW l k3 [Bt]=true
    ·rw[if_pos b5] at au hres
     obtain⟨rfl,av⟩:=au
     have c0:RAt r l (k3+1) H H7:=by rw[av];exact bk.set _
     have a7:H7 C=some (.cells [.int .u8 9, .int .u8 0, .int .i64 0, .str [], .nilSlice, .vslice (xs.flatMap dAs) xs.length, .int .i64 li, .int .i64 0, .int .i64 0] 27):=by rw[av];exact An cy V
     have bl:H7 E=some (.cells [.int .u8 0, .int .u8 0, .int .i64 0, .str [], .nilSlice, .nilSlice, .int .i64 0, .int .i64 0, .int .i64 0] 27):=by rw[av];exact An cz q2
     have ac:=fun z=>c0.own aj q2 z
     by_cases c1:xs.length=1
     ·obtain⟨x,rfl⟩:=List.length_eq_one_iff.1 c1
      have bz:=Fz x
      have hge:=Cq4 x
      have hle:=Ad x.e
      have c3:=Bo x.e
      rw[List.flatMap_singleton] at a7
      by_cases c2:x.c= []
      ·have bm:x.c.length=0:=by rw[c2];rfl
       simp(disch:=omega)only[go_sem,a7,bl,jQ,List.flatMap_singleton,bz,bm]
       try simp(disch:=omega)only[go_sem,hge,hle,c3]
       rw[hres,Bj9,if_pos c2]
       exact RAt.fin (ac _) ⟨rfl,rfl⟩
      ·have bm: ¬(x.c.length:Int)=0:=fun h=>c2 (List.length_eq_zero_iff.1 (by omega))
       simp(disch:=omega)only[go_sem,a7,bl,jQ,List.flatMap_singleton,bz,bm]
       rw[hres,Bj9,if_neg c2]
       exact Lt.fin (ac _) (Lt.agg (Lt.ex (a:= [x]) (ac _) (.exs0 (ac _)) (by rw[dAl,List.flatMap_singleton];exact Lt.keep (ac _) _))) ⟨rfl,rfl⟩
     ·have c4: ¬(xs.length:Int)=1:=by omega
      simp(disch:=omega)only[go_sem,a7,bl,c4]
      have hag:Bj9 li xs= .mk 9 0 0 [] [] xs li 0 0:=by
       match xs,c1 with
       | [],_=>rfl
       | [x],h=>exact absurd rfl h
       | x::y::zs,_=>rfl
      rw[hres,hag]
      exact Lt.fin (ac _) (Lt.agg (Lt.ex (a:=xs) (ac _) (.exs0 (ac _)) (Lt.keep (ac _) _))) ⟨rfl,rfl⟩
    ·rw[if_neg b5] at au hres
     obtain⟨rfl,av⟩:=au
     simp(disch:=omega)only[go_sem]
     rw[hres]
     exact RAt.finP (by rw[av];exact bk.set k3) ⟨rfl,rfl⟩
 ·rw[if_neg b0] at hq hres
  obtain⟨rfl,ae⟩:=hq
  simp(disch:=omega)only[go_sem]
  rw[hres]
  exact RAt.finP (by rw[ae];exact bb.set k) ⟨rfl,rfl⟩
end
section
variable {G:Nat->DVal} {H0 H H' K T B:Ac} {r k:Nat} {l:List Tok}
theorem Vf (h: ∀b,K b=none->T b=none) (w:World):Lasts K w T w:=⟨fun b i x hb hc=>⟨h b hb,hc⟩,Nat.le_refl _,fun _ _=>rfl⟩
theorem Lt.keepD (h: ∀b,K b=none->T b=none) (v:DVal):Lt K v T v:=fun w _ x hx=>Rel.lasts (Vf h w) _ _ hx
theorem Kq.keepD (h: ∀b,K b=none->T b=none) (vs:List DVal):Kq K vs T vs:=fun w _ x hx=>Az.lasts (Vf h w) _ _ hx
theorem Lt.cellsD {e:TypeId} {size q n:Nat} {cs cs':List DVal} (hr:T q=none) (C:K q=some (.cells cs e)) (hl:cs.length=n*size) (hs:Kq K cs T cs'):Lt K (.oslice size q 0 n n) T (.vslice cs' n):=fun w hw x hx=>by
 simp only[Rel] at hx⊢
 obtain⟨o,cap,rfl,h1,h2,h3,h4⟩:=hx;refine⟨_,cap,rfl,h2, ?_⟩;by_cases h0:cs= []
 ·subst h0;have:=hs w hw [] (by simp [Az]);cases cs' with
  | nil=>exact .inl rfl
  | cons c cs'=>simp [Az] at this
 ·obtain⟨h,D,hh⟩:=hw.holds C;have ho:o=0:=by
   rcases h3 with h3 | h3
   ·exfalso;have:n=0:=by omega
    subst this;rw[Nat.zero_mul] at hl;exact h0 (List.length_eq_zero_iff.1 hl)
   ·exact h3
  subst ho;exact .inr ⟨q,0,h,rfl, .inr ⟨hr,fun i y E=>by simpa using hh i y E⟩,hs w hw h D⟩
theorem Lt.ownD {e:TypeId} {size n:Nat} {cs:List DVal} {v:DVal} (h: ∀b,K b=none->T b=none) (y: ∀b,B b=none->T b=none) (hv:Jf B e size n cs v K):Lt K v T (.vslice cs n):=by
 rcases hv with⟨rfl,rfl,rfl,_⟩ | ⟨q,h1,h2,rfl,h4,_⟩
 ·exact fun w _ x hx=>Rel.lasts (Vf h w) _ _ (DLe.nil w K x hx)
 ·exact Lt.cellsD (y q h1) h4 h2 (Kq.keepD h _)
theorem Kq.exD {k o n:Int} {s:List UInt8} {y C:DVal} {m:List Ex} {a:List As} {li en t:Int} (h: ∀b,K b=none->T b=none) (hl:Lt K y T (dXs m)) (ha:Lt K C T (dAl a)):
  Kq K [.int .u8 k, .int .u8 o, .int .i64 n, .str s,y,C, .int .i64 li, .int .i64 en, .int .i64 t] T (dEx (.mk k o n s m a li en t)):=by
 rw[Xf];exact .cons (.keepD h _) (.cons (.keepD h _) (.cons (.keepD h _) (.cons (.keepD h _) (.cons hl (.cons ha (.keepD h _))))))
theorem Lt.as0D (h: ∀b,K b=none->T b=none):Lt K .nilSlice T (dAl []):=fun w _ x hx=>Rel.lasts (Vf h w) _ _ (DLe.nil w K x hx)
theorem Lt.exs0D (h: ∀b,K b=none->T b=none):Lt K .nilSlice T (dXs []):=fun w _ x hx=>Rel.lasts (Vf h w) _ _ (DLe.nil w K x hx)
theorem Ew6 {h:Ac} {y k':Nat} {o z:DObj} {l:List Tok} {r:Nat} (C:RAt r l k' h K) (D:K y=some o): ∀b,K b=none->(upd (upd h r (some (rdO l k'))) y (some z)) b=none:=fun b hb=>by
 simp only[upd];split
 ·rename_i e1;rw[e1,D] at hb;cases hb
 ·have:=Sub.lo C hb;simpa only[upd] using this
theorem Ri.cell {env:Nat->DVal} {y:Nat} {cs cs':List DVal} {e:TypeId} (D:K y=some (.cells cs e)) (E:Sub B K) (hs:Kq K cs (upd B y (some (.cells cs' e))) cs'):Ri G ⟨env,K⟩ ⟨env,upd B y (some (.cells cs' e))⟩:=fun w C hG=>by
 have hd: ∀b,K b=none->(upd B y (some (.cells cs' e))) b=none:=fun b hb=>by
  simp only[upd];split
  ·rename_i e1;rw[e1,D] at hb;cases hb
  ·exact E.lo hb
 refine⟨fun b o hb=> ?_,fun b hb h=>hb (hd b h),hG.lasts (Vf hd w),fun i x hx=>Rel.lasts (Vf hd w) _ _ hx⟩;simp only[upd] at hb;split at hb
 ·rename_i e1
  subst e1;cases hb;obtain⟨xs,c,fz,I,J,L,M⟩:=C _ _ D;exact⟨xs,c,fz,I,J,hs w C xs L,M⟩
 ·exact(C b o (E b o hb)).lasts (Vf hd w)
theorem RAt.up {r k C:Nat} {l:List Tok} {H y K:Ac} (h:RAt r l k y K) (D:RAt r l C H y):RAt r l k H K:=fun b o hb=>by
 simp only[upd] at hb;by_cases c:b=r
 ·rw[if_pos c] at hb;exact h b o (by simp only[upd];rw[if_pos c];exact hb)
 ·rw[if_neg c] at hb;exact h b o (by simp only[upd];rw[if_neg c];exact D b o (by simp only[upd];rw[if_neg c];exact hb))
theorem Xk {h:Ac} {y q k':Nat} {x:Ex} {e:TypeId} {o:DObj} {z:DObj} {l:List Tok} {r:Nat} {C:DVal} {a:List As} {D li:Int} {s:List UInt8} (E:RAt r l k' h K) (I:K y=some o) (J:h q=none) (L:q≠r) (M:q≠y) (O:K q=some (.cells (dEx x) e)) (ha: ∀T,(∀b,K b=none->T b=none)->Lt K C T (dAl a)):
  Kq K [.int .u8 D, .int .u8 0, .int .i64 0, .str s, .oslice 9 q 0 1 1,C, .int .i64 li, .int .i64 0, .int .i64 0] (upd (upd h r (some (rdO l k'))) y (some z)) (dEx (.mk D 0 0 s [x] a li 0 0)):=by
 have hd: ∀b,K b=none->(upd (upd h r (some (rdO l k'))) y (some z)) b=none:=fun b hb=>by
  simp only[upd];split
  ·rename_i e1;rw[e1,I] at hb;cases hb
  ·have:=Sub.lo E hb;simpa only[upd] using this
 refine Kq.exD hd ?_ (ha _ hd);show Lt K _ _ (.vslice ([x].flatMap dEx) 1);rw[List.flatMap_singleton];exact Lt.cellsD (by simp only[upd];rw[if_neg M,if_neg L];exact J) O (by rw[Ad]) (Kq.keepD hd _)
theorem Dg1 {h B:Ac} {C k':Nat} {x y:Ex} {e:TypeId} {o:DObj} {z:DObj} {l:List Tok} {r:Nat} {v:DVal} {E li:Int} {s:List UInt8} (I:RAt r l k' h K) (D:K C=some o) (J:RAt r l k' h B) (L:B C≠none) (hv:Jf B e 9 2 ([x,y].flatMap dEx) v K):
  Kq K [.int .u8 E, .int .u8 0, .int .i64 0, .str s,v, .nilSlice, .int .i64 li, .int .i64 0, .int .i64 0] (upd (upd h r (some (rdO l k'))) C (some z)) (dEx (.mk E 0 0 s [x,y] [] li 0 0)):=by
 have key: ∀K':Ac,RAt r l k' h K'->K' C≠none-> ∀b,K' b=none->(upd (upd h r (some (rdO l k'))) C (some z)) b=none:=fun K' ht D b hb=>by
  simp only[upd];split
  ·rename_i e1;rw[e1] at hb;exact absurd hb D
  ·have:=Sub.lo ht hb;simpa only[upd] using this
 have hd:=key K I (by rw[D];simp);exact Kq.exD hd (Lt.ownD hd (key B J L) hv) (.as0D hd)
end
section
variable {G:Nat->DVal} {H0 H H':Ac} {r k:Nat} {l:List Tok}
set_option maxHeartbeats 4000000 in
theorem Ee0 (hG:GX G) (hl:l.length<=800000) (n:Nat) (cj: ∀m≤n,RdC Tryz.prog G l 251 r fun k=>((P l m).arg k).mp dA) (ck: ∀m≤n,RdC Tryz.prog G l 173 r fun k=>((P l m).paren k).mp dE):RdC Tryz.prog G l 65 r fun k=>((P l (n+1)).name k).mp dE:=by
 intro H k hr hk hn;obtain⟨t,ht⟩: ∃t,t=tk l k:=⟨_,rfl⟩;have e:(P l (n+1)).name k=Iz l k fun s k1=>(P l n).nameL (tk l k).line (.mk 3 0 0 s [] [] (tk l k).line 0 0) k1:=rfl;dsimp only at hn⊢
 rw[e,Iz,<-ht] at hn⊢
 refine Ab Tryz.func65 Tryz.call65 rfl (by kernel_rfl) ?_;simp(disch:=omega)only[go_sem];intro r2 bb;dsimp only at bb;obtain⟨Ha,bh⟩: ∃K,K=upd H r2 (some (.cells [.int .u8 0, .int .u8 0, .int .i64 0, .str [], .nilSlice, .nilSlice, .int .i64 0, .int .i64 0, .int .i64 0] 27)):=⟨_,rfl⟩;rw[<-bh];have cl:Ha r2=some (.cells [.int .u8 0, .int .u8 0, .int .i64 0, .str [], .nilSlice, .nilSlice, .int .i64 0, .int .i64 0, .int .i64 0] 27):=by rw[bh];exact Aa _ _ _
 have n2:r≠r2:=Ae bb hr;have q2:=n2.symm;have ha:RAt r l k H Ha:=by rw[bh];exact(RAt.refl hr).new bb _
 simp(disch:=omega)only[go_sem];refine(Av4 G Ha 1 ha.get (by omega) (by omega)).mono ?_;intro e1 H1 hq;rw[<-ht] at hq;by_cases c:t.kind=1
 ·rw[if_pos c] at hn hq⊢
  obtain⟨rfl,bc⟩:=hq;have dn:k+1<=l.length:=Rs (by rw[<-ht,c];decide);have U:RAt r l (k+1) H H1:=by rw[bc];exact ha.set _
  have b0:H1 r2=some (.cells [.int .u8 0, .int .u8 0, .int .i64 0, .str [], .nilSlice, .nilSlice, .int .i64 0, .int .i64 0, .int .i64 0] 27):=by rw[bc];exact An cl q2
  simp(disch:=omega)only[go_sem,Cy];intro r3 ax;dsimp only at ax;have cm:r2≠r3:=Ae ax b0;have n3:r≠r3:=Ae ax U.get;have q3:=n3.symm;have dp:H r3=none:=U.lo ax;simp(disch:=omega)only[go_sem];obtain⟨S,bd⟩: ∃K,K=upd H1 r3 (some (.cells [.int .u8 t.kind,dI t.line, .str t.text,dI t.n] 31)):=⟨_,rfl⟩;rw[<-bd];have b6:S r3=some (.cells [.int .u8 t.kind,dI t.line, .str t.text,dI t.n] 31):=by rw[bd];exact Aa _ _ _
  have b7:S r2=some (.cells [.int .u8 0, .int .u8 0, .int .i64 0, .str [], .nilSlice, .nilSlice, .int .i64 0, .int .i64 0, .int .i64 0] 27):=by rw[bd];exact An b0 cm
  have ah:RAt r l (k+1) H S:=by rw[bd];exact U.new ax _
  intro O ae;dsimp only at ae;have dq:r2≠O:=Ae ae b7;have dr:r3≠O:=Ae ae b6;have n4:r≠O:=Ae ae ah.get;have Y:=n4.symm;simp(disch:=omega)only[go_sem,Xf,List.flatMap_nil,jB];obtain⟨x0,bi⟩: ∃x0,x0=Ex.mk 3 0 0 t.text [] [] t.line 0 0:=⟨_,rfl⟩;have ds:dEx x0= [.int .u8 3, .int .u8 0, .int .i64 0, .str t.text, .vslice [] 0, .vslice [] 0, .int .i64 t.line, .int .i64 0, .int .i64 0]:=by rw[bi,Xf];rfl
  rw[<-bi] at hn⊢
  obtain⟨n',rfl⟩: ∃n',n=n'+1:=by
   cases n with
   | zero=>exact absurd rfl hn
   | succ n'=>exact⟨n',rfl⟩
  obtain⟨bj,hres⟩: ∃bj,bj=(P l (n'+1)).nameL t.line x0 (k+1):=⟨_,rfl⟩;rw[<-hres] at hn⊢
  have hT: ∀x k' b o,b≠O->upd S r (some (rdO l k')) b=some o->upd (upd S r (some (rdO l k'))) O (some (.cells (dEx x) 27)) b=some o:=fun x k' b o hb h=>by rw[Ak _ _ _ _ hb];exact h
  obtain⟨I,hI⟩: ∃I:Nat×Ex×Nat->(Nat->DVal)->Ac->Prop,∀s env heap,I s env heap↔(env 0= .optr r 0/\env 2= .optr r2 0/\env 3= .optr r3 0/\env 4= .optr O 0/\s.2.2<=l.length/\s.1<=n'/\bj=(P l (s.1+1)).nameL t.line s.2.1 s.2.2/\heap=upd (upd S r (some (rdO l s.2.2))) O (some (.cells (dEx s.2.1) 27))):=⟨_,fun _ _ _=>Iff.rfl⟩;have be:RAt r l (k+1) S (upd S O (some (.cells [.int .u8 3, .int .u8 0, .int .i64 0, .str t.text, .nilSlice, .nilSlice, .int .i64 t.line, .int .i64 0, .int .i64 0] 27))):=(RAt.refl ah.get).own ae Y _;refine Dn5.runG I (fun s=>s.1) (n',x0,k+1) ⟨_,upd (upd S r (some (rdO l (k+1)))) O (some (.cells (dEx x0) 27))⟩ (Ri.cell (Aa _ _ _) be ?_) ((hI _ _ _).2 ?_) ?_
  ·rw[bi];exact Kq.exD (Ew6 be (Aa _ _ _)) (.exs0D (Ew6 be (Aa _ _ _))) (.as0D (Ew6 be (Aa _ _ _)))
  ·simp(disch:=omega)only[go_sem]
  ·rintro⟨m,x,k1⟩ env heap cn;obtain⟨E,J,L,M,aq,hm,C,hh⟩:=(hI _ _ _).1 cn;dsimp only at aq hm C hh;have eP:(P l (m+1)).nameL t.line x k1=if isW l k1 [Jl,Zr] then(P l m).nameL t.line (.mk 5 0 0 [] [x] [] t.line 0 0) (k1+2) else if isW l k1 [Jl] then Iz l (k1+1) fun s k=>(P l m).nameL t.line (.mk 4 0 0 s [x] [] t.line 0 0) k
     else if isW l k1 [Bi] then((P l m).arg (k1+1)).then fun a k=>((P l m).argsL [a] k).then fun xs k=>must l Bt k fun k=>(P l m).nameL t.line (.mk 7 0 0 [] [x] xs t.line 0 0) k
     else if isW l k1 [Iq,Bi] then((P l m).paren (k1+1)).then fun y k=>(P l m).nameL t.line (.mk 8 0 0 [] [x,y] [] t.line 0 0) k
     else if isW l k1 [Iq] then Iz l (k1+1) fun s k=>(P l m).nameL t.line (.mk 6 0 0 s [x] [] t.line 0 0) k else .ok x k1:=rfl
   rw[eP] at C;have ar:RAt r l k1 S heap:=by rw[hh];exact((RAt.refl ah.get).set k1).own ae Y _
   have h4:heap O=some (.cells (dEx x) 27):=by rw[hh];exact Aa _ _ _
   have h3:heap r3=some (.cells [.int .u8 t.kind,dI t.line, .str t.text,dI t.n] 31):=ar _ _ (by rw[Ak _ _ _ _ q3];exact b6);have bk:=Ad x;simp(disch:=omega)only[go_sem,E,J,L,M,h4,h3];rw[Bl7 bk];simp(disch:=omega)only[go_sem,E,J,L,M,h4,h3];intro q hq0;dsimp only at hq0;have p3:r3≠q:=Ae hq0 h3;have p4:O≠q:=Ae hq0 h4;have pr:r≠q:=Ae hq0 ar.get;have ay:S q=none:=ar.lo hq0;simp(disch:=omega)only[go_sem,E,J,L,M,h4,h3,p3,p4];intro V bl;dsimp only at bl;obtain⟨m5,co,bm⟩:=Av.1 bl;have ai:O≠V:=Ae bm h4;have ab:r≠V:=Ae bm ar.get;have a0:S V=none:=ar.lo bm;simp(disch:=omega)only[go_sem,E,J,L,M,h4,h3,p3,p4];have au:q≠V:=by first | exact m5 | exact co
   obtain⟨K1,a1⟩: ∃K,K=upd (upd heap q (some (.cells (dEx x) 27))) V (some (.cells [.int .u8 0, .int .u8 0, .int .i64 0, .str [], .oslice 9 q 0 1 1, .nilSlice, .int .i64 t.line, .int .i64 0, .int .i64 0] 27)):=⟨_,rfl⟩;rw[<-a1];have U:RAt r l k1 S K1:=by rw[a1];exact(ar.new hq0 _).new bl _
   have a2:K1 V=some (.cells [.int .u8 0, .int .u8 0, .int .i64 0, .str [], .oslice 9 q 0 1 1, .nilSlice, .int .i64 t.line, .int .i64 0, .int .i64 0] 27):=by rw[a1];exact Aa _ _ _
   have a3:K1 q=some (.cells (dEx x) 27):=by rw[a1];exact An (Aa _ _ _) au
   have av:K1 O=some (.cells (dEx x) 27):=by rw[a1];exact An (An h4 p4) ai
   have aw:K1 r2=some (.cells [.int .u8 0, .int .u8 0, .int .i64 0, .str [], .nilSlice, .nilSlice, .int .i64 0, .int .i64 0, .int .i64 0] 27):=U _ _ (by rw[Ak _ _ _ _ q2];exact b7);intro w1 b8;dsimp only at b8;simp(disch:=omega)only[go_sem];refine(Gm6 hG K1 w1 Jl Zr b8 U.get (by omega) (by omega)).mono ?_;rintro _ H2 ⟨rfl,aj⟩;by_cases b1:isW l k1 [Jl,Zr]=true
   ·rw[if_pos b1] at aj C;have af:=Bf b1 aq;rw[show [Jl,Zr].length=2 from rfl] at af;have Z:RAt r l (k1+2) S H2:=by rw[aj];exact U.set _
    have cp:H2 V=some (.cells [.int .u8 0, .int .u8 0, .int .i64 0, .str [], .oslice 9 q 0 1 1, .nilSlice, .int .i64 t.line, .int .i64 0, .int .i64 0] 27):=by rw[aj];exact An a2 ab.symm
    have cq:H2 O=some (.cells (dEx x) 27):=by rw[aj];exact An av Y
    have cr:H2 q=some (.cells (dEx x) 27):=by rw[aj];exact An a3 pr.symm
    have dt:H2 r2=some (.cells [.int .u8 0, .int .u8 0, .int .i64 0, .str [], .nilSlice, .nilSlice, .int .i64 0, .int .i64 0, .int .i64 0] 27):=by rw[aj];exact An aw q2
    obtain⟨D,rfl⟩: ∃D,m=D+1:=by
     cases m with
     | zero=>rw[C] at hn;exact absurd rfl hn
     | succ D=>exact⟨D,rfl⟩
    simp(disch:=omega)only[go_sem,b1,E,J,L,M,cp,cq,ai];have ag:=fun z X=>(Z.own a0 ab.symm z).own ae Y X;have am:=fun z X=>An (y:=X) (An (y:=z) cr au) p4.symm;refine⟨(D, .mk 5 0 0 [] [x] [] t.line 0 0,k1+2),_,Ri.cell (Aa _ _ _) (ag _ _) (Xk (a:= []) (ag _ _) (Aa _ _ _) ay pr.symm p4.symm (am _ _) (fun T hd=> .as0D hd)),(hI _ _ _).2 ?_,by dsimp only;omega⟩;simp(disch:=omega)only[go_sem,E,J,L,M]
   ·have ct:isW l k1 [Jl,Zr]=false:=by simpa using b1
    rw[if_neg b1,Dv U.get] at aj;rw[if_neg b1] at C;rw[aj];simp(disch:=omega)only[go_sem,ct,E,J,L,M];intro w2 b9;dsimp only at b9;simp(disch:=omega)only[go_sem];refine(Av3 hG K1 w2 Jl b9 U.get (by omega) (by omega)).mono ?_;rintro _ H3 ⟨rfl,ak⟩;by_cases b2:isW l k1 [Jl]=true
    ·rw[if_pos b2] at ak C;have af:=Bf b2 aq;rw[jQ] at af;have Z:RAt r l (k1+1) S H3:=by rw[ak];exact U.set _
     have cu:H3 V=some (.cells [.int .u8 0, .int .u8 0, .int .i64 0, .str [], .oslice 9 q 0 1 1, .nilSlice, .int .i64 t.line, .int .i64 0, .int .i64 0] 27):=by rw[ak];exact An a2 ab.symm
     have cv:H3 O=some (.cells (dEx x) 27):=by rw[ak];exact An av Y
     have cw:H3 q=some (.cells (dEx x) 27):=by rw[ak];exact An a3 pr.symm
     have du:H3 r2=some (.cells [.int .u8 0, .int .u8 0, .int .i64 0, .str [], .nilSlice, .nilSlice, .int .i64 0, .int .i64 0, .int .i64 0] 27):=by rw[ak];exact An aw q2
     simp(disch:=omega)only[go_sem,b2,E,J,L,M];have bn: ∃t2,t2=tk l (k1+1):=⟨_,rfl⟩;obtain⟨t2,a4⟩:=bn;unfold Iz at C;refine(Av4 G H3 1 Z.get (by omega) (by omega)).mono ?_;intro e1 H9 aa;rw[<-a4] at aa C;by_cases c9:t2.kind=1
     ·rw[if_pos c9] at aa C;obtain⟨rfl,W⟩:=aa;have bo:k1+2<=l.length:=Rs (by rw[<-a4,c9];decide);have a5:RAt r l (k1+2) S H9:=by rw[W];exact Z.set _
      have bp:H9 V=some (.cells [.int .u8 0, .int .u8 0, .int .i64 0, .str [], .oslice 9 q 0 1 1, .nilSlice, .int .i64 t.line, .int .i64 0, .int .i64 0] 27):=by rw[W];exact An cu ab.symm
      have bq:H9 O=some (.cells (dEx x) 27):=by rw[W];exact An cv Y
      have br:H9 q=some (.cells (dEx x) 27):=by rw[W];exact An cw pr.symm
      obtain⟨D,rfl⟩: ∃D,m=D+1:=by
       cases m with
       | zero=>rw[C] at hn;exact absurd rfl hn
       | succ D=>exact⟨D,rfl⟩
      simp(disch:=omega)only[go_sem,Cy,E,J,L,M,bp,bq,ai];have ag:=fun z X=>(a5.own a0 ab.symm z).own ae Y X;have am:=fun z X=>An (y:=X) (An (y:=z) br au) p4.symm;refine⟨(D, .mk 4 0 0 t2.text [x] [] t.line 0 0,k1+2),_,Ri.cell (Aa _ _ _) (ag _ _) (Xk (a:= []) (ag _ _) (Aa _ _ _) ay pr.symm p4.symm (am _ _) (fun T hd=> .as0D hd)),(hI _ _ _).2 ?_,by dsimp only;omega⟩;simp(disch:=omega)only[go_sem,E,J,L,M]
     ·rw[if_neg c9] at aa C;obtain⟨rfl,W⟩:=aa;simp(disch:=omega)only[go_sem];rw[C];exact RAt.finP (by rw[W];exact RAt.up (Z.set _) ah) ⟨rfl,rfl⟩
    ·have cx:isW l k1 [Jl]=false:=by simpa using b2
     rw[if_neg b2,Dv U.get] at ak;rw[if_neg b2] at C;rw[ak];simp(disch:=omega)only[go_sem,cx,E,J,L,M];intro w3 ca;dsimp only at ca;simp(disch:=omega)only[go_sem];refine(Av3 hG K1 w3 Bi ca U.get (by omega) (by omega)).mono ?_;rintro _ H4 ⟨rfl,al⟩;by_cases b3:isW l k1 [Bi]=true
     ·rw[if_pos b3] at al C;have af:=Bf b3 aq;rw[jQ] at af;have Z:RAt r l (k1+1) S H4:=by rw[al];exact U.set _
      have cy:H4 V=some (.cells [.int .u8 0, .int .u8 0, .int .i64 0, .str [], .oslice 9 q 0 1 1, .nilSlice, .int .i64 t.line, .int .i64 0, .int .i64 0] 27):=by rw[al];exact An a2 ab.symm
      have cz:H4 O=some (.cells (dEx x) 27):=by rw[al];exact An av Y
      have c0:H4 q=some (.cells (dEx x) 27):=by rw[al];exact An a3 pr.symm
      have dv:H4 r2=some (.cells [.int .u8 0, .int .u8 0, .int .i64 0, .str [], .nilSlice, .nilSlice, .int .i64 0, .int .i64 0, .int .i64 0] 27):=by rw[al];exact An aw q2
      simp(disch:=omega)only[go_sem,b3,E,J,L,M];have c1: ∀(a:Res As) (f:As->Nat->Res (List As)) (g:List As->Nat->Res Ex),(a.then fun x k=>(f x k).then g)=(a.then f).then g:=fun a f g=>by cases a<;>rfl
      rw[c1] at C;have a6:=Ed9 hG hl m (fun i hi=>cj i (by omega)) H4 (k1+1) Z.get af;dsimp only at a6;cases hcc:(((P l m).arg (k1+1)).then fun a k=>(P l m).argsL [a] k) with
      | bot=>rw[hcc,Qs] at C;rw[C] at hn;exact absurd rfl hn
      | fail k3=>
       rw[hcc] at a6;rw[hcc,Od] at C;refine(a6 (Cf (by simp))).mono ?_;rintro e H7 ⟨rfl,ad⟩;simp(disch:=omega)only[go_sem];rw[C];exact RAt.finP (by rw[ad];exact RAt.up (Z.set _) ah) ⟨rfl,rfl⟩
      | ok xs k3=>
       rw[hcc] at a6;rw[hcc,Nf] at C;have c2:k3<=l.length:=by
        have:=Ce ((Jz (l:=l) m).arg (k1+1) af) (fun a j h1 h2=>Eb ((Jz (l:=l) m).argsL [a] j h2) h1);rw[hcc] at this;exact this.2
       refine(a6 (Cf (by simp))).mono ?_;rintro e H7 ⟨rfl,ad⟩;have bs:RAt r l k3 S H7:=by rw[ad];exact Z.set _
       have ao:H7 V=some (.cells [.int .u8 0, .int .u8 0, .int .i64 0, .str [], .oslice 9 q 0 1 1, .nilSlice, .int .i64 t.line, .int .i64 0, .int .i64 0] 27):=by rw[ad];exact An cy ab.symm
       have bt:H7 O=some (.cells (dEx x) 27):=by rw[ad];exact An cz Y
       have a7:H7 q=some (.cells (dEx x) 27):=by rw[ad];exact An c0 pr.symm
       simp(disch:=omega)only[go_sem,dAl,E,J,L,M,ao];obtain⟨H8,a8⟩: ∃K,K=upd H7 V (some (.cells [.int .u8 7, .int .u8 0, .int .i64 0, .str [], .oslice 9 q 0 1 1, .vslice (xs.flatMap dAs) xs.length, .int .i64 t.line, .int .i64 0, .int .i64 0] 27)):=⟨_,rfl⟩;rw[<-a8];have bu:RAt r l k3 S H8:=by rw[a8];exact bs.own a0 ab.symm _
       have c3:H8 V=some (.cells [.int .u8 7, .int .u8 0, .int .i64 0, .str [], .oslice 9 q 0 1 1, .vslice (xs.flatMap dAs) xs.length, .int .i64 t.line, .int .i64 0, .int .i64 0] 27):=by rw[a8];exact Aa _ _ _
       have c4:H8 O=some (.cells (dEx x) 27):=by rw[a8];exact An bt ai
       have c5:H8 q=some (.cells (dEx x) 27):=by rw[a8];exact An a7 au
       refine(Sm hG H8 Bt bu.get (by omega) (by omega)).mono ?_;intro e1 H9 aa;unfold must at aa C;by_cases c9:isW l k3 [Bt]=true
       ·rw[if_pos c9] at aa C;obtain⟨rfl,W⟩:=aa;have bo:=Bf c9 c2;rw[jQ] at bo;have a5:RAt r l (k3+1) S H9:=by rw[W];exact bu.set _
        have c6:H9 V=some (.cells [.int .u8 7, .int .u8 0, .int .i64 0, .str [], .oslice 9 q 0 1 1, .vslice (xs.flatMap dAs) xs.length, .int .i64 t.line, .int .i64 0, .int .i64 0] 27):=by rw[W];exact An c3 ab.symm
        have c7:H9 O=some (.cells (dEx x) 27):=by rw[W];exact An c4 Y
        have c8:H9 q=some (.cells (dEx x) 27):=by rw[W];exact An c5 pr.symm
        dsimp only at C;obtain⟨D,rfl⟩: ∃D,m=D+1:=by
         cases m with
         | zero=>rw[C] at hn;exact absurd rfl hn
         | succ D=>exact⟨D,rfl⟩
        simp(disch:=omega)only[go_sem,E,J,L,M,c6,c7,ai];have ag:=fun X=>a5.own ae Y X;have am:=fun X=>An (y:=X) c8 p4.symm;refine⟨(D, .mk 7 0 0 [] [x] xs t.line 0 0,k3+1),_,Ri.cell (Aa _ _ _) (ag _) (Xk (a:=xs) (ag _) (Aa _ _ _) ay pr.symm p4.symm (am _) (fun T hd=>Lt.keepD hd _)),(hI _ _ _).2 ?_,by dsimp only;omega⟩;simp(disch:=omega)only[go_sem,E,J,L,M]
       ·rw[if_neg c9] at aa C;obtain⟨rfl,W⟩:=aa;simp(disch:=omega)only[go_sem];rw[C];exact RAt.finP (by rw[W];exact RAt.up (bu.set _) ah) ⟨rfl,rfl⟩
     ·have da:isW l k1 [Bi]=false:=by simpa using b3
      rw[if_neg b3,Dv U.get] at al;rw[if_neg b3] at C;rw[al];simp(disch:=omega)only[go_sem,da,E,J,L,M];intro w4 cb;dsimp only at cb;simp(disch:=omega)only[go_sem];refine(is2 hG K1 w4 Iq Bi cb U.get (by omega) (by omega)).mono ?_;rintro _ H5 ⟨rfl,db⟩;rw[db];by_cases b4:isW l k1 [Iq,Bi]=true
      ·rw[if_pos b4] at C;have af:=Bf b4 aq;rw[show [Iq,Bi].length=2 from rfl] at af;have gr:=U.get;unfold rdO at gr;have dc:IntKind.i64.wrap ((k1:Int)+1)=((k1+1:Nat):Int):=by rw[IntKind.wrap_i64];omega
       simp(disch:=omega)only[go_sem,b4,E,J,L,M,gr,dc];obtain⟨H6,ac⟩: ∃H6,H6=upd K1 r (some (rdO l (k1+1))):=⟨_,rfl⟩;have cc:=ac;unfold rdO at cc;rw[<-cc];have Z:RAt r l (k1+1) S H6:=by rw[ac];exact U.set _
       have ap:H6 V=some (.cells [.int .u8 0, .int .u8 0, .int .i64 0, .str [], .oslice 9 q 0 1 1, .nilSlice, .int .i64 t.line, .int .i64 0, .int .i64 0] 27):=by rw[ac];exact An a2 ab.symm
       have bv:H6 O=some (.cells (dEx x) 27):=by rw[ac];exact An av Y
       have bw:H6 q=some (.cells (dEx x) 27):=by rw[ac];exact An a3 pr.symm
       have dd:H6 r2=some (.cells [.int .u8 0, .int .u8 0, .int .i64 0, .str [], .nilSlice, .nilSlice, .int .i64 0, .int .i64 0, .int .i64 0] 27):=by rw[ac];exact An aw q2
       refine Aj (by kernel_rfl) (.take 0 (.take 1 (.take 2 (.take 6 (.go 3 [1] (.go 4 [1] (.go 5 [] (.go 7 [] (.take 8 (.go 9 [] .done)))))))))) (by kernel_rfl) ?_;simp(disch:=omega)only[go_sem,E,J,L,M,ap];have a9:=ck m (by omega) H6 (k1+1) Z.get (by omega);have cd:=(Jz (l:=l) m).paren (k1+1) (by omega);dsimp only at a9;cases hcc:(P l m).paren (k1+1) with
       | bot=>rw[hcc,Qs] at C;rw[C] at hn;exact absurd rfl hn
       | fail k3=>
        rw[hcc] at a9;rw[hcc,Od] at C;refine(a9 (Cf (by simp))).mono ?_;rintro e H7 ⟨rfl,ad⟩;simp(disch:=omega)only[go_sem];rw[C];exact RAt.finP (by rw[ad];exact RAt.up (Z.set _) ah) ⟨rfl,rfl⟩
       | ok y k3=>
        rw[hcc] at a9 cd;rw[hcc,Nf] at C;dsimp only[Adv] at cd;refine(a9 (Cf (by simp))).mono ?_;rintro e H7 ⟨rfl,ad⟩;have bs:RAt r l k3 S H7:=by rw[ad];exact Z.set _
        have ao:H7 V=some (.cells [.int .u8 0, .int .u8 0, .int .i64 0, .str [], .oslice 9 q 0 1 1, .nilSlice, .int .i64 t.line, .int .i64 0, .int .i64 0] 27):=by rw[ad];exact An ap ab.symm
        have bt:H7 O=some (.cells (dEx x) 27):=by rw[ad];exact An bv Y
        have a7:H7 q=some (.cells (dEx x) 27):=by rw[ad];exact An bw pr.symm
        have ce:=Ad y;simp(disch:=omega)only[go_sem,dE,E,J,L,M,ap,ao];rw[Bl7 ce];simp(disch:=omega)only[go_sem,E,J,L,M,ap,ao];intro r8 bf;dsimp only at bf;have p8:q≠r8:=Ae bf a7;have de:V≠r8:=Ae bf ao;simp(disch:=omega)only[go_sem,E,J,L,M,ap,ao,de];rw[if_neg p8,a7];obtain⟨Bq,ba⟩: ∃K,K=upd H7 q none:=⟨_,rfl⟩;have df:Sub Bq H7:=by
         rw[ba];intro b o hb;simp only[upd] at hb;split at hb
         ·cases hb
         ·exact hb
        have dg:RAt r l k3 S Bq:=by rw[ba];exact bs.own ay pr.symm none
        have cf:Bq V=some (.cells [.int .u8 0, .int .u8 0, .int .i64 0, .str [], .oslice 9 q 0 1 1, .nilSlice, .int .i64 t.line, .int .i64 0, .int .i64 0] 27):=by rw[ba];exact An ao au.symm
        have cg:Bq O=some (.cells (dEx x) 27):=by rw[ba];exact An bt p4
        have dh:Jf Bq 27 9 1 (dEx x) (.oslice 9 q 0 1 1) H7:= .inr ⟨q,by rw[ba];exact Aa _ _ _,by rw[bk],rfl,a7,df⟩;refine Jf.appendO (m:=1) (dh.new bf _) ce (by omega) fun v2 dw bg=> ?_;have di:=bg.keep cf;have dj:=bg.keep cg;obtain⟨j1,j2⟩:=bg.cell1;obtain⟨D,rfl⟩: ∃D,m=D+1:=by
         cases m with
         | zero=>rw[C] at hn;exact absurd rfl hn
         | succ D=>exact⟨D,rfl⟩
        simp(disch:=omega)only[go_sem,E,J,L,M,di,dj,ai,j1,j2];have bx:=fun z X=>(bg.at cf (some z)).at (r:=O) (by rw[Ak _ _ _ _ ai];exact cg) (some X);have bz:=fun z X=>(dg.own a0 ab.symm (some z)).own ae Y (some X);refine⟨(D, .mk 8 0 0 [] [x,y] [] t.line 0 0,k3),_,Ri.cell (Aa _ _ _) (Sub.trans (bz _ _) (bx _ _).sub) (Dg1 (Sub.trans (bz _ _) (bx _ _).sub) (Aa _ _ _) (bz _ _) (by rw[Aa];simp) (by rw[show [x,y].flatMap dEx=dEx x++dEx y by simp];exact bx _ _)),(hI _ _ _).2 ?_,by dsimp only;omega⟩;simp(disch:=omega)only[go_sem,E,J,L,M]
      ·have dk:isW l k1 [Iq,Bi]=false:=by simpa using b4
       rw[if_neg b4] at C;simp(disch:=omega)only[go_sem,dk,E,J,L,M];intro w5 ci;dsimp only at ci;simp(disch:=omega)only[go_sem];refine(Av3 hG K1 w5 Iq ci U.get (by omega) (by omega)).mono ?_;rintro _ H6 ⟨rfl,ac⟩;by_cases b5:isW l k1 [Iq]=true
       ·rw[if_pos b5] at ac C;have af:=Bf b5 aq;rw[jQ] at af;have Z:RAt r l (k1+1) S H6:=by rw[ac];exact U.set _
        have ap:H6 V=some (.cells [.int .u8 0, .int .u8 0, .int .i64 0, .str [], .oslice 9 q 0 1 1, .nilSlice, .int .i64 t.line, .int .i64 0, .int .i64 0] 27):=by rw[ac];exact An a2 ab.symm
        have bv:H6 O=some (.cells (dEx x) 27):=by rw[ac];exact An av Y
        have bw:H6 q=some (.cells (dEx x) 27):=by rw[ac];exact An a3 pr.symm
        have dd:H6 r2=some (.cells [.int .u8 0, .int .u8 0, .int .i64 0, .str [], .nilSlice, .nilSlice, .int .i64 0, .int .i64 0, .int .i64 0] 27):=by rw[ac];exact An aw q2
        simp(disch:=omega)only[go_sem,b5,E,J,L,M];have bn: ∃t2,t2=tk l (k1+1):=⟨_,rfl⟩;obtain⟨t2,a4⟩:=bn;unfold Iz at C;refine(Av4 G H6 1 Z.get (by omega) (by omega)).mono ?_;intro e1 H9 aa;rw[<-a4] at aa C;by_cases c9:t2.kind=1
        ·rw[if_pos c9] at aa C;obtain⟨rfl,W⟩:=aa;have bo:k1+2<=l.length:=Rs (by rw[<-a4,c9];decide);have a5:RAt r l (k1+2) S H9:=by rw[W];exact Z.set _
         have bp:H9 V=some (.cells [.int .u8 0, .int .u8 0, .int .i64 0, .str [], .oslice 9 q 0 1 1, .nilSlice, .int .i64 t.line, .int .i64 0, .int .i64 0] 27):=by rw[W];exact An ap ab.symm
         have bq:H9 O=some (.cells (dEx x) 27):=by rw[W];exact An bv Y
         have br:H9 q=some (.cells (dEx x) 27):=by rw[W];exact An bw pr.symm
         obtain⟨D,rfl⟩: ∃D,m=D+1:=by
          cases m with
          | zero=>rw[C] at hn;exact absurd rfl hn
          | succ D=>exact⟨D,rfl⟩
         simp(disch:=omega)only[go_sem,Cy,E,J,L,M,bp,bq,ai];have ag:=fun z X=>(a5.own a0 ab.symm z).own ae Y X;have am:=fun z X=>An (y:=X) (An (y:=z) br au) p4.symm;refine⟨(D, .mk 6 0 0 t2.text [x] [] t.line 0 0,k1+2),_,Ri.cell (Aa _ _ _) (ag _ _) (Xk (a:= []) (ag _ _) (Aa _ _ _) ay pr.symm p4.symm (am _ _) (fun T hd=> .as0D hd)),(hI _ _ _).2 ?_,by dsimp only;omega⟩;simp(disch:=omega)only[go_sem,E,J,L,M]
        ·rw[if_neg c9] at aa C;obtain⟨rfl,W⟩:=aa;simp(disch:=omega)only[go_sem];rw[C];exact RAt.finP (by rw[W];exact RAt.up (Z.set _) ah) ⟨rfl,rfl⟩
       ·have dl:isW l k1 [Iq]=false:=by simpa using b5
        rw[if_neg b5,Dv U.get] at ac;rw[if_neg b5] at C;rw[ac];have dm:=Bo x;simp(disch:=omega)only[go_sem,dl,E,J,L,M,av,aw,bk,dm];rw[C];exact RAt.fin ((RAt.up U ah).own bb q2 _) ⟨rfl,rfl⟩
 ·rw[if_neg c] at hn hq⊢
  obtain⟨rfl,bc⟩:=hq;simp(disch:=omega)only[go_sem];exact RAt.finP (by rw[bc];exact ha.set k) ⟨rfl,rfl⟩
end
section
variable {G:Nat->DVal} {r:Nat} {l:List Tok}
structure RdAll (G:Nat->DVal) (l:List Tok) (r:Nat) (m:Nat):Prop where
 expr:RdC Tryz.prog G l 58 r fun k=>((P l m).expr k).mp dE
 rest: ∀x,Df9 Tryz.prog G l 164 r (.agg (dEx x)) fun k=>((P l m).rest x k).mp dE
 relation: ∀x,Df9 Tryz.prog G l 60 r (.agg (dEx x)) fun k=>((P l m).relation x k).mp dE
 simple:RdC Tryz.prog G l 61 r fun k=>((P l m).simple k).mp dE
 term:RdC Tryz.prog G l 62 r fun k=>((P l m).term k).mp dE
 factor:RdC Tryz.prog G l 63 r fun k=>((P l m).factor k).mp dE
 primary:RdC Tryz.prog G l 64 r fun k=>((P l m).primary k).mp dE
 paren:RdC Tryz.prog G l 173 r fun k=>((P l m).paren k).mp dE
 assoc:RdC Tryz.prog G l 250 r fun k=>((P l m).assoc k).mp dA
 choice:RdC Tryz.prog G l 294 r fun k=>((P l m).choice k).mp dC
 arg:RdC Tryz.prog G l 251 r fun k=>((P l m).arg k).mp dA
 name:RdC Tryz.prog G l 65 r fun k=>((P l m).name k).mp dE
theorem Gf1 (hG:GX G) (hl:l.length<=800000): ∀n m,m<=n->RdAll G l r m:=by
 intro n
 induction n with
 | zero=>
  intro m hm;have:m=0:=by omega
  subst this;constructor<;>intros<;>intro H k _ _ hn<;>exact absurd rfl hn
 | succ n ih=>
  intro m hm;rcases Nat.lt_or_ge m (n+1) with h | h
  ·exact ih m (by omega)
  ·have:m=n+1:=by omega
   subst this;have h0:=ih n (Nat.le_refl _);exact⟨Ed5 hl _ (Jz n) h0.simple h0.rest,Ed7 hG hl n (fun m hm=>(ih m hm).simple) (fun m hm=>(ih m hm).relation),Bt7 hG hl _ (Jz n) h0.simple,
    Cr9 hG hl n (fun m hm=>(ih m hm).term),Ed4 hG hl n (fun m hm=>(ih m hm).factor),Cr7 hG hl _ (Jz n) h0.primary,Ce9 hG hl _ h0.paren h0.name,
    Dg0 hG hl n h0.expr (fun m hm=>(ih m hm).assoc),Cf1 hG hl n (fun m hm=>(ih m hm).choice) h0.expr,Cs0 hG hl _ (Jz n) h0.simple h0.rest,Bt8 hG hl _ h0.expr,
    Ee0 hG hl n (fun m hm=>(ih m hm).arg) (fun m hm=>(ih m hm).paren)⟩
theorem Ew7 (hG:GX G) (hl:l.length<=800000) (m:Nat):RdAll G l r m:=Gf1 hG hl m m (Nat.le_refl _)
end
section
variable {G:Nat->DVal} {l:List Tok}
def Ew8:Res Ex->DVal
 | .ok x k=> .tuple [dE x,dI k,dI 0]
 | .fail k=> .tuple [dE ex0,dI k,dI 30]
 | .bot=> .nilPtr
set_option maxHeartbeats 4000000 in
theorem Dg2 (hG:GX G) (H:Ac) (hl:l.length<=800000) (g:FuncId) (ac:Res Ex) (hn:ac≠ .bot) (hf: ∀r H,H r=some (rdO l 0)->Af Tryz.prog G g [.optr r 0] H (RdR r l H (ac.mp dE))):
  Af Tryz.prog G 66 [Bh l, .func (.func g) [] []] H (Au (Ew8 ac) H):=by
 refine Ka Tryz.func66 Tryz.func177 Tryz.call66 Tryz.call177 rfl rfl (by kernel_rfl) (by kernel_rfl) rfl ?_;simp(disch:=omega)only[go_sem];intro h X;dsimp only at X;simp(disch:=omega)only[go_sem];intro C L;dsimp only at L;obtain⟨ao,a2,ap⟩:=Av.1 L;simp(disch:=omega)only[go_sem];intro E O;dsimp only at O;have a5:upd (upd H h (some (.cells [.int .u8 0, .int .u8 0, .int .i64 0, .str [], .nilSlice, .nilSlice, .int .i64 0, .int .i64 0, .int .i64 0] 27))) C (some (.cells [dI 0] 3)) C=some (.cells [dI 0] 3):=Aa _ _ _;have a4:upd (upd H h (some (.cells [.int .u8 0, .int .u8 0, .int .i64 0, .str [], .nilSlice, .nilSlice, .int .i64 0, .int .i64 0, .int .i64 0] 27))) C (some (.cells [dI 0] 3)) h=some (.cells [.int .u8 0, .int .u8 0, .int .i64 0, .str [], .nilSlice, .nilSlice, .int .i64 0, .int .i64 0, .int .i64 0] 27):=An (Aa _ _ _) (Ae L (Aa _ _ _));have S:C≠E:=Ae O a5;have Y:h≠E:=Ae O a4;have ag:h≠C:=Ae L (Aa _ _ _);have aw:(Bh l).cells= [Bh l]:=rfl;simp(disch:=omega)only[go_sem,aw,jA,jB,jE,jJ,jI,jG];intro M U;dsimp only at U;have ad:h≠M:=Ae U (An a4 Y);have Z:C≠M:=Ae U (An a5 S);have aa:E≠M:=Ae U (Aa _ _ _);have aq:H E=none:=((((Sub.refl H).new X _).new L _).lo O);have ar:H M=none:=(((((Sub.refl H).new X _).new L _).new O _).lo U);have ax:=ad.symm;have ay:=Z.symm;have a0:=aa.symm;have au:=Y.symm;have av:=S.symm;simp(disch:=omega)only[go_sem];refine(hf M _ (Aa _ _ _)).mono ?_;intro e I hq;have g4: ∀z,upd (upd (upd (upd (upd H h (some (.cells [.int .u8 0, .int .u8 0, .int .i64 0, .str [], .nilSlice, .nilSlice, .int .i64 0, .int .i64 0, .int .i64 0] 27))) C (some (.cells [dI 0] 3))) E (some (.cells [dI 0] 36))) M (some (rdO l 0))) M z h=some (.cells [.int .u8 0, .int .u8 0, .int .i64 0, .str [], .nilSlice, .nilSlice, .int .i64 0, .int .i64 0, .int .i64 0] 27):=fun z=>by
  rw[Ak _ _ _ _ ad,Ak _ _ _ _ ad,Ak _ _ _ _ Y];exact a4
 cases hres:ac with
 | bot=>exact absurd hres hn
 | ok x k=>
  rw[hres] at hq;obtain⟨rfl,J⟩:=hq;have ah:=Ad x;have ai:=Bo x;have ab:I h=some (.cells [.int .u8 0, .int .u8 0, .int .i64 0, .str [], .nilSlice, .nilSlice, .int .i64 0, .int .i64 0, .int .i64 0] 27):=by rw[J];exact g4 _
  have ae:I C=some (.cells [dI 0] 3):=by rw[J,Ak _ _ _ _ Z,Ak _ _ _ _ Z,Ak _ _ _ _ S];exact a5
  have af:I E=some (.cells [dI 0] 36):=by rw[J,Ak _ _ _ _ aa,Ak _ _ _ _ aa];exact Aa _ _ _
  have a1:I M=some (.cells [Bh l,dI k] 226):=by rw[J];exact Aa _ _ _
  have aj:Sub H I:=by rw[J];exact((((((Sub.refl H).new X _).new L _).new O _).new U _).up ar _)
  simp(disch:=omega)only[go_sem,dE,ab,ah,ai];refine Aj (by kernel_rfl) pL6 (by kernel_rfl) ?_;simp(disch:=omega)only[go_sem,ab,ae,af,a1,ag,Y,ad,S,Z,aa,ao,ax,ay,a0,au,av,ah,ai];intro V D;dsimp only at D;obtain⟨K,hK⟩: ∃K,K=upd (upd (upd I h (some (.cells (dEx x) 27))) C (some (.cells [dI k] 3))) E (some (.cells [dI 0] 36)):=⟨_,rfl⟩;have W:Sub H K:=by rw[hK];exact((aj.up X _).up ap _).up aq _
  have k4:K h=some (.cells (dEx x) 27):=by rw[hK];exact An (An (Aa _ _ _) ag) Y
  have k5:K C=some (.cells [dI k] 3):=by rw[hK];exact An (Aa _ _ _) S
  have k6:K E=some (.cells [dI 0] 36):=by rw[hK];exact Aa _ _ _
  rw[<-hK] at D⊢
  have ak:h≠V:=Ae D k4;have al:C≠V:=Ae D k5;have am:E≠V:=Ae D k6;simp(disch:=omega)only[go_sem,k4,k5,k6,ak,al,am,ah,ai];exact Es.sub (W.new D _) (.refl ⟨rfl,rfl⟩)
 | fail k=>
  rw[hres] at hq;obtain⟨rfl,J⟩:=hq;have ab:I h=some (.cells [.int .u8 0, .int .u8 0, .int .i64 0, .str [], .nilSlice, .nilSlice, .int .i64 0, .int .i64 0, .int .i64 0] 27):=by rw[J];exact g4 _
  have ae:I C=some (.cells [dI 0] 3):=by rw[J,Ak _ _ _ _ Z,Ak _ _ _ _ Z,Ak _ _ _ _ S];exact a5
  have af:I E=some (.cells [dI 0] 36):=by rw[J,Ak _ _ _ _ aa,Ak _ _ _ _ aa];exact Aa _ _ _
  have aj:Sub H I:=by rw[J];exact((((((Sub.refl H).new X _).new L _).new O _).new U _).up ar _)
  simp(disch:=omega)only[go_sem,Ce8];intro V D;dsimp only at D;have ak:h≠V:=Ae D ab;have al:C≠V:=Ae D ae;have am:E≠V:=Ae D af;simp(disch:=omega)only[go_sem,ab,ae,af,ak,al,am,ag,Y,S,ao,au,av];have W:=fun x y z=>(((aj.new D x).up ap y).up aq z);exact Lt.fin (W _ _ _) (Lt.tuple (.cons (Lt.agg (Lt.ex (l:= []) (a:= []) (W _ _ _) (.exs0 (W _ _ _)) (.as0 (W _ _ _)))) (Kq.keep (W _ _ _) _))) ⟨rfl,rfl⟩
def Ew9:Res DVal->DVal
 | .ok v k=> .tuple [v,dI k,dI 0]
 | .fail k=> .tuple [.vslice [] 0,dI k,dI 30]
 | .bot=> .nilPtr
set_option maxHeartbeats 4000000 in
theorem Cs2 (hG:GX G) (H:Ac) (hl:l.length<=800000) (g:FuncId) (V:Res DVal) (hn:V≠ .bot) (hv: ∀v k,V= .ok v k->v.cells= [v]/\v.one=true) (hf: ∀r H,H r=some (rdO l 0)->Af Tryz.prog G g [.optr r 0] H (RdR r l H V)):
  Af Tryz.prog G 318 [Bh l, .func (.func g) [] []] H (Au (Ew9 V) H):=by
 refine Ka Tryz.func318 Tryz.func324 Tryz.call318 Tryz.call324 rfl rfl (by kernel_rfl) (by kernel_rfl) rfl ?_;simp(disch:=omega)only[go_sem];intro D J;dsimp only at J;simp(disch:=omega)only[go_sem];intro C M;dsimp only at M;have L:D≠C:=Ae M (Aa _ _ _);have ae:=L.symm;have ah:(Bh l).cells= [Bh l]:=rfl;simp(disch:=omega)only[go_sem,ah,jA,jB,jE,jJ,jI,jG];intro W O;dsimp only at O;have S:D≠W:=Ae O (An (Aa _ _ _) L);have U:C≠W:=Ae O (Aa _ _ _);have af:H C=none:=((Sub.refl H).new J _).lo M;have ag:H W=none:=(((Sub.refl H).new J _).new M _).lo O;have ai:=S.symm;have aj:=U.symm;simp(disch:=omega)only[go_sem];refine(hf W _ (Aa _ _ _)).mono ?_;intro e E hq;cases hres:V with
 | bot=>exact absurd hres hn
 | ok x k=>
  obtain⟨v1,v2⟩:=hv x k hres;rw[hres] at hq;obtain⟨rfl,I⟩:=hq;have Z:E D=some (.cells [dI 0] 3):=by rw[I,Ak _ _ _ _ S,Ak _ _ _ _ S,Ak _ _ _ _ L];exact Aa _ _ _
  have aa:E C=some (.cells [dI 0] 36):=by rw[I,Ak _ _ _ _ U,Ak _ _ _ _ U];exact Aa _ _ _
  have ak:E W=some (.cells [Bh l,dI k] 226):=by rw[I];exact Aa _ _ _
  have ab:Sub H E:=by rw[I];exact(((((Sub.refl H).new J _).new M _).new O _).up ag _)
  simp(disch:=omega)only[go_sem];refine Aj (by kernel_rfl) pL7 (by kernel_rfl) ?_;simp(disch:=omega)only[go_sem,Z,aa,ak,L,S,U,ai,aj,ae];intro X h;dsimp only at h;obtain⟨K,hK⟩: ∃K,K=upd (upd E D (some (.cells [dI k] 3))) C (some (.cells [dI 0] 36)):=⟨_,rfl⟩;have Y:Sub H K:=by rw[hK];exact(ab.up J _).up af _
  have k5:K D=some (.cells [dI k] 3):=by rw[hK];exact An (Aa _ _ _) L
  have k6:K C=some (.cells [dI 0] 36):=by rw[hK];exact Aa _ _ _
  rw[<-hK] at h⊢
  have ac:D≠X:=Ae h k5;have ad:C≠X:=Ae h k6;simp(disch:=omega)only[go_sem,k5,k6,ac,ad,v1,v2];exact Es.sub (Y.new h _) (.refl ⟨rfl,rfl⟩)
 | fail k=>
  rw[hres] at hq;obtain⟨rfl,I⟩:=hq;have Z:E D=some (.cells [dI 0] 3):=by rw[I,Ak _ _ _ _ S,Ak _ _ _ _ S,Ak _ _ _ _ L];exact Aa _ _ _
  have aa:E C=some (.cells [dI 0] 36):=by rw[I,Ak _ _ _ _ U,Ak _ _ _ _ U];exact Aa _ _ _
  have ab:Sub H E:=by rw[I];exact(((((Sub.refl H).new J _).new M _).new O _).up ag _)
  simp(disch:=omega)only[go_sem,Ce8];intro X h;dsimp only at h;have ac:D≠X:=Ae h Z;have ad:C≠X:=Ae h aa;simp(disch:=omega)only[go_sem,Z,aa,ac,ad,L,ae];have Y:=fun x y z=>(((ab.new h x).up J y).up af z);exact Lt.fin (Y _ _ _) (Lt.tuple (.cons (Lt.nil (Y _ _ _)) (Kq.keep (Y _ _ _) _))) ⟨rfl,rfl⟩
end
end Go.Dl
