/- The data level and the contracts of the functions that are reached (part 6). -/
import Derived.Test.YtddbdpcgikmiaaaGreatDoorPke
set_option linter.unusedSimpArgs false
set_option linter.unusedVariables false
set_option linter.unusedSectionVars false
-- Chapter 3: the package's reader: expressions.
namespace Go.Dl
open Go Go.Proofs
set_option maxRecDepth 100000
section
variable {G:Nat->DVal} {H0 H:Ab} {r k:Nat} {l:List Tok}
set_option maxHeartbeats 4000000 in
theorem Cg6 (hl:l.length<=800000) (p:PS) (hA:p.Adv l) (hs:RdC Tryz.prog G l 61 r fun k=>(p.simple k).mp dE) (hr1: ∀x,Bp3 Tryz.prog G l 164 r (.agg (dEx x)) fun k=>(p.rest x k).mp dE):RdC Tryz.prog G l 58 r fun k=>((Aw l p).expr k).mp dE:=by
 intro H k hr hk hn;dsimp only[Aw] at hn⊢
 refine Ac Tryz.func58 Tryz.call58 rfl (by kernel_rfl) ?_;simp(disch:=omega)only[go_sem];intro r2 hr2;dsimp only at hr2;obtain⟨Ha,hHa⟩: ∃K,K=upd H r2 (some (.cells [.int .u8 0, .int .u8 0, .int .i64 0, .str [], .nilSlice, .nilSlice, .int .i64 0, .int .i64 0, .int .i64 0] 27)):=⟨_,rfl⟩;rw[<-hHa];have gr2:Ha r2=some (.cells [.int .u8 0, .int .u8 0, .int .i64 0, .str [], .nilSlice, .nilSlice, .int .i64 0, .int .i64 0, .int .i64 0] 27):=by rw[hHa];exact Aa _ _ _
 have n2:r≠r2:=Ad hr2 hr;have q2:=n2.symm;have ha:RAt r l k H Ha:=by rw[hHa];exact(RAt.refl hr).new hr2 _
 simp(disch:=omega)only[go_sem];have hpk:=hs _ k ha.get hk;have had:=hA.simple k hk;dsimp only at hpk;cases hpr:p.simple k with
 | bot=>rw[hpr] at hn;exact absurd rfl hn
 | fail k3=>
  rw[hpr] at hpk;refine(hpk (Az (by simp))).mono ?_;rintro e H3 ⟨rfl,rfl⟩;simp(disch:=omega)only[go_sem];exact RAt.finP (ha.set k3) ⟨rfl,rfl⟩
 | ok x k3=>
  rw[hpr] at hpk hn had;refine(hpk (Az (by simp))).mono ?_;rintro e H3 ⟨rfl,hH3⟩;have ha3:RAt r l k3 H H3:=by rw[hH3];exact ha.set k3
  dsimp only[Res.then,Adv] at hn had⊢
  have g3:H3 r2=some (.cells [.int .u8 0, .int .u8 0, .int .i64 0, .str [], .nilSlice, .nilSlice, .int .i64 0, .int .i64 0, .int .i64 0] 27):=by rw[hH3];exact Af gr2 q2
  simp(disch:=omega)only[go_sem,dE];have hn2:p.rest x k3≠ .bot:=fun h=>hn (by rw[h];rfl);have hch:=hr1 x H3 k3 ha3.get (by omega) (Az hn2);dsimp only at hch;cases hpc:p.rest x k3 with
  | bot=>exact absurd hpc hn2
  | fail k4=>
   rw[hpc] at hch;refine hch.mono ?_;rintro e H4 ⟨rfl,rfl⟩;simp(disch:=omega)only[go_sem];exact RAt.finP (ha3.set k4) ⟨rfl,rfl⟩
  | ok y k4=>
   rw[hpc] at hch;refine hch.mono ?_;rintro e H4 ⟨rfl,hH4⟩;have ha4:RAt r l k4 H H4:=by rw[hH4];exact ha3.set k4
   have g4:H4 r2=some (.cells [.int .u8 0, .int .u8 0, .int .i64 0, .str [], .nilSlice, .nilSlice, .int .i64 0, .int .i64 0, .int .i64 0] 27):=by rw[hH4];exact Af g3 q2
   have hly:=Ai y;have hoy:=Bh y;simp(disch:=omega)only[go_sem,dE,g4,hly,hoy];exact RAt.fin (ha4.own hr2 q2 _) ⟨rfl,rfl⟩
theorem Cg7 {os:List Nat} (h:(opF l 0 k os).1≠0):opF l (opF l 0 k os).1 k os=opF l 0 k os:=by
 have key: ∀ {os:List Nat} {w:Nat},(opF l 0 k os).1=w->w≠0->opF l w k os=opF l 0 k os:=by
  intro os w hw h
  induction os with
  | nil=>rfl
  | cons o m ih=>
   simp only[opF] at hw⊢
   by_cases hi:isW l k (Aq o)=true
   ·simp only[hi,if_true,ne_eq,not_true_eq_false,false_and,if_false] at hw⊢
    rw[if_neg (by rintro⟨_,h2⟩;exact h2 hw)]
   ·simp only[hi,if_false,Bool.false_eq_true] at hw⊢
    exact ih hw
 exact key rfl h
set_option maxHeartbeats 4000000 in
theorem Cg8 (hG:GX G) (hl:l.length<=800000) (n:Nat) (hs: ∀m≤n,RdC Tryz.prog G l 61 r fun k=>((P l m).simple k).mp dE) (hrl: ∀m≤n,∀x,Bp3 Tryz.prog G l 60 r (.agg (dEx x)) fun k=>((P l m).relation x k).mp dE) (x:Ex):Bp3 Tryz.prog G l 164 r (.agg (dEx x)) fun k=>((P l (n+1)).rest x k).mp dE:=by
 intro H k hr hk hn;have e:(P l (n+1)).rest x k=((P l n).relation x k).then fun x k=>(P l n).restL (opF l 0 k De).1 x k:=rfl
 dsimp only at hn⊢
 rw[e] at hn⊢
 refine Ac Tryz.func164 Tryz.call164 rfl (by kernel_rfl) ?_;simp(disch:=omega)only[go_sem,DVal.cells];intro r3 hr3;dsimp only at hr3;obtain⟨Hb,hHb⟩: ∃K,K=upd H r3 (some (.cells (dEx x) 27)):=⟨_,rfl⟩;rw[<-hHb];have gr3:Hb r3=some (.cells (dEx x) 27):=by rw[hHb];exact Aa _ _ _
 have n3:r≠r3:=Ad hr3 hr;have q3:=n3.symm;simp(disch:=omega)only[go_sem,DVal.cells];intro r4 hr4;dsimp only at hr4;obtain⟨Ha,hHa⟩: ∃K,K=upd Hb r4 (some (.cells [.int .u8 0, .int .u8 0, .int .i64 0, .str [], .nilSlice, .nilSlice, .int .i64 0, .int .i64 0, .int .i64 0] 27)):=⟨_,rfl⟩;rw[<-hHa];have gr4:Ha r4=some (.cells [.int .u8 0, .int .u8 0, .int .i64 0, .str [], .nilSlice, .nilSlice, .int .i64 0, .int .i64 0, .int .i64 0] 27):=by rw[hHa];exact Aa _ _ _
 have hab:RAt r l k H Hb:=by rw[hHb];exact(RAt.refl hr).new hr3 _
 have n4:r≠r4:=Ad hr4 hab.get;have q4:=n4.symm;have m3:r3≠r4:=Ad hr4 gr3;have m4:=m3.symm;have h04:H r4=none:=hab.lo hr4;have ha:RAt r l k H Ha:=by rw[hHa];exact hab.new hr4 _
 have g3:Ha r3=some (.cells (dEx x) 27):=by rw[hHa];exact Af gr3 m3
 have hlx:=Ai x;simp(disch:=omega)only[go_sem,g3];have hpk:=hrl n (Nat.le_refl _) x _ k ha.get hk;have had:=(Fw (l:=l) n).relation x k hk;dsimp only at hpk;cases hpr:(P l n).relation x k with
 | bot=>rw[hpr] at hn;exact absurd rfl hn
 | fail k3=>
  rw[hpr] at hpk;refine(hpk (Az (by simp))).mono ?_;rintro e H3 ⟨rfl,rfl⟩;simp(disch:=omega)only[go_sem];exact RAt.finP (ha.set k3) ⟨rfl,rfl⟩
 | ok y0 k3=>
  rw[hpr] at hpk hn had;refine(hpk (Az (by simp))).mono ?_;rintro e H3 ⟨rfl,hH3⟩;have ha3:RAt r l k3 H H3:=by rw[hH3];exact ha.set k3
  dsimp only[Res.then,Adv] at hn had⊢
  have g33:H3 r3=some (.cells (dEx x) 27):=by rw[hH3];exact Af g3 q3
  have g34:H3 r4=some (.cells [.int .u8 0, .int .u8 0, .int .i64 0, .str [], .nilSlice, .nilSlice, .int .i64 0, .int .i64 0, .int .i64 0] 27):=by rw[hH3];exact Af gr4 q4
  have hly0:=Ai y0;have hoy0:=Bh y0;have hdr:(dEx x).drop 9= []:=List.drop_eq_nil_of_le (by omega);simp(disch:=omega)only[go_sem,dE,g33,hly0,hoy0,hlx,hdr];obtain⟨Hc,hHc⟩: ∃K,K=upd H3 r3 (some (.cells (dEx y0) 27)):=⟨_,rfl⟩;rw[<-hHc];have hac:RAt r l k3 H Hc:=by rw[hHc];exact ha3.own hr3 q3 _
  have gc3:Hc r3=some (.cells (dEx y0) 27):=by rw[hHc];exact Aa _ _ _
  have gc4:Hc r4=some (.cells [.int .u8 0, .int .u8 0, .int .i64 0, .str [], .nilSlice, .nilSlice, .int .i64 0, .int .i64 0, .int .i64 0] 27):=by rw[hHc];exact Af g34 m4
  refine(Bw0 hG _ 0 hac.get hl had.2).mono ?_;rintro _ H5 ⟨rfl,hH5⟩;obtain⟨o,ho⟩: ∃o,o=(opF l 0 k3 De).1:=⟨_,rfl⟩;obtain⟨q,hq⟩: ∃q:Nat->Nat×Nat,∀k,q k=if o=0 then(0,k) else opF l o k De:=⟨_,fun _=>rfl⟩
  have hqa: ∀k,k<=l.length->((q k).1=0->(q k).2=k)/\((q k).1≠0->k+1<=(q k).2)/\(q k).2<=l.length:=by
   intro k hk;rw[hq];by_cases c:o=0
   ·rw[if_pos c];exact⟨fun _=>rfl,fun h=>absurd rfl h,hk⟩
   ·rw[if_neg c];have:=Cl (want:=o) (os:=De) (k:=k) (l:=l) Dy7.1 hk;exact⟨this.1,this.2.1,this.2.2.1⟩
  have hL: ∀m x k,(P l (m+1)).restL o x k=if(q k).1=0 then .ok x k else((P l m).simple (q k).2).then fun y k=>((P l m).relation y k).then fun y k=>(P l m).restL o (both o x y) k:=by
   intro m x k;have:(P l (m+1)).restL o x k=if o=0 then .ok x k else if(opF l o k De).1=0 then .ok x k else((P l m).simple (opF l o k De).2).then fun y k=>((P l m).relation y k).then fun y k=>(P l m).restL o (both o x y) k:=rfl
   rw[this,hq];by_cases c:o=0
   ·rw[if_pos c,if_pos c,if_pos rfl]
   ·rw[if_neg c,if_neg c]
  have hq3:(opF l 0 k3 De)=(o,(q k3).2)/\(q k3).1=o:=by
   rw[hq];by_cases c:o=0
   ·have h0:=Cl (want:=0) (os:=De) (k:=k3) (l:=l) Dy7.1 had.2;rw[if_pos c];exact⟨Prod.ext ho.symm (h0.1 (ho▸c)),c.symm⟩
   ·have h0:=Cg7 (l:=l) (k:=k3) (os:=De) (ho▸c);rw[<-ho] at h0;rw[if_neg c,h0];exact⟨Prod.ext ho.symm rfl,ho.symm⟩
  rw[hq3.1] at hn⊢
  rw[hq3.1] at hH5;dsimp only at hn hH5⊢
  have hn2:(P l n).restL o y0 k3≠ .bot:=fun h=>hn (by rw[h];rfl);obtain⟨n',rfl⟩: ∃n',n=n'+1:=by
   cases n with
   | zero=>exact absurd rfl hn2
   | succ n'=>exact⟨n',rfl⟩
  have ha5:RAt r l (q k3).2 H H5:=by rw[hH5];exact hac.set _
  have g53:H5 r3=some (.cells (dEx y0) 27):=by rw[hH5];exact Af gc3 q3
  have g54:H5 r4=some (.cells [.int .u8 0, .int .u8 0, .int .i64 0, .str [], .nilSlice, .nilSlice, .int .i64 0, .int .i64 0, .int .i64 0] 27):=by rw[hH5];exact Af gc4 q4
  simp(disch:=omega)only[go_sem];obtain⟨I,hI⟩: ∃I:Nat×Ex×Nat->(Nat->DVal)->Ab->Prop,∀s env heap,I s env heap↔(env 0= .optr r 0/\env 3= .optr r3 0/\env 4= .optr r4 0/\env 5= .int .u8 o/\env 6= .int .u8 (q s.2.2).1/\s.2.2<=l.length/\s.1<=n'/\(P l (s.1+1)).restL o s.2.1 s.2.2=(P l (n'+1)).restL o y0 k3/\RAt r l (q s.2.2).2 H heap/\heap r3=some (.cells (dEx s.2.1) 27)/\heap r4=some (.cells [.int .u8 0, .int .u8 0, .int .i64 0, .str [], .nilSlice, .nilSlice, .int .i64 0, .int .i64 0, .int .i64 0] 27)):=⟨_,fun _ _ _=>Iff.rfl⟩;refine Bt4.run I (fun s=>s.1) (n',y0,k3) ((hI _ _ _).2 ?_) ?_
  ·simp(disch:=omega)only[go_sem,hq3.2];(repeat' apply And.intro)<;>(try first | rfl | assumption | omega)
   done
  ·rintro⟨m,y,k1⟩ env heap hi';obtain⟨e0,e3,e4,e5,e6,hk1,hm,hLm,hat,g6,gx⟩:=(hI _ _ _).1 hi';dsimp only at e6 hk1 hm hLm hat g6;rw[hL] at hLm;have hadv:=hqa k1 hk1;obtain⟨o1,ho1⟩: ∃o1,o1=(q k1).1:=⟨_,rfl⟩;obtain⟨k2,hk2⟩: ∃k2,k2=(q k1).2:=⟨_,rfl⟩;rw[<-ho1,<-hk2] at hLm hadv;rw[<-ho1] at e6;rw[<-hk2] at hat;by_cases c:o1=0
   ·have c':(o1:Int)=0:=by omega
    rw[if_pos c] at hLm;have hk21:k2=k1:=hadv.1 c;rw[hk21] at hat;simp(disch:=omega)only[go_sem,e0,e3,e4,e5,e6,c',g6,gx];rw[<-hLm];exact RAt.fin (hat.own h04 q4 _) ⟨rfl,rfl⟩
   ·have c': ¬(o1:Int)=0:=by omega
    rw[if_neg c] at hLm;simp(disch:=omega)only[go_sem,e0,e3,e4,e5,e6,c'];refine Am (by kernel_rfl) (.take 0 (.take 1 (.take 2 (.take 3 (.go 4 [1] (.go 5 [1] (.go 6 [] (.go 7 [] .done)))))))) (by kernel_rfl) ?_;simp(disch:=omega)only[go_sem,e0,e3,e4,e5,e6,g6];have ho0:o≠0:=by
     intro h0;rw[hq,if_pos h0] at ho1;exact c ho1
    have hqo: ∀k,q k=opF l o k De:=fun k=>by rw[hq,if_neg ho0]
    have hs1:=hs m (by omega) heap k2 hat.get (by omega);have had1:=(Fw (l:=l) m).simple k2 (by omega);dsimp only at hs1;cases hp1:(P l m).simple k2 with
    | bot=>rw[hp1] at hLm;exact absurd hLm.symm hn2
    | fail k4=>
     rw[hp1] at hs1 hLm;refine(hs1 (Az (by simp))).mono ?_;rintro e H6 ⟨rfl,rfl⟩;simp(disch:=omega)only[go_sem];rw[<-hLm];exact RAt.finP (hat.set k4) ⟨rfl,rfl⟩
    | ok y1 k4=>
     rw[hp1] at hs1 hLm had1;dsimp only[Res.then,Adv] at hLm had1;refine(hs1 (Az (by simp))).mono ?_;rintro e H6 ⟨rfl,hH6⟩;have ha6:RAt r l k4 H H6:=by rw[hH6];exact hat.set k4
     have g63:H6 r3=some (.cells (dEx y) 27):=by rw[hH6];exact Af g6 q3
     have g64:H6 r4=some (.cells [.int .u8 0, .int .u8 0, .int .i64 0, .str [], .nilSlice, .nilSlice, .int .i64 0, .int .i64 0, .int .i64 0] 27):=by rw[hH6];exact Af gx q4
     simp(disch:=omega)only[go_sem,e0,e3,e4,e5,e6,dE,g6,g63];have hs2:=hrl m (by omega) y1 H6 k4 ha6.get (by omega);have had2:=(Fw (l:=l) m).relation y1 k4 (by omega);dsimp only at hs2;cases hp2:(P l m).relation y1 k4 with
     | bot=>rw[hp2] at hLm;exact absurd hLm.symm hn2
     | fail k5=>
      rw[hp2] at hs2 hLm;refine(hs2 (Az (by simp))).mono ?_;rintro e H7 ⟨rfl,rfl⟩;simp(disch:=omega)only[go_sem];rw[<-hLm];exact RAt.finP (ha6.set k5) ⟨rfl,rfl⟩
     | ok y2 k5=>
      rw[hp2] at hs2 hLm had2;dsimp only[Res.then,Adv] at hLm had2;refine(hs2 (Az (by simp))).mono ?_;rintro e H7 ⟨rfl,hH7⟩;have ha7:RAt r l k5 H H7:=by rw[hH7];exact ha6.set k5
      have g73:H7 r3=some (.cells (dEx y) 27):=by rw[hH7];exact Af g63 q3
      have g74:H7 r4=some (.cells [.int .u8 0, .int .u8 0, .int .i64 0, .str [], .nilSlice, .nilSlice, .int .i64 0, .int .i64 0, .int .i64 0] 27):=by rw[hH7];exact Af g64 q4
      simp(disch:=omega)only[go_sem,e0,e3,e4,e5,e6,dE,g63,g73];refine(Wt G _ o y y2).mono ?_;rintro _ H8 ⟨rfl,rfl⟩;have hby:=Ai (both o y y2);have hb1:=Bh (both o y y2);have hly:=Ai y;have hdr2:(dEx y).drop 9= []:=List.drop_eq_nil_of_le (by omega);simp(disch:=omega)only[go_sem,e0,e3,e4,e5,e6,g73,hby,hb1,hly,hdr2];have ha8:RAt r l k5 H (upd H8 r3 (some (.cells (dEx (both o y y2)) 27))):=ha7.own hr3 q3 _;refine(Bw0 hG _ o ha8.get hl (by omega)).mono ?_;rintro _ H9 ⟨rfl,rfl⟩;rw[<-hqo];obtain⟨m',rfl⟩: ∃m',m=m'+1:=by
       cases m with
       | zero=>exact absurd hLm.symm hn2
       | succ m'=>exact⟨m',rfl⟩
      simp(disch:=omega)only[go_sem,e0,e3,e4,e5];refine⟨(m',both o y y2,k5),_,Lq.refl _,(hI _ _ _).2 ?_,by dsimp only;omega⟩;simp(disch:=omega)only[go_sem,e0,e3,e4,e5,q3,q4,m3,m4,g74,hLm];(repeat' apply And.intro)<;>(try first | rfl | assumption | omega);exact ha8.set _
end
end Go.Dl

-- Chapter 3: the package's reader: primaries, choices.
namespace Go.Dl
open Go Go.Proofs
set_option maxRecDepth 100000
section
variable {G:Nat->DVal} {H0 H:Ab} {r k:Nat} {l:List Tok}
set_option maxHeartbeats 4000000 in
theorem At6 (hG:GX G) (hl:l.length<=800000) (p:PS) (hpa:RdC Tryz.prog G l 173 r fun k=>(p.paren k).mp dE) (hna:RdC Tryz.prog G l 65 r fun k=>(p.name k).mp dE):RdC Tryz.prog G l 64 r fun k=>((Aw l p).primary k).mp dE:=by
 intro H k hr hk hn;dsimp only[Aw] at hn⊢
 obtain⟨t,ht⟩: ∃t,t=tk l k:=⟨_,rfl⟩;rw[<-ht] at hn⊢
 have hw:IntKind.i64.wrap ((k:Int)+1)=((k+1:Nat):Int):=by rw[IntKind.wrap_i64];omega
 refine Ac Tryz.func64 Tryz.call64 rfl (by kernel_rfl) ?_;simp(disch:=omega)only[go_sem];intro r2 hr2;dsimp only at hr2;obtain⟨Ha,hHa⟩: ∃K,K=upd H r2 (some (.cells [.int .u8 0, .int .u8 0, .int .i64 0, .str [], .nilSlice, .nilSlice, .int .i64 0, .int .i64 0, .int .i64 0] 27)):=⟨_,rfl⟩;rw[<-hHa];have gr2:Ha r2=some (.cells [.int .u8 0, .int .u8 0, .int .i64 0, .str [], .nilSlice, .nilSlice, .int .i64 0, .int .i64 0, .int .i64 0] 27):=by rw[hHa];exact Aa _ _ _
 have n2:r≠r2:=Ad hr2 hr;have q2:=n2.symm;have ha:RAt r l k H Ha:=by rw[hHa];exact(RAt.refl hr).new hr2 _
 simp(disch:=omega)only[go_sem];refine(Qo G _ ha.get (by omega) (by omega)).mono ?_;rintro _ H1 ⟨rfl,rfl⟩;rw[<-ht];simp(disch:=omega)only[go_sem];intro r3 hr3;dsimp only at hr3;have n23:r2≠r3:=Ad hr3 gr2;have m23:=n23.symm;have n3:r≠r3:=Ad hr3 ha.get;have q3:=n3.symm;simp(disch:=omega)only[go_sem,Dw];obtain⟨Hc,hHc⟩: ∃K,K=upd H1 r3 (some (.cells [.int .u8 t.kind,dI t.line, .str t.text,dI t.n] 31)):=⟨_,rfl⟩;rw[<-hHc];have hac:RAt r l k H Hc:=by rw[hHc];exact ha.new hr3 _
 have gc2:Hc r2=some (.cells [.int .u8 0, .int .u8 0, .int .i64 0, .str [], .nilSlice, .nilSlice, .int .i64 0, .int .i64 0, .int .i64 0] 27):=by rw[hHc];exact Af gr2 n23
 have gc3:Hc r3=some (.cells [.int .u8 t.kind,dI t.line, .str t.text,dI t.n] 31):=by rw[hHc];exact Aa _ _ _
 have gcr:=hac.get;unfold rdO at gcr;by_cases c:t.kind=3
 ·rw[if_pos c] at hn⊢
  simp(disch:=omega)only[go_sem,gc3,c,gcr,hw,n3,n2,q3,q2,gc2,n23,m23];have hat:=fun y=>(hac.set (k+1)).own hr2 q2 y;exact Fc.fin (hat _) (Fc.agg (Fc.ex (hat _) (.exs0 (hat _)) (.as0 (hat _)))) ⟨rfl,rfl⟩
 ·rw[if_neg c] at hn⊢
  simp(disch:=omega)only[go_sem,gc3,c,gc2];intro w1 hw1;dsimp only at hw1;simp(disch:=omega)only[go_sem];refine(Sw hG _ w1 Mv hw1 hac.get (by omega) (by omega)).mono ?_;rintro _ H2 ⟨rfl,hH2⟩;by_cases c2:isW l k [Mv]=true
  ·rw[if_pos c2] at hn hH2⊢
   have ha2:RAt r l (k+1) H H2:=by rw[hH2];exact hac.set _
   have g22:H2 r2=some (.cells [.int .u8 0, .int .u8 0, .int .i64 0, .str [], .nilSlice, .nilSlice, .int .i64 0, .int .i64 0, .int .i64 0] 27):=by rw[hH2];exact Af gc2 q2
   have g23:H2 r3=some (.cells [.int .u8 t.kind,dI t.line, .str t.text,dI t.n] 31):=by rw[hH2];exact Af gc3 q3
   simp(disch:=omega)only[go_sem,c2,g22,g23];have hat:=fun y=>ha2.own hr2 q2 y;exact Fc.fin (hat _) (Fc.agg (Fc.ex (hat _) (.exs0 (hat _)) (.as0 (hat _)))) ⟨rfl,rfl⟩
  ·have c2':isW l k [Mv]=false:=by simpa using c2
   rw[if_neg c2] at hn hH2⊢
   rw[Co hac.get] at hH2;subst hH2;simp(disch:=omega)only[go_sem,c2'];intro w2 hw2;dsimp only at hw2;simp(disch:=omega)only[go_sem];refine(is1 hG _ w2 Br hw2 hac.get (by omega) (by omega)).mono ?_;rintro _ H3 ⟨rfl,rfl⟩;by_cases c3:isW l k [Br]=true
   ·rw[if_pos c3] at hn⊢
    simp(disch:=omega)only[go_sem,c3];have hpk:=hpa _ k hac.get hk;dsimp only at hpk;cases hpr:p.paren k with
    | bot=>rw[hpr] at hn;exact absurd rfl hn
    | fail k3=>
     rw[hpr] at hpk;refine(hpk (Az (by simp))).mono ?_;rintro e H4 ⟨rfl,rfl⟩;simp(disch:=omega)only[go_sem];exact RAt.finP (hac.set k3) ⟨rfl,rfl⟩
    | ok y k3=>
     rw[hpr] at hpk;refine(hpk (Az (by simp))).mono ?_;rintro e H4 ⟨rfl,hH4⟩;have ha4:RAt r l k3 H H4:=by rw[hH4];exact hac.set k3
     have g4:H4 r2=some (.cells [.int .u8 0, .int .u8 0, .int .i64 0, .str [], .nilSlice, .nilSlice, .int .i64 0, .int .i64 0, .int .i64 0] 27):=by rw[hH4];exact Af gc2 q2
     have hly:=Ai y;have hoy:=Bh y;simp(disch:=omega)only[go_sem,dE,g4,hly,hoy];exact RAt.fin (ha4.own hr2 q2 _) ⟨rfl,rfl⟩
   ·have c3':isW l k [Br]=false:=by simpa using c3
    rw[if_neg c3] at hn⊢
    simp(disch:=omega)only[go_sem,c3'];have hpk:=hna _ k hac.get hk;dsimp only at hpk;cases hpr:p.name k with
    | bot=>rw[hpr] at hn;exact absurd rfl hn
    | fail k3=>
     rw[hpr] at hpk;refine(hpk (Az (by simp))).mono ?_;rintro e H4 ⟨rfl,rfl⟩;simp(disch:=omega)only[go_sem];exact RAt.finP (hac.set k3) ⟨rfl,rfl⟩
    | ok y k3=>
     rw[hpr] at hpk;refine(hpk (Az (by simp))).mono ?_;rintro e H4 ⟨rfl,hH4⟩;have ha4:RAt r l k3 H H4:=by rw[hH4];exact hac.set k3
     have g4:H4 r2=some (.cells [.int .u8 0, .int .u8 0, .int .i64 0, .str [], .nilSlice, .nilSlice, .int .i64 0, .int .i64 0, .int .i64 0] 27):=by rw[hH4];exact Af gc2 q2
     have hly:=Ai y;have hoy:=Bh y;simp(disch:=omega)only[go_sem,dE,g4,hly,hoy];exact RAt.fin (ha4.own hr2 q2 _) ⟨rfl,rfl⟩
end
end Go.Dl

-- Chapter 3: the package's reader: choices.
namespace Go.Dl
open Go Go.Proofs
set_option maxRecDepth 100000
def dC (c:Ch):DVal:= .agg (dCh c)
def dA (a:As):DVal:= .agg (dAs a)
section
variable {G:Nat->DVal} {H0 H H':Ab} {r k:Nat} {l:List Tok}
theorem Fc.choice {kd:Int} {v:DVal} {m:List Ex} (hs:Sub H H') (h:Fc H' v H (dXs m)):Df H' [.int .u8 kd,v] H (dCh (.mk kd m)):=by
 rw[Qm];exact .cons (.keep hs _) (.cons h .nil)
set_option maxHeartbeats 4000000 in
theorem Be8 (hG:GX G) (hl:l.length<=800000) (p:PS) (hA:p.Adv l) (hs:RdC Tryz.prog G l 61 r fun k=>(p.simple k).mp dE) (hr1: ∀x,Bp3 Tryz.prog G l 164 r (.agg (dEx x)) fun k=>(p.rest x k).mp dE):RdC Tryz.prog G l 294 r fun k=>((Aw l p).choice k).mp dC:=by
 intro H k hr hk hn;dsimp only[Aw] at hn⊢
 refine Ac Tryz.func294 Tryz.call294 rfl (by kernel_rfl) ?_;simp(disch:=omega)only[go_sem];intro r2 hr2;dsimp only at hr2;obtain⟨Ha,hHa⟩: ∃K,K=upd H r2 (some (.cells [.int .u8 0, .nilSlice] 47)):=⟨_,rfl⟩;rw[<-hHa];have gr2:Ha r2=some (.cells [.int .u8 0, .nilSlice] 47):=by rw[hHa];exact Aa _ _ _
 have n2:r≠r2:=Ad hr2 hr;have q2:=n2.symm;have ha:RAt r l k H Ha:=by rw[hHa];exact(RAt.refl hr).new hr2 _
 simp(disch:=omega)only[go_sem];intro w1 hw1;dsimp only at hw1;simp(disch:=omega)only[go_sem];refine(Sw hG _ w1 Gn hw1 ha.get (by omega) (by omega)).mono ?_;rintro _ H2 ⟨rfl,hH2⟩;by_cases c:isW l k [Gn]=true
 ·rw[if_pos c] at hn hH2⊢
  have ha2:RAt r l (k+1) H H2:=by rw[hH2];exact ha.set _
  have g2:H2 r2=some (.cells [.int .u8 0, .nilSlice] 47):=by rw[hH2];exact Af gr2 q2
  simp(disch:=omega)only[go_sem,c,g2];have hat:=fun y=>ha2.own hr2 q2 y;exact Fc.fin (hat _) (Fc.agg (Fc.choice (hat _) (.exs0 (hat _)))) ⟨rfl,rfl⟩
 ·have c':isW l k [Gn]=false:=by simpa using c
  rw[if_neg c] at hn hH2⊢
  rw[Co ha.get] at hH2;subst hH2;simp(disch:=omega)only[go_sem,c'];have hpk:=hs _ k ha.get hk;have had:=hA.simple k hk;dsimp only at hpk;cases hpr:p.simple k with
  | bot=>rw[hpr] at hn;exact absurd rfl hn
  | fail k3=>
   rw[hpr] at hpk;refine(hpk (Az (by simp))).mono ?_;rintro e H3 ⟨rfl,rfl⟩;simp(disch:=omega)only[go_sem];exact RAt.finP (ha.set k3) ⟨rfl,rfl⟩
  | ok x k3=>
   rw[hpr] at hpk hn had;refine(hpk (Az (by simp))).mono ?_;rintro e H3 ⟨rfl,hH3⟩;have ha3:RAt r l k3 H H3:=by rw[hH3];exact ha.set k3
   dsimp only[Res.then,Adv] at hn had⊢
   have g3:H3 r2=some (.cells [.int .u8 0, .nilSlice] 47):=by rw[hH3];exact Af gr2 q2
   have hlx:=Ai x;have hox:=Bh x;simp(disch:=omega)only[go_sem,dE];intro r3 hr3;dsimp only at hr3;have n23:r2≠r3:=Ad hr3 g3;have m23:=n23.symm;have n3:r≠r3:=Ad hr3 ha3.get;have q3:=n3.symm;simp(disch:=omega)only[go_sem,hlx,hox];obtain⟨Hc,hHc⟩: ∃K,K=upd H3 r3 (some (.cells (dEx x) 27)):=⟨_,rfl⟩;rw[<-hHc];have hac:RAt r l k3 H Hc:=by rw[hHc];exact ha3.new hr3 _
   have gc2:Hc r2=some (.cells [.int .u8 0, .nilSlice] 47):=by rw[hHc];exact Af g3 n23
   have gc3:Hc r3=some (.cells (dEx x) 27):=by rw[hHc];exact Aa _ _ _
   intro w2 hw2;dsimp only at hw2;simp(disch:=omega)only[go_sem];refine(Sw hG _ w2 Ee hw2 hac.get (by omega) (by omega)).mono ?_;rintro _ H4 ⟨rfl,hH4⟩;by_cases c2:isW l k3 [Ee]=true
   ·rw[if_pos c2] at hn hH4⊢
    have ha4:RAt r l (k3+1) H H4:=by rw[hH4];exact hac.set _
    have g42:H4 r2=some (.cells [.int .u8 0, .nilSlice] 47):=by rw[hH4];exact Af gc2 q2
    have g43:H4 r3=some (.cells (dEx x) 27):=by rw[hH4];exact Af gc3 q3
    have hk4:=Ap c2 had.2;rw[jQ] at hk4;simp(disch:=omega)only[go_sem,c2];refine Am (by kernel_rfl) (.take 0 (.take 1 (.go 2 [0] (.go 3 [] (.take 4 (.go 5 [] .done)))))) (by kernel_rfl) ?_;simp(disch:=omega)only[go_sem,g43];have hp2:=hs _ (k3+1) ha4.get hk4;dsimp only at hp2;cases hpr2:p.simple (k3+1) with
    | bot=>rw[hpr2] at hn;exact absurd rfl hn
    | fail k5=>
     rw[hpr2] at hp2;refine(hp2 (Az (by simp))).mono ?_;rintro e H5 ⟨rfl,rfl⟩;simp(disch:=omega)only[go_sem];exact RAt.finP (ha4.set k5) ⟨rfl,rfl⟩
    | ok y k5=>
     rw[hpr2] at hp2;refine(hp2 (Az (by simp))).mono ?_;rintro e H5 ⟨rfl,hH5⟩;have ha5:RAt r l k5 H H5:=by rw[hH5];exact ha4.set k5
     have g52:H5 r2=some (.cells [.int .u8 0, .nilSlice] 47):=by rw[hH5];exact Af g42 q2
     have g53:H5 r3=some (.cells (dEx x) 27):=by rw[hH5];exact Af g43 q3
     have hly:=Ai y;dsimp only[Res.then];simp(disch:=omega)only[go_sem,dE,g43,g53];rw[Nj hlx hly];simp(disch:=omega)only[go_sem];intro r7 hr7;dsimp only at hr7;have n27:r2≠r7:=Ad hr7 g52;have m27:=n27.symm;simp(disch:=omega)only[go_sem,g52,n27,m27];have hxy: [x,y].flatMap dEx=dEx x++dEx y:=by simp
     have hat:=fun z=>(ha5.new hr7 (some (.cells (dEx x++dEx y) 27))).own hr2 q2 z;refine Fc.fin (hat _) (Fc.agg (Fc.choice (m:= [x,y]) (hat _) (Fc.block (e:=27) (hat _) (Sub.lo ha5 hr7) ?_ ?_))) ⟨rfl,rfl⟩
     ·rw[hxy];simp [upd,m27]
     ·rw[hxy,jC,hlx,hly]
   ·have c2':isW l k3 [Ee]=false:=by simpa using c2
    rw[if_neg c2] at hn hH4⊢
    rw[Co hac.get] at hH4;subst hH4;simp(disch:=omega)only[go_sem,c2',gc3];have hn2:p.rest x k3≠ .bot:=fun h=>hn (by rw[h];rfl);have hch:=hr1 x _ k3 hac.get had.2 (Az hn2);dsimp only at hch;cases hpc:p.rest x k3 with
    | bot=>exact absurd hpc hn2
    | fail k4=>
     rw[hpc] at hch;refine hch.mono ?_;rintro e H5 ⟨rfl,rfl⟩;simp(disch:=omega)only[go_sem];exact RAt.finP (hac.set k4) ⟨rfl,rfl⟩
    | ok y k4=>
     rw[hpc] at hch;refine hch.mono ?_;rintro e H5 ⟨rfl,hH5⟩;have ha5:RAt r l k4 H H5:=by rw[hH5];exact hac.set k4
     have g52:H5 r2=some (.cells [.int .u8 0, .nilSlice] 47):=by rw[hH5];exact Af gc2 q2
     have hly:=Ai y;dsimp only[Res.then];simp(disch:=omega)only[go_sem,dE];rw[Lj hly];simp(disch:=omega)only[go_sem];intro r7 hr7;dsimp only at hr7;have n27:r2≠r7:=Ad hr7 g52;have m27:=n27.symm;simp(disch:=omega)only[go_sem,g52,n27,m27];have hat:=fun z=>(ha5.new hr7 (some (.cells (dEx y) 27))).own hr2 q2 z;refine Fc.fin (hat _) (Fc.agg (Fc.choice (m:= [y]) (hat _) (Fc.block (e:=27) (hat _) (Sub.lo ha5 hr7) ?_ ?_))) ⟨rfl,rfl⟩
     ·rw[List.flatMap_singleton];simp [upd,m27]
     ·rw[List.flatMap_singleton,hly]
end
end Go.Dl

-- Chapter 3: the package's reader: several (printed by gen_uq.py).
namespace Go.Dl
open Go Go.Proofs
set_option maxRecDepth 100000
section
variable {G:Nat->DVal} {H0 H H':Ab} {r k:Nat} {l:List Tok}
theorem Er.move {H H':Ab} {e:TypeId} {size n:Nat} {cs:List DVal} {v:DVal} {r:Nat} {o:DObj} (h:Er (upd H r (some o)) e size n cs v H') (y:Option DObj):Er (upd H r y) e size n cs v (upd H' r y):=by
 have mv: ∀ {K:Ab},Sub (upd H r (some o)) K->Sub (upd H r y) (upd K r y):=fun s b ob hb=>by
  simp only[upd] at hb⊢
  by_cases c:b=r
  ·rw[if_pos c] at hb⊢;exact hb
  ·rw[if_neg c] at hb⊢
   exact s b ob (by simp only[upd];rw[if_neg c];exact hb)
 rcases h with⟨a,b,c,d⟩ | ⟨q,h1,h2,h3,h4,h5⟩
 ·exact .inl ⟨a,b,c,mv d⟩
 ·have hq:q≠r:=fun e=>by rw[e,Aa] at h1;cases h1
  exact .inr ⟨q,by rw[Aj _ _ _ _ hq] at h1⊢;exact h1,h2,h3,by rw[Aj _ _ _ _ hq];exact h4,mv h5⟩
theorem Be9 {x:List DVal} (hx:x.length=10):
  (if 10<=(Bj 1 [DVal.nilSlice,DVal.int .u8 0,DVal.int .u8 0,DVal.int .i64 0,DVal.str [],DVal.nilSlice,DVal.nilSlice,DVal.int .i64 0,DVal.int .i64 0,DVal.int .i64 0]).length then some (x++List.drop 10 (Bj 1 [DVal.nilSlice,DVal.int .u8 0,DVal.int .u8 0,DVal.int .i64 0,DVal.str [],DVal.nilSlice,DVal.nilSlice,DVal.int .i64 0,DVal.int .i64 0,DVal.int .i64 0])) else none)=some x:=by
 have e: ∀u:List DVal,Bj 1 u=u:=fun u=>by simp [Bj]
 rw[e,if_pos (by simp),List.drop_eq_nil_of_le (by simp),jH]
def Ae4 (H:Ab) (l:List As) (v:DVal) (H':Ab):Prop:=Er H 44 10 l.length (l.flatMap dAs) v H'
set_option maxHeartbeats 4000000 in
theorem An3 (hG:GX G) (hl:l.length<=800000) (g:FuncId) (T:Nat->Nat->Res As) (L:Nat->List As->Nat->Res (List As)) (sep:List UInt8)
  (hL0: ∀x k,L 0 x k= .bot) (hL: ∀m x k,L (m+1) x k=if isW l k [sep] then(T m (k+1)).then fun a k=>L m (x++ [a]) k else .ok x k)
  (hT: ∀m k,k<=l.length->Adv l (k+1) (T m k)) (n:Nat) (hg: ∀m≤n,RdC Tryz.prog G l g r fun k=>(T m k).mp dA) (H:Ab) (k:Nat) (hr:H r=some (rdO l k)) (hk:k<=l.length) (hn:((T n k).then fun a k=>L n [a] k)≠ .bot):
  Ae Tryz.prog G 249 [.optr r 0, .str sep, .func (.func g) [.optr r 0] []] H (RdR r l H (((T n k).then fun a k=>L n [a] k).mp dAl)):=by
 refine Ac Tryz.func249 Tryz.call249 rfl (by kernel_rfl) ?_;simp(disch:=omega)only[go_sem];have hpk:=hg n (Nat.le_refl _) _ k hr hk;have had:=hT n k hk;dsimp only at hpk;cases hpr:T n k with
 | bot=>rw[hpr] at hn;exact absurd rfl hn
 | fail k3=>
  rw[hpr] at hpk;refine(hpk (Az (by simp))).mono ?_;rintro e H3 ⟨rfl,rfl⟩;simp(disch:=omega)only[go_sem];exact Bu0.refl ⟨rfl,rfl⟩
 | ok a0 k3=>
  rw[hpr] at hpk hn had;refine(hpk (Az (by simp))).mono ?_;rintro e H3 ⟨rfl,hH3⟩;dsimp only[Res.then,Adv] at hn had⊢
  have hla:=Dr a0;simp(disch:=omega)only[go_sem,dA];rw[Be9 hla];simp(disch:=omega)only[go_sem];intro r7 hr7;dsimp only at hr7;obtain⟨n',rfl⟩: ∃n',n=n'+1:=by
   cases n with
   | zero=>exact absurd (hL0 _ _) hn
   | succ n'=>exact⟨n',rfl⟩
  have hv0:Ae4 (upd H r (some (rdO l k3))) [a0] (.oslice 10 r7 0 1 1) (upd H3 r7 (some (.cells (dAs a0) 44))):=
   .inr ⟨r7,by rw[<-hH3];exact hr7,by rw[List.flatMap_singleton,hla];rfl,rfl,by rw[List.flatMap_singleton];exact Aa _ _ _,by rw[hH3] at hr7⊢;exact(Sub.refl _).new hr7 _⟩
  simp(disch:=omega)only[go_sem];obtain⟨I,hI⟩: ∃I:Nat×List As×Nat->(Nat->DVal)->Ab->Prop,∀s env heap,I s env heap↔(env 0= .optr r 0/\env 1= .str sep/\env 2= .func (.func g) [.optr r 0] []/\s.2.2<=l.length/\s.2.1.length<=s.2.2/\s.1<=n'/\L (s.1+1) s.2.1 s.2.2=L (n'+1) [a0] k3/\Ae4 (upd H r (some (rdO l s.2.2))) s.2.1 (env 7) heap):=⟨_,fun _ _ _=>Iff.rfl⟩;refine Bt4.run I (fun s=>s.1) (n',[a0],k3) ((hI _ _ _).2 ?_) ?_
  ·simp(disch:=omega)only[go_sem];(repeat' apply And.intro)<;>(try first | rfl | assumption | omega)
  ·rintro⟨m,xs,k1⟩ env heap hi';obtain⟨e0,e1,e2,hk1,hlen,hm,hLm,hv⟩:=(hI _ _ _).1 hi';dsimp only at hk1 hlen hm hLm hv;rw[hL] at hLm;obtain⟨v,e7⟩: ∃v,env 7=v:=⟨_,rfl⟩;rw[e7] at hv;have gr:heap r=some (rdO l k1):=Er.keep hv (Aa _ _ _);simp(disch:=omega)only[go_sem,e0,e1,e2,e7];intro w1 hw1;dsimp only at hw1;simp(disch:=omega)only[go_sem,e0,e1,e2,e7];refine(Sw hG _ w1 sep hw1 gr (by omega) (by omega)).mono ?_;rintro _ H4 ⟨rfl,hH4⟩;by_cases c:isW l k1 [sep]=true
   ·rw[if_pos c] at hLm hH4;have hk4:=Ap c hk1;rw[jQ] at hk4;have hv4:Ae4 (upd H r (some (rdO l (k1+1)))) xs v H4:=by rw[hH4];exact Er.move hv _
    have gr4:H4 r=some (rdO l (k1+1)):=Er.keep hv4 (Aa _ _ _);simp(disch:=omega)only[go_sem,e0,e1,e2,e7,c];have hp2:=hg m (by omega) _ (k1+1) gr4 hk4;have had2:=hT m (k1+1) hk4;dsimp only at hp2;cases hpr2:T m (k1+1) with
    | bot=>rw[hpr2] at hLm;exact absurd hLm.symm hn
    | fail k5=>
     rw[hpr2] at hp2 hLm;refine(hp2 (Az (by simp))).mono ?_;rintro e H5 ⟨rfl,hH5⟩;have hv5:Ae4 (upd H r (some (rdO l k5))) xs v H5:=by rw[hH5];exact Er.move hv4 _
     simp(disch:=omega)only[go_sem];rw[<-hLm];exact Bu0.sub (Er.sub hv5) ⟨rfl,rfl⟩
    | ok a k5=>
     rw[hpr2] at hp2 hLm had2;dsimp only[Res.then,Adv] at hLm had2;refine(hp2 (Az (by simp))).mono ?_;rintro e H5 ⟨rfl,hH5⟩;have hv5:Ae4 (upd H r (some (rdO l k5))) xs v H5:=by rw[hH5];exact Er.move hv4 _
     have hla2:=Dr a;simp(disch:=omega)only[go_sem,e0,e1,e2,e7,dA];rw[Be9 hla2];simp(disch:=omega)only[go_sem,e0,e1,e2,e7];intro r8 hr8;dsimp only at hr8;simp(disch:=omega)only[go_sem,e0,e1,e2,e7];refine Er.append (m:=1) (Er.new hv5 hr8 _) (by rw[hla2]) (by omega) fun v2 H6 hv2=> ?_;simp(disch:=omega)only[go_sem,e0,e1,e2];obtain⟨m',rfl⟩: ∃m',m=m'+1:=by
      cases m with
      | zero=>rw[hL0] at hLm;exact absurd hLm.symm hn
      | succ m'=>exact⟨m',rfl⟩
     have hlen2:(xs++ [a]).length<=k5:=by rw[jC,jQ];omega
     have hv3:Ae4 (upd H r (some (rdO l k5))) (xs++ [a]) v2 H6:=by
      unfold Ae4;rw[jC,jQ,List.flatMap_append,List.flatMap_singleton];exact hv2
     refine⟨(m',xs++ [a],k5),_,Lq.refl _,(hI _ _ _).2 ?_,by dsimp only;omega⟩;simp(disch:=omega)only[go_sem,e0,e1,e2];(repeat' apply And.intro)<;>(try first | rfl | assumption | omega)
   ·have c':isW l k1 [sep]=false:=by simpa using c
    rw[if_neg c] at hLm hH4;rw[Co gr] at hH4;subst hH4;simp(disch:=omega)only[go_sem,e0,e1,e2,e7,c'];rw[<-hLm];exact Er.fin hv ⟨rfl,rfl⟩
theorem Ae5 {x:List DVal} (hx:x.length=2):
  (if 2<=(Bj 1 [DVal.int .u8 0,DVal.nilSlice]).length then some (x++List.drop 2 (Bj 1 [DVal.int .u8 0,DVal.nilSlice])) else none)=some x:=by
 have e: ∀u:List DVal,Bj 1 u=u:=fun u=>by simp [Bj]
 rw[e,if_pos (by simp),List.drop_eq_nil_of_le (by simp),jH]
def Cg (H:Ab) (l:List Ch) (v:DVal) (H':Ab):Prop:=Er H 47 2 l.length (l.flatMap dCh) v H'
theorem Cg9 (hG:GX G) (hl:l.length<=800000) (n:Nat) (hg: ∀m≤n,RdC Tryz.prog G l 251 r fun k=>((P l m).arg k).mp dA):RdC Tryz.prog G l 175 r fun k=>(((P l n).arg k).then fun a k=>(P l n).argsL [a] k).mp dAl:=by
 intro H k hr hk hn;refine Ac Tryz.func175 Tryz.call175 rfl (by kernel_rfl) ?_;simp(disch:=omega)only[go_sem];have hs:=An3 hG hl 251 (fun m=>(P l m).arg) (fun m=>(P l m).argsL) Gv (fun _ _=>rfl) (fun _ _ _=>rfl) (fun m k hk=>(Fw m).arg k hk) n hg H k hr hk (fun h=>hn (by dsimp only;rw[h];rfl));refine hs.mono ?_;intro e H' h;dsimp only at hn⊢
 cases hc:(((P l n).arg k).then fun a k=>(P l n).argsL [a] k) with
 | bot=>rw[hc] at h;exact h.elim
 | fail k3=>
  rw[hc] at h;obtain⟨rfl,rfl⟩:=h;simp(disch:=omega)only[go_sem];exact Bu0.refl ⟨rfl,rfl⟩
 | ok x k3=>
  rw[hc] at h;obtain⟨rfl,rfl⟩:=h;simp(disch:=omega)only[go_sem];exact Pl.refl ⟨rfl,rfl⟩
end
end Go.Dl

-- Chapter 3: the package's reader: arguments.
namespace Go.Dl
open Go Go.Proofs
set_option maxRecDepth 100000
section
variable {G:Nat->DVal} {H0 H H':Ab} {r k:Nat} {l:List Tok}
theorem Dw8 (hG:GX G) (H:Ab) (q:Nat) (s:List UInt8) (hq:H q=some (.cells [.str s] 9)) (hr:H r=some (rdO l k)) (hrq:r≠q) (hl:l.length<=1000000) (hk:k<=900000):Ae Tryz.prog G 172 [.optr r 0, .oslice 1 q 0 1 1] H (Bo (.bool (isW l k [s])) (upd H q none)):=by
 refine Ae.fzArgs q hq ?_;simp only[fzs,fz,if_neg hrq,if_pos];exact Ut hG _ [s] (by rw[Aj _ _ _ _ hrq];exact hr) hl hk (by simp)
theorem Fc.assoc {v:DVal} {c:List Ch} {e:Ex} (hs:Sub H H') (h:Fc H' v H (dCl c)):Df H' (v::dEx e) H (dAs (.mk c e)):=by
 rw[Sr];exact .cons h (.keep hs _)
set_option maxHeartbeats 4000000 in
theorem Aj9 (hG:GX G) (hl:l.length<=800000) (p:PS) (hpa:RdC Tryz.prog G l 58 r fun k=>(p.expr k).mp dE):RdC Tryz.prog G l 251 r fun k=>((Aw l p).arg k).mp dA:=by
 intro H k hr hk hn;dsimp only[Aw] at hn⊢
 obtain⟨t,ht⟩: ∃t,t=tk l k:=⟨_,rfl⟩;rw[<-ht] at hn⊢
 have hw1:IntKind.i64.wrap ((k:Int)+1)=((k+1:Nat):Int):=by rw[IntKind.wrap_i64];omega
 have hw2:IntKind.i64.wrap ((k:Int)+2)=((k+2:Nat):Int):=by rw[IntKind.wrap_i64];omega
 refine Ac Tryz.func251 Tryz.call251 rfl (by kernel_rfl) ?_;simp(disch:=omega)only[go_sem];intro r2 hr2;dsimp only at hr2;obtain⟨Ha,hHa⟩: ∃K,K=upd H r2 (some (.cells [.nilSlice, .int .u8 0, .int .u8 0, .int .i64 0, .str [], .nilSlice, .nilSlice, .int .i64 0, .int .i64 0, .int .i64 0] 44)):=⟨_,rfl⟩;rw[<-hHa];have gr2:Ha r2=some (.cells [.nilSlice, .int .u8 0, .int .u8 0, .int .i64 0, .str [], .nilSlice, .nilSlice, .int .i64 0, .int .i64 0, .int .i64 0] 44):=by rw[hHa];exact Aa _ _ _
 have n2:r≠r2:=Ad hr2 hr;have q2:=n2.symm;have ha:RAt r l k H Ha:=by rw[hHa];exact(RAt.refl hr).new hr2 _
 simp(disch:=omega)only[go_sem];refine(Qo G _ ha.get (by omega) (by omega)).mono ?_;rintro _ H1 ⟨rfl,rfl⟩;rw[<-ht];simp(disch:=omega)only[go_sem];intro r3 hr3;dsimp only at hr3;have n23:r2≠r3:=Ad hr3 gr2;have m23:=n23.symm;have n3:r≠r3:=Ad hr3 ha.get;have q3:=n3.symm;simp(disch:=omega)only[go_sem,Dw];obtain⟨Hc,hHc⟩: ∃K,K=upd H1 r3 (some (.cells [.int .u8 t.kind,dI t.line, .str t.text,dI t.n] 31)):=⟨_,rfl⟩;rw[<-hHc];have hac:RAt r l k H Hc:=by rw[hHc];exact ha.new hr3 _
 have gc2:Hc r2=some (.cells [.nilSlice, .int .u8 0, .int .u8 0, .int .i64 0, .str [], .nilSlice, .nilSlice, .int .i64 0, .int .i64 0, .int .i64 0] 44):=by rw[hHc];exact Af gr2 n23
 have gc3:Hc r3=some (.cells [.int .u8 t.kind,dI t.line, .str t.text,dI t.n] 31):=by rw[hHc];exact Aa _ _ _
 have gcr:=hac.get;unfold rdO at gcr;by_cases c:t.kind=1
 ·refine Am (by kernel_rfl) pL2 (by kernel_rfl) ?_;have hdc:(Dd l).cells= [Dd l]:=rfl;simp(disch:=omega)only[go_sem,gc3,c,gcr,hw1,hdc];have hk1:k+1<=l.length:=Ks (by rw[<-ht,c];decide);refine⟨?_, ?_⟩
  ·intro w1 hw;dsimp only at hw;have nr1:r≠w1:=Ad hw hac.get;simp(disch:=omega)only[go_sem,nr1];intro r20 h20;dsimp only at h20;obtain⟨m1,m2,h20'⟩:=Dk7.1 h20;have nr20:r≠r20:=Ad h20' hac.get;simp(disch:=omega)only[go_sem,nr1,nr20,m1,m2];refine(Dw8 hG _ w1 Bd (r:=r20) (k:=k+1) (by rw[Aj _ _ _ _ m2];exact Aa _ _ _) (Aa _ _ _) m1 (by omega) (by omega)).mono ?_;rintro _ H5 ⟨rfl,hH5⟩;have n52:r2≠w1:=Ad hw gc2;have n53:r3≠w1:=Ad hw gc3;have n62:r2≠r20:=Ad h20' gc2;have n63:r3≠r20:=Ad h20' gc3;have g52:H5 r2=some (.cells [.nilSlice, .int .u8 0, .int .u8 0, .int .i64 0, .str [], .nilSlice, .nilSlice, .int .i64 0, .int .i64 0, .int .i64 0] 44):=by rw[hH5,Aj _ _ _ _ n52];exact Af (Af gc2 n52) n62
   have g53:H5 r3=some (.cells [.int .u8 t.kind,dI t.line, .str t.text,dI t.n] 31):=by rw[hH5,Aj _ _ _ _ n53];exact Af (Af gc3 n53) n63
   have ha5:RAt r l k H H5:=by rw[hH5];exact((hac.new hw (some (.cells [.str Bd] 9))).new h20 (some (rdO l (k+1)))).own (hac.lo hw) nr1.symm none
   have gr5:=ha5.get;unfold rdO at gr5;by_cases c2:isW l (k+1) [Bd]=true
   ·rw[if_pos ⟨c,c2⟩] at hn;rw[if_pos c2];have hk2:=Ap c2 hk1;rw[jQ] at hk2;simp(disch:=omega)only[go_sem,c2,gr5,hw2,q3,g53];obtain⟨H6,hH6⟩: ∃H6,H6=upd H5 r (some (rdO l (k+2))):=⟨_,rfl⟩;have hH6':=hH6;unfold rdO at hH6';rw[<-hH6'];have ha6:RAt r l (k+2) H H6:=by rw[hH6];exact ha5.set _
    have g62:H6 r2=some (.cells [.nilSlice, .int .u8 0, .int .u8 0, .int .i64 0, .str [], .nilSlice, .nilSlice, .int .i64 0, .int .i64 0, .int .i64 0] 44):=by rw[hH6];exact Af g52 q2
    have g63:H6 r3=some (.cells [.int .u8 t.kind,dI t.line, .str t.text,dI t.n] 31):=by rw[hH6];exact Af g53 q3
    intro r36 h36;dsimp only at h36;have p236:r2≠r36:=Ad h36 g62;have z236:=p236.symm;have pr36:r≠r36:=Ad h36 ha6.get;simp(disch:=omega)only[go_sem];intro r38 h38;dsimp only at h38;obtain⟨a1,a2,h38'⟩:=Dk7.1 h38;have p238:r2≠r38:=Ad h38' g62;have z238:=p238.symm;have pr38:r≠r38:=Ad h38' ha6.get;simp(disch:=omega)only[go_sem,p236,p238,g62];obtain⟨H7,hH7⟩: ∃H7,H7=upd (upd (upd H6 r36 (some (.cells [.int .u8 3, .int .u8 0, .int .i64 0, .str t.text, .nilSlice, .nilSlice, .int .i64 t.line, .int .i64 0, .int .i64 0] 27))) r38 (some (.cells [.int .u8 1, .oslice 9 r36 0 1 1] 47))) r2 (some (.cells [.oslice 2 r38 0 1 1, .int .u8 0, .int .u8 0, .int .i64 0, .str [], .nilSlice, .nilSlice, .int .i64 0, .int .i64 0, .int .i64 0] 44)):=⟨_,rfl⟩;rw[show List.drop 9 (Bj 1 [DVal.int .u8 0,DVal.int .u8 0,DVal.int .i64 0,DVal.str [],DVal.nilSlice,DVal.nilSlice,DVal.int .i64 0,DVal.int .i64 0,DVal.int .i64 0])= [] from rfl,show List.drop 2 (Bj 1 [DVal.int .u8 0,DVal.nilSlice])= [] from rfl,<-hH7];have ha7:RAt r l (k+2) H H7:=by rw[hH7];exact((ha6.new h36 _).new h38 _).own hr2 q2 _
    have g736:H7 r36=some (.cells [.int .u8 3, .int .u8 0, .int .i64 0, .str t.text, .nilSlice, .nilSlice, .int .i64 t.line, .int .i64 0, .int .i64 0] 27):=by rw[hH7];simp [upd,z236,a1,a2]
    have g738:H7 r38=some (.cells [.int .u8 1, .oslice 9 r36 0 1 1] 47):=by rw[hH7];simp [upd,z238]
    have g72:H7 r2=some (.cells [.oslice 2 r38 0 1 1, .int .u8 0, .int .u8 0, .int .i64 0, .str [], .nilSlice, .nilSlice, .int .i64 0, .int .i64 0, .int .i64 0] 44):=by rw[hH7];exact Aa _ _ _
    have hpk:=hpa _ (k+2) ha7.get (by omega);dsimp only at hpk;cases hpr:p.expr (k+2) with
    | bot=>rw[hpr] at hn;exact absurd rfl hn
    | fail k3=>
     rw[hpr] at hpk;refine(hpk (Az (by simp))).mono ?_;rintro e H4 ⟨rfl,rfl⟩;simp(disch:=omega)only[go_sem];exact RAt.finP (ha7.set k3) ⟨rfl,rfl⟩
    | ok y k3=>
     rw[hpr] at hpk;refine(hpk (Az (by simp))).mono ?_;rintro e H4 ⟨rfl,hH4⟩;have ha4:RAt r l k3 H H4:=by rw[hH4];exact ha7.set k3
     have g42:=Af (y:=some (rdO l k3)) g72 q2;have g436:=Af (y:=some (rdO l k3)) g736 pr36.symm;have g438:=Af (y:=some (rdO l k3)) g738 pr38.symm;rw[<-hH4] at g42 g436 g438;have hly:=Ai y;have hoy:=Bh y;dsimp only[Res.then];simp(disch:=omega)only[go_sem,dE,g42,hly,hoy];have hat:=fun z=>ha4.own hr2 q2 z;refine Fc.fin (hat _) (Fc.agg (Fc.assoc (c:= [.mk 1 [.mk 3 0 0 t.text [] [] t.line 0 0]]) (hat _) (Fc.cells (e:=47) (cs':= [Ch.mk 1 [.mk 3 0 0 t.text [] [] t.line 0 0]].flatMap dCh) (hat _) ?_ (Af g438 z238) rfl ?_))) ⟨rfl,rfl⟩
     ·rw[Aj _ _ _ _ pr38.symm];exact ha6.lo h38'
     ·rw[List.flatMap_singleton];refine Fc.choice (m:= [.mk 3 0 0 t.text [] [] t.line 0 0]) (hat _) (Fc.cells (e:=27) (cs':= [Ex.mk 3 0 0 t.text [] [] t.line 0 0].flatMap dEx) (hat _) ?_ (Af g436 z236) rfl ?_)
      ·rw[Aj _ _ _ _ pr36.symm];exact ha6.lo h36
      ·rw[List.flatMap_singleton];exact Fc.ex (hat _) (.exs0 (hat _)) (.as0 (hat _))
   ·have c2':isW l (k+1) [Bd]=false:=by simpa using c2
    rw[if_neg (fun h=>c2 h.2)] at hn;rw[if_neg c2];simp(disch:=omega)only[go_sem,c2'];have hpk:=hpa _ k ha5.get hk;dsimp only at hpk;cases hpr:p.expr k with
    | bot=>rw[hpr] at hn;exact absurd rfl hn
    | fail k3=>
     rw[hpr] at hpk;refine(hpk (Az (by simp))).mono ?_;rintro e H4 ⟨rfl,rfl⟩;simp(disch:=omega)only[go_sem];exact RAt.finP (ha5.set k3) ⟨rfl,rfl⟩
    | ok y k3=>
     rw[hpr] at hpk;refine(hpk (Az (by simp))).mono ?_;rintro e H4 ⟨rfl,hH4⟩;have ha4:RAt r l k3 H H4:=by rw[hH4];exact ha5.set k3
     have g4:H4 r2=some (.cells [.nilSlice, .int .u8 0, .int .u8 0, .int .i64 0, .str [], .nilSlice, .nilSlice, .int .i64 0, .int .i64 0, .int .i64 0] 44):=by rw[hH4];exact Af g52 q2
     have hly:=Ai y;have hoy:=Bh y;dsimp only[Res.then];simp(disch:=omega)only[go_sem,dE,g4,hly,hoy];have hat:=fun z=>ha4.own hr2 q2 z;exact Fc.fin (hat _) (Fc.agg (Fc.assoc (c:= []) (hat _) (.ch0 (hat _)))) ⟨rfl,rfl⟩
  ·intro r20 h20;dsimp only at h20;have nr20:r≠r20:=Ad h20 hac.get;simp(disch:=omega)only[go_sem,nr20];intro w1 hwq;dsimp only at hwq;obtain⟨m1,m2,hw⟩:=Dk7.1 hwq;have nr1:r≠w1:=Ad hw hac.get;simp(disch:=omega)only[go_sem,nr1,nr20,m1,m2];refine(Dw8 hG _ w1 Bd (r:=r20) (k:=k+1) (Aa _ _ _) (by rw[Aj _ _ _ _ m2];exact Aa _ _ _) m2 (by omega) (by omega)).mono ?_;rintro _ H5 ⟨rfl,hH5⟩;have n52:r2≠w1:=Ad hw gc2;have n53:r3≠w1:=Ad hw gc3;have n62:r2≠r20:=Ad h20 gc2;have n63:r3≠r20:=Ad h20 gc3;have g52:H5 r2=some (.cells [.nilSlice, .int .u8 0, .int .u8 0, .int .i64 0, .str [], .nilSlice, .nilSlice, .int .i64 0, .int .i64 0, .int .i64 0] 44):=by rw[hH5,Aj _ _ _ _ n52];exact Af (Af gc2 n62) n52
   have g53:H5 r3=some (.cells [.int .u8 t.kind,dI t.line, .str t.text,dI t.n] 31):=by rw[hH5,Aj _ _ _ _ n53];exact Af (Af gc3 n63) n53
   have ha5:RAt r l k H H5:=by rw[hH5];exact((hac.new h20 (some (rdO l (k+1)))).new hwq (some (.cells [.str Bd] 9))).own (hac.lo hw) nr1.symm none
   have gr5:=ha5.get;unfold rdO at gr5;by_cases c2:isW l (k+1) [Bd]=true
   ·rw[if_pos ⟨c,c2⟩] at hn;rw[if_pos c2];have hk2:=Ap c2 hk1;rw[jQ] at hk2;simp(disch:=omega)only[go_sem,c2,gr5,hw2,q3,g53];obtain⟨H6,hH6⟩: ∃H6,H6=upd H5 r (some (rdO l (k+2))):=⟨_,rfl⟩;have hH6':=hH6;unfold rdO at hH6';rw[<-hH6'];have ha6:RAt r l (k+2) H H6:=by rw[hH6];exact ha5.set _
    have g62:H6 r2=some (.cells [.nilSlice, .int .u8 0, .int .u8 0, .int .i64 0, .str [], .nilSlice, .nilSlice, .int .i64 0, .int .i64 0, .int .i64 0] 44):=by rw[hH6];exact Af g52 q2
    have g63:H6 r3=some (.cells [.int .u8 t.kind,dI t.line, .str t.text,dI t.n] 31):=by rw[hH6];exact Af g53 q3
    intro r36 h36;dsimp only at h36;have p236:r2≠r36:=Ad h36 g62;have z236:=p236.symm;have pr36:r≠r36:=Ad h36 ha6.get;simp(disch:=omega)only[go_sem];intro r38 h38;dsimp only at h38;obtain⟨a1,a2,h38'⟩:=Dk7.1 h38;have p238:r2≠r38:=Ad h38' g62;have z238:=p238.symm;have pr38:r≠r38:=Ad h38' ha6.get;simp(disch:=omega)only[go_sem,p236,p238,g62];obtain⟨H7,hH7⟩: ∃H7,H7=upd (upd (upd H6 r36 (some (.cells [.int .u8 3, .int .u8 0, .int .i64 0, .str t.text, .nilSlice, .nilSlice, .int .i64 t.line, .int .i64 0, .int .i64 0] 27))) r38 (some (.cells [.int .u8 1, .oslice 9 r36 0 1 1] 47))) r2 (some (.cells [.oslice 2 r38 0 1 1, .int .u8 0, .int .u8 0, .int .i64 0, .str [], .nilSlice, .nilSlice, .int .i64 0, .int .i64 0, .int .i64 0] 44)):=⟨_,rfl⟩;rw[show List.drop 9 (Bj 1 [DVal.int .u8 0,DVal.int .u8 0,DVal.int .i64 0,DVal.str [],DVal.nilSlice,DVal.nilSlice,DVal.int .i64 0,DVal.int .i64 0,DVal.int .i64 0])= [] from rfl,show List.drop 2 (Bj 1 [DVal.int .u8 0,DVal.nilSlice])= [] from rfl,<-hH7];have ha7:RAt r l (k+2) H H7:=by rw[hH7];exact((ha6.new h36 _).new h38 _).own hr2 q2 _
    have g736:H7 r36=some (.cells [.int .u8 3, .int .u8 0, .int .i64 0, .str t.text, .nilSlice, .nilSlice, .int .i64 t.line, .int .i64 0, .int .i64 0] 27):=by rw[hH7];simp [upd,z236,a1,a2]
    have g738:H7 r38=some (.cells [.int .u8 1, .oslice 9 r36 0 1 1] 47):=by rw[hH7];simp [upd,z238]
    have g72:H7 r2=some (.cells [.oslice 2 r38 0 1 1, .int .u8 0, .int .u8 0, .int .i64 0, .str [], .nilSlice, .nilSlice, .int .i64 0, .int .i64 0, .int .i64 0] 44):=by rw[hH7];exact Aa _ _ _
    have hpk:=hpa _ (k+2) ha7.get (by omega);dsimp only at hpk;cases hpr:p.expr (k+2) with
    | bot=>rw[hpr] at hn;exact absurd rfl hn
    | fail k3=>
     rw[hpr] at hpk;refine(hpk (Az (by simp))).mono ?_;rintro e H4 ⟨rfl,rfl⟩;simp(disch:=omega)only[go_sem];exact RAt.finP (ha7.set k3) ⟨rfl,rfl⟩
    | ok y k3=>
     rw[hpr] at hpk;refine(hpk (Az (by simp))).mono ?_;rintro e H4 ⟨rfl,hH4⟩;have ha4:RAt r l k3 H H4:=by rw[hH4];exact ha7.set k3
     have g42:=Af (y:=some (rdO l k3)) g72 q2;have g436:=Af (y:=some (rdO l k3)) g736 pr36.symm;have g438:=Af (y:=some (rdO l k3)) g738 pr38.symm;rw[<-hH4] at g42 g436 g438;have hly:=Ai y;have hoy:=Bh y;dsimp only[Res.then];simp(disch:=omega)only[go_sem,dE,g42,hly,hoy];have hat:=fun z=>ha4.own hr2 q2 z;refine Fc.fin (hat _) (Fc.agg (Fc.assoc (c:= [.mk 1 [.mk 3 0 0 t.text [] [] t.line 0 0]]) (hat _) (Fc.cells (e:=47) (cs':= [Ch.mk 1 [.mk 3 0 0 t.text [] [] t.line 0 0]].flatMap dCh) (hat _) ?_ (Af g438 z238) rfl ?_))) ⟨rfl,rfl⟩
     ·rw[Aj _ _ _ _ pr38.symm];exact ha6.lo h38'
     ·rw[List.flatMap_singleton];refine Fc.choice (m:= [.mk 3 0 0 t.text [] [] t.line 0 0]) (hat _) (Fc.cells (e:=27) (cs':= [Ex.mk 3 0 0 t.text [] [] t.line 0 0].flatMap dEx) (hat _) ?_ (Af g436 z236) rfl ?_)
      ·rw[Aj _ _ _ _ pr36.symm];exact ha6.lo h36
      ·rw[List.flatMap_singleton];exact Fc.ex (hat _) (.exs0 (hat _)) (.as0 (hat _))
   ·have c2':isW l (k+1) [Bd]=false:=by simpa using c2
    rw[if_neg (fun h=>c2 h.2)] at hn;rw[if_neg c2];simp(disch:=omega)only[go_sem,c2'];have hpk:=hpa _ k ha5.get hk;dsimp only at hpk;cases hpr:p.expr k with
    | bot=>rw[hpr] at hn;exact absurd rfl hn
    | fail k3=>
     rw[hpr] at hpk;refine(hpk (Az (by simp))).mono ?_;rintro e H4 ⟨rfl,rfl⟩;simp(disch:=omega)only[go_sem];exact RAt.finP (ha5.set k3) ⟨rfl,rfl⟩
    | ok y k3=>
     rw[hpr] at hpk;refine(hpk (Az (by simp))).mono ?_;rintro e H4 ⟨rfl,hH4⟩;have ha4:RAt r l k3 H H4:=by rw[hH4];exact ha5.set k3
     have g4:H4 r2=some (.cells [.nilSlice, .int .u8 0, .int .u8 0, .int .i64 0, .str [], .nilSlice, .nilSlice, .int .i64 0, .int .i64 0, .int .i64 0] 44):=by rw[hH4];exact Af g52 q2
     have hly:=Ai y;have hoy:=Bh y;dsimp only[Res.then];simp(disch:=omega)only[go_sem,dE,g4,hly,hoy];have hat:=fun z=>ha4.own hr2 q2 z;exact Fc.fin (hat _) (Fc.agg (Fc.assoc (c:= []) (hat _) (.ch0 (hat _)))) ⟨rfl,rfl⟩
 ·rw[if_neg (fun h=>c h.1)] at hn⊢
  refine Am (by kernel_rfl) pL2 (by kernel_rfl) ?_;simp(disch:=omega)only[go_sem,gc3,c];refine⟨⟨⟨Fy,Fy⟩, ?_⟩,⟨Fy,Fy⟩, ?_⟩;all_goals
   have hpk:=hpa _ k hac.get hk;dsimp only at hpk;cases hpr:p.expr k with
   | bot=>rw[hpr] at hn;exact absurd rfl hn
   | fail k3=>
    rw[hpr] at hpk;refine(hpk (Az (by simp))).mono ?_;rintro e H4 ⟨rfl,rfl⟩;simp(disch:=omega)only[go_sem];exact RAt.finP (hac.set k3) ⟨rfl,rfl⟩
   | ok y k3=>
    rw[hpr] at hpk;refine(hpk (Az (by simp))).mono ?_;rintro e H4 ⟨rfl,hH4⟩;have ha4:RAt r l k3 H H4:=by rw[hH4];exact hac.set k3
    have g4:H4 r2=some (.cells [.nilSlice, .int .u8 0, .int .u8 0, .int .i64 0, .str [], .nilSlice, .nilSlice, .int .i64 0, .int .i64 0, .int .i64 0] 44):=by rw[hH4];exact Af gc2 q2
    have hly:=Ai y;have hoy:=Bh y;dsimp only[Res.then];simp(disch:=omega)only[go_sem,dE,g4,hly,hoy];have hat:=fun z=>ha4.own hr2 q2 z;exact Fc.fin (hat _) (Fc.agg (Fc.assoc (c:= []) (hat _) (.ch0 (hat _)))) ⟨rfl,rfl⟩
end
end Go.Dl

-- Chapter 3: the package's reader: associations.
namespace Go.Dl
open Go Go.Proofs
set_option maxRecDepth 100000
section
variable {G:Nat->DVal} {H0 H H':Ab} {r k:Nat} {l:List Tok}
theorem Da {α β:Type} (x:α) (k:Nat) (f:α->Nat->Res β):(Res.ok x k).then f=f x k:=rfl
theorem Dj {α β:Type} (k:Nat) (f:α->Nat->Res β):(Res.fail k).then f= .fail k:=rfl
theorem Dx {α β:Type} (f:α->Nat->Res β):Res.bot.then f= .bot:=rfl
theorem Er.at {B H':Ab} {e:TypeId} {size n:Nat} {cs:List DVal} {v:DVal} {r:Nat} {o:DObj} (h:Er B e size n cs v H') (hr:B r=some o) (y:Option DObj):Er (upd B r y) e size n cs v (upd H' r y):=by
 have h2:Er (upd B r (some o)) e size n cs v H':=by rw[Co hr];exact h
 exact h2.move y
theorem Kz {n k:Nat} {c:Ch} {k':Nat} (h:(P l n).choice k= .ok c k'):(c.kind=3/\c.l= [])\/(c.kind=2/\ ∃x y,c.l= [x,y])\/(c.kind=1/\ ∃x,c.l= [x]):=by
 cases n with
 | zero=>cases h
 | succ n=>
  have e:(P l (n+1)).choice k=if isW l k [Gn] then .ok (.mk 3 []) (k+1) else((P l n).simple k).then fun x k=>if isW l k [Ee] then((P l n).simple (k+1)).then fun y k=> .ok (.mk 2 [x,y]) k else((P l n).rest x k).then fun x k=> .ok (.mk 1 [x]) k:=rfl
  rw[e] at h;split at h
  ·cases h;exact .inl ⟨rfl,rfl⟩
  ·cases h1:(P l n).simple k with
   | bot=>rw[h1] at h;cases h
   | fail k=>rw[h1] at h;cases h
   | ok x k1=>
    rw[h1] at h;dsimp only[Res.then] at h;split at h
    ·cases h2:(P l n).simple (k1+1) with
     | bot=>rw[h2] at h;cases h
     | fail k=>rw[h2] at h;cases h
     | ok y k2=>rw[h2] at h;cases h;exact .inr (.inl ⟨rfl,x,y,rfl⟩)
    ·cases h2:(P l n).rest x k1 with
     | bot=>rw[h2] at h;cases h
     | fail k=>rw[h2] at h;cases h
     | ok y k2=>rw[h2] at h;cases h;exact .inr (.inr ⟨rfl,y,rfl⟩)
set_option maxHeartbeats 4000000 in
theorem At7 (hG:GX G) (hl:l.length<=800000) (n:Nat) (hc: ∀m≤n,RdC Tryz.prog G l 294 r fun k=>((P l m).choice k).mp dC) (hpa:RdC Tryz.prog G l 58 r fun k=>((P l n).expr k).mp dE):RdC Tryz.prog G l 250 r fun k=>((P l (n+1)).assoc k).mp dA:=by
 intro H k hr hk hn;obtain⟨F,hF⟩: ∃F:Ch->Nat->Res As,∀c k,F c k=if c.kind=1/\isW l k [Fl]=false/\isW l k [Bd]=false then .ok (.mk [] (c.l.getD 0 ex0)) k else if c.kind=3 then Cx l Bd k fun k=>((P l n).expr k).then fun e k=> .ok (.mk [c] e) k else((P l n).choicesL [c] k).then fun cs k=>Cx l Bd k fun k=>((P l n).expr k).then fun e k=> .ok (.mk cs e) k:=⟨_,fun _ _=>rfl⟩
 have e:(P l (n+1)).assoc k=((P l n).choice k).then F:=by
  have:F=fun c k=>if c.kind=1/\isW l k [Fl]=false/\isW l k [Bd]=false then .ok (.mk [] (c.l.getD 0 ex0)) k else if c.kind=3 then Cx l Bd k fun k=>((P l n).expr k).then fun e k=> .ok (.mk [c] e) k else((P l n).choicesL [c] k).then fun cs k=>Cx l Bd k fun k=>((P l n).expr k).then fun e k=> .ok (.mk cs e) k:=funext fun c=>funext fun k=>hF c k
  rw[this];rfl
 dsimp only at hn⊢
 rw[e] at hn⊢
 refine Ac Tryz.func250 Tryz.call250 rfl (by kernel_rfl) ?_;simp(disch:=omega)only[go_sem];intro r2 hr2;dsimp only at hr2;obtain⟨Ha,hHa⟩: ∃K,K=upd H r2 (some (.cells [.nilSlice, .int .u8 0, .int .u8 0, .int .i64 0, .str [], .nilSlice, .nilSlice, .int .i64 0, .int .i64 0, .int .i64 0] 44)):=⟨_,rfl⟩;rw[<-hHa];have gr2:Ha r2=some (.cells [.nilSlice, .int .u8 0, .int .u8 0, .int .i64 0, .str [], .nilSlice, .nilSlice, .int .i64 0, .int .i64 0, .int .i64 0] 44):=by rw[hHa];exact Aa _ _ _
 have n2:r≠r2:=Ad hr2 hr;have q2:=n2.symm;have ha:RAt r l k H Ha:=by rw[hHa];exact(RAt.refl hr).new hr2 _
 simp(disch:=omega)only[go_sem];have hpk:=hc n (Nat.le_refl _) _ k ha.get hk;have had:=(Fw (l:=l) n).choice k hk;dsimp only at hpk;cases hpr:(P l n).choice k with
 | bot=>rw[hpr] at hn;exact absurd rfl hn
 | fail k3=>
  rw[hpr] at hpk;refine(hpk (Az (by simp))).mono ?_;rintro e H4 ⟨rfl,rfl⟩;simp(disch:=omega)only[go_sem];exact RAt.finP (ha.set k3) ⟨rfl,rfl⟩
 | ok c k3=>
  rw[hpr] at hpk hn had;refine(hpk (Az (by simp))).mono ?_;rintro e H3 ⟨rfl,hH3⟩;have ha3:RAt r l k3 H H3:=by rw[hH3];exact ha.set k3
  dsimp only[Res.then,Adv] at hn had⊢
  have hres:=hF c k3;obtain⟨res,hrs⟩: ∃res,res=F c k3:=⟨_,rfl⟩;rw[<-hrs] at hn hres⊢
  have g3:H3 r2=some (.cells [.nilSlice, .int .u8 0, .int .u8 0, .int .i64 0, .str [], .nilSlice, .nilSlice, .int .i64 0, .int .i64 0, .int .i64 0] 44):=by rw[hH3];exact Af gr2 q2
  have hlc:=Ea c;have hoc:=Bv4 c;simp(disch:=omega)only[go_sem,dC];intro r3 hr3;dsimp only at hr3;have n23:r2≠r3:=Ad hr3 g3;have m23:=n23.symm;have n3:r≠r3:=Ad hr3 ha3.get;have q3:=n3.symm;simp(disch:=omega)only[go_sem,hlc,hoc];obtain⟨Hc,hHc⟩: ∃K,K=upd H3 r3 (some (.cells (dCh c) 47)):=⟨_,rfl⟩;rw[<-hHc];have hac:RAt r l k3 H Hc:=by rw[hHc];exact ha3.new hr3 _
  have gc2:Hc r2=some (.cells [.nilSlice, .int .u8 0, .int .u8 0, .int .i64 0, .str [], .nilSlice, .nilSlice, .int .i64 0, .int .i64 0, .int .i64 0] 44):=by rw[hHc];exact Af g3 n23
  have gc3:Hc r3=some (.cells (dCh c) 47):=by rw[hHc];exact Aa _ _ _
  have gk:(dCh c)[0]? =some (.int .u8 c.kind):=by rw[Qm];rfl
  by_cases c1:c.kind=1
  ·simp(disch:=omega)only[go_sem,gc3,gk,c1];intro w1 hw1;dsimp only at hw1;simp(disch:=omega)only[go_sem];refine(is1 hG _ w1 Fl hw1 hac.get (by omega) (by omega)).mono ?_;rintro _ H5 ⟨rfl,hH5⟩;rw[hH5];by_cases b1:isW l k3 [Fl]=true
   ·simp(disch:=omega)only[go_sem,b1];have hnc: ¬(c.kind=1/\isW l k3 [Fl]=false/\isW l k3 [Bd]=false):=fun h=>by rw[b1] at h;exact absurd h.2.1 (by decide)
    have hsh:=Kz hpr;obtain⟨n',rfl⟩: ∃n',n=n'+1:=by
     cases n with
     | zero=>cases hpr
     | succ n'=>exact⟨n',rfl⟩
    obtain⟨L',hL0,hL,hres2⟩: ∃L':Nat->List Ch->Nat->Res (List Ch),(c.kind≠3-> ∀x k,L' 0 x k= .bot)/\(∀m x k,L' (m+1) x k=if c.kind≠3/\isW l k [Fl]=true then((P l m).choice (k+1)).then fun a k=>L' m (x++ [a]) k else .ok x k)/\res=(L' (n'+1) [c] k3).then fun cs k=>Cx l Bd k fun k=>((P l (n'+1)).expr k).then fun e k=> .ok (.mk cs e) k:=by
     rw[hres];by_cases c3:c.kind=3
     ·refine⟨fun _ x k=> .ok x k,fun h=>absurd c3 h,fun m x k=>by rw[if_neg (fun h=>h.1 c3)], ?_⟩;rw[if_neg (fun h=>by rw[c3] at h;exact absurd h.1 (by decide)),if_pos c3];rfl
     ·refine⟨fun m=>(P l m).choicesL,fun _ _ _=>rfl,fun m x k=> ?_, ?_⟩
      ·have e:(P l (m+1)).choicesL x k=if isW l k [Fl] then((P l m).choice (k+1)).then fun c k=>(P l m).choicesL (x++ [c]) k else .ok x k:=rfl
       show(P l (m+1)).choicesL x k=_;rw[e];by_cases hb:isW l k [Fl]=true
       ·rw[if_pos hb,if_pos ⟨c3,hb⟩]
       ·rw[if_neg hb,if_neg (fun h=>hb h.2)]
      ·rw[if_neg hnc,if_neg c3]
    obtain⟨AB,hAB⟩: ∃AB:DVal->Nat->Ab,∀v k,AB v k=upd (upd Hc r2 (some (.cells [v, .int .u8 0, .int .u8 0, .int .i64 0, .str [], .nilSlice, .nilSlice, .int .i64 0, .int .i64 0, .int .i64 0] 44))) r (some (rdO l k)):=⟨_,fun _ _=>rfl⟩;have hABr: ∀v k,AB v k r=some (rdO l k):=fun v k=>by rw[hAB];exact Aa _ _ _
    have hAB2: ∀v k,AB v k r2=some (.cells [v, .int .u8 0, .int .u8 0, .int .i64 0, .str [], .nilSlice, .nilSlice, .int .i64 0, .int .i64 0, .int .i64 0] 44):=fun v k=>by rw[hAB,Aj _ _ _ _ q2];exact Aa _ _ _
    have hAB3: ∀v k,AB v k r3=some (.cells (dCh c) 47):=fun v k=>by rw[hAB,Aj _ _ _ _ q3,Aj _ _ _ _ m23];exact gc3
    have hABk: ∀v k k',upd (AB v k) r (some (rdO l k'))=AB v k':=fun v k k'=>by rw[hAB,hAB,Gm]
    have hABv: ∀v v' k,upd (AB v k) r2 (some (.cells [v', .int .u8 0, .int .u8 0, .int .i64 0, .str [], .nilSlice, .nilSlice, .int .i64 0, .int .i64 0, .int .i64 0] 44))=AB v' k:=fun v v' k=>by rw[hAB,hAB,Qg q2,Gm]
    have hABa: ∀v k,RAt r l k H (AB v k):=fun v k=>by rw[hAB];exact(hac.own hr2 q2 _).set k
    simp(disch:=omega)only[go_sem,gc2,gc3,hlc];rw[show List.drop 2 (Bj 1 [DVal.int .u8 0,DVal.nilSlice])= [] from rfl];simp(disch:=omega)only[go_sem,hlc,hoc];intro r28 h28;dsimp only at h28;simp(disch:=omega)only[go_sem];intro r29 h29;dsimp only at h29;obtain⟨H6,hH6⟩: ∃K,K=upd (upd Hc r28 (some (.cells (dCh c) 47))) r29 (some (.cells (dCh c) 47)):=⟨_,rfl⟩;rw[<-hH6];have s28:Sub Hc (upd Hc r28 (some (.cells (dCh c) 47))):=(Sub.refl Hc).new h28 _;have hv6:Er Hc 47 2 1 (dCh c) (.oslice 2 r29 0 1 1) H6:= .inr ⟨r29,s28.lo h29,hlc,rfl,by rw[hH6];exact Aa _ _ _,by rw[hH6];exact s28.new h29 _⟩;obtain⟨v1,hv1⟩: ∃v1,v1=DVal.oslice 2 r29 0 1 1:=⟨_,rfl⟩;rw[<-hv1] at hv6⊢
    have g62:=hv6.keep gc2;obtain⟨k1a,k1b⟩:=hv6.cell1;simp(disch:=omega)only[go_sem,g62,k1a,k1b];have hv7:Cg (AB v1 k3) [c] v1 (upd H6 r2 (some (.cells [v1, .int .u8 0, .int .u8 0, .int .i64 0, .str [], .nilSlice, .nilSlice, .int .i64 0, .int .i64 0, .int .i64 0] 44))):=by
     have:=hv6.at gc2 (some (.cells [v1, .int .u8 0, .int .u8 0, .int .i64 0, .str [], .nilSlice, .nilSlice, .int .i64 0, .int .i64 0, .int .i64 0] 44));rw[show AB v1 k3=upd Hc r2 (some (.cells [v1, .int .u8 0, .int .u8 0, .int .i64 0, .str [], .nilSlice, .nilSlice, .int .i64 0, .int .i64 0, .int .i64 0] 44)) by rw[hAB];exact Co (Af hac.get n2)];unfold Cg;rw[List.flatMap_singleton];exact this
    obtain⟨I,hI⟩: ∃I:Nat×List Ch×Nat->(Nat->DVal)->Ab->Prop,∀s env heap,I s env heap↔(env 0= .optr r 0/\env 2= .optr r2 0/\env 3= .optr r3 0/\s.2.2<=l.length/\s.2.1.length<=s.2.2/\s.1<=n'/\L' (s.1+1) s.2.1 s.2.2=L' (n'+1) [c] k3/\ ∃v,Cg (AB v s.2.2) s.2.1 v heap):=⟨_,fun _ _ _=>Iff.rfl⟩;refine Bt4.run I (fun s=>s.1) (n',[c],k3) ((hI _ _ _).2 ?_) ?_
    ·simp(disch:=omega)only[go_sem];(repeat' apply And.intro)<;>(try first | rfl | assumption | omega);exact⟨v1,hv7⟩
    ·rintro⟨m,xs,k1⟩ env heap hi';obtain⟨e0,e2,e3,hk1,hlen,hm,hLm,v,hv⟩:=(hI _ _ _).1 hi';dsimp only at hk1 hlen hm hLm hv;rw[hL] at hLm;have gr:heap r=some (rdO l k1):=Er.keep hv (hABr _ _);have g2:=Er.keep hv (hAB2 _ _);have g3:=Er.keep hv (hAB3 _ _);by_cases c3:c.kind=3
     ·rw[if_neg (fun h=>h.1 c3)] at hLm;simp(disch:=omega)only[go_sem,e0,e2,e3,g3,gk,c3];refine(Gk hG heap Bd gr (by omega) (by omega)).mono ?_;intro e1 H8 hq;rw[<-hLm,Da] at hres2;unfold Cx at hq hres2;by_cases b5:isW l k1 [Bd]=true
      ·rw[if_pos b5] at hq hres2;obtain⟨rfl,hH8⟩:=hq;dsimp only at hres2;have hk5:=Ap b5 hk1;rw[jQ] at hk5;have hv8:Cg (AB v (k1+1)) xs v H8:=by rw[hH8,<-hABk v k1];exact Er.at hv (hABr _ _) _
       simp(disch:=omega)only[go_sem,e0,e2,e3];have hpk:=hpa _ (k1+1) (Er.keep hv8 (hABr _ _)) hk5;dsimp only at hpk;cases hpe:(P l (n'+1)).expr (k1+1) with
       | bot=>rw[hpe,Dx] at hres2;rw[hres2] at hn;exact absurd rfl hn
       | fail k6=>
        rw[hpe] at hpk;rw[hpe,Dj] at hres2;refine(hpk (Az (by simp))).mono ?_;rintro e H9 ⟨rfl,hH9⟩;have hv9:Cg (AB v k6) xs v H9:=by rw[hH9,<-hABk v (k1+1)];exact Er.at hv8 (hABr _ _) _
        simp(disch:=omega)only[go_sem];rw[hres2];exact RAt.finP ((hABa v k6).more (Er.sub hv9)) ⟨rfl,rfl⟩
       | ok y k6=>
        rw[hpe] at hpk;rw[hpe,Da] at hres2;refine(hpk (Az (by simp))).mono ?_;rintro e H9 ⟨rfl,hH9⟩;have hv9:Cg (AB v k6) xs v H9:=by rw[hH9,<-hABk v (k1+1)];exact Er.at hv8 (hABr _ _) _
        have g92:=Er.keep hv9 (hAB2 v k6);obtain⟨j1,j2⟩:=Er.cell1 hv9;have hly:=Ai y;have hoy:=Bh y;simp(disch:=omega)only[go_sem,e0,e2,e3,dE,g92,hly,hoy,j1,j2];rw[hres2];have hvf:=fun z=>Er.less (Er.at hv9 (hAB2 v k6) z) ((hABa v k6).own hr2 q2 z);refine Fc.fin (Er.sub (hvf _)) (Fc.agg (Fc.assoc (c:=xs) (Er.sub (hvf _)) (Fc.own (hvf _)))) ⟨rfl,rfl⟩
      ·rw[if_neg b5] at hq hres2;obtain⟨rfl,hH8⟩:=hq;have hv8:Cg (AB v k1) xs v H8:=by rw[hH8,<-hABk v k1];exact Er.at hv (hABr _ _) _
       simp(disch:=omega)only[go_sem];rw[hres2];exact RAt.finP ((hABa v k1).more (Er.sub hv8)) ⟨rfl,rfl⟩
     ·simp(disch:=omega)only[go_sem,e0,e2,e3,g3,gk,c3];intro w1 hw1;dsimp only at hw1;simp(disch:=omega)only[go_sem,e0,e2,e3,g3,gk,c3];refine(Sw hG _ w1 Fl hw1 gr (by omega) (by omega)).mono ?_;rintro _ H4 ⟨rfl,hH4⟩;by_cases b:isW l k1 [Fl]=true
      ·rw[if_pos ⟨c3,b⟩] at hLm;rw[if_pos b] at hH4;have hk4:=Ap b hk1;rw[jQ] at hk4;have hv4:Cg (AB v (k1+1)) xs v H4:=by rw[hH4,<-hABk v k1];exact Er.at hv (hABr _ _) _
       have g42:=Er.keep hv4 (hAB2 _ _);simp(disch:=omega)only[go_sem,e0,e2,e3,b];refine Am (by kernel_rfl) pL5 (by kernel_rfl) ?_;simp(disch:=omega)only[go_sem,e0,e2,e3,g42];have hp2:=hc m (by omega) _ (k1+1) (Er.keep hv4 (hABr _ _)) hk4;have had2:=(Fw (l:=l) m).choice (k1+1) hk4;dsimp only at hp2;cases hpr2:(P l m).choice (k1+1) with
       | bot=>
        rw[hpr2,Dx] at hLm;rw[<-hLm,Dx] at hres2;rw[hres2] at hn;exact absurd rfl hn
       | fail k5=>
        rw[hpr2] at hp2;rw[hpr2,Dj] at hLm;rw[<-hLm,Dj] at hres2;refine(hp2 (Az (by simp))).mono ?_;rintro e H5 ⟨rfl,hH5⟩;have hv5:Cg (AB v k5) xs v H5:=by rw[hH5,<-hABk v (k1+1)];exact Er.at hv4 (hABr _ _) _
        simp(disch:=omega)only[go_sem];rw[hres2];exact RAt.finP ((hABa v k5).more (Er.sub hv5)) ⟨rfl,rfl⟩
       | ok a k5=>
        rw[hpr2] at hp2 had2;rw[hpr2,Da] at hLm;dsimp only[Adv] at had2;refine(hp2 (Az (by simp))).mono ?_;rintro e H5 ⟨rfl,hH5⟩;have hv5:Cg (AB v k5) xs v H5:=by rw[hH5,<-hABk v (k1+1)];exact Er.at hv4 (hABr _ _) _
        have g52:=Er.keep hv5 (hAB2 _ _);have hla2:=Ea a;simp(disch:=omega)only[go_sem,e0,e2,e3,g42,g52,dC];rw[Ae5 hla2];simp(disch:=omega)only[go_sem,e0,e2,e3,g42,g52];intro r8 hr8;dsimp only at hr8;have n8:r2≠r8:=Ad hr8 g52;simp(disch:=omega)only[go_sem,e0,e2,e3,g52,n8];refine Er.append (m:=1) (Er.new hv5 hr8 _) (by rw[hla2]) (by omega) fun v2 H6 hv2=> ?_;have g62:=Er.keep hv2 (hAB2 _ _);obtain⟨j1,j2⟩:=Er.cell1 hv2;simp(disch:=omega)only[go_sem,e0,e2,e3,g62,j1,j2];obtain⟨m',rfl⟩: ∃m',m=m'+1:=by
         cases m with
         | zero=>rw[hL0 c3] at hLm;rw[<-hLm,Dx] at hres2;rw[hres2] at hn;exact absurd rfl hn
         | succ m'=>exact⟨m',rfl⟩
        have hlen2:(xs++ [a]).length<=k5:=by rw[jC,jQ];omega
        have hv3:Cg (AB v2 k5) (xs++ [a]) v2 (upd H6 r2 (some (.cells [v2, .int .u8 0, .int .u8 0, .int .i64 0, .str [], .nilSlice, .nilSlice, .int .i64 0, .int .i64 0, .int .i64 0] 44))):=by
         have:=Er.at hv2 (hAB2 _ _) (some (.cells [v2, .int .u8 0, .int .u8 0, .int .i64 0, .str [], .nilSlice, .nilSlice, .int .i64 0, .int .i64 0, .int .i64 0] 44));rw[hABv] at this;unfold Cg;rw[jC,jQ,List.flatMap_append,List.flatMap_singleton];exact this
        refine⟨(m',xs++ [a],k5),_,Lq.refl _,(hI _ _ _).2 ?_,by dsimp only;omega⟩;simp(disch:=omega)only[go_sem,e0,e2,e3];(repeat' apply And.intro)<;>(try first | rfl | assumption | omega);exact⟨v2,hv3⟩
      ·have b':isW l k1 [Fl]=false:=by simpa using b
       rw[if_neg (fun h=>b h.2)] at hLm;rw[if_neg b,Co gr] at hH4;rw[hH4];simp(disch:=omega)only[go_sem,e0,e2,e3,b'];refine(Gk hG heap Bd gr (by omega) (by omega)).mono ?_;intro e1 H8 hq;rw[<-hLm,Da] at hres2;unfold Cx at hq hres2;by_cases b5:isW l k1 [Bd]=true
       ·rw[if_pos b5] at hq hres2;obtain⟨rfl,hH8⟩:=hq;dsimp only at hres2;have hk5:=Ap b5 hk1;rw[jQ] at hk5;have hv8:Cg (AB v (k1+1)) xs v H8:=by rw[hH8,<-hABk v k1];exact Er.at hv (hABr _ _) _
        simp(disch:=omega)only[go_sem,e0,e2,e3];have hpk:=hpa _ (k1+1) (Er.keep hv8 (hABr _ _)) hk5;dsimp only at hpk;cases hpe:(P l (n'+1)).expr (k1+1) with
        | bot=>rw[hpe,Dx] at hres2;rw[hres2] at hn;exact absurd rfl hn
        | fail k6=>
         rw[hpe] at hpk;rw[hpe,Dj] at hres2;refine(hpk (Az (by simp))).mono ?_;rintro e H9 ⟨rfl,hH9⟩;have hv9:Cg (AB v k6) xs v H9:=by rw[hH9,<-hABk v (k1+1)];exact Er.at hv8 (hABr _ _) _
         simp(disch:=omega)only[go_sem];rw[hres2];exact RAt.finP ((hABa v k6).more (Er.sub hv9)) ⟨rfl,rfl⟩
        | ok y k6=>
         rw[hpe] at hpk;rw[hpe,Da] at hres2;refine(hpk (Az (by simp))).mono ?_;rintro e H9 ⟨rfl,hH9⟩;have hv9:Cg (AB v k6) xs v H9:=by rw[hH9,<-hABk v (k1+1)];exact Er.at hv8 (hABr _ _) _
         have g92:=Er.keep hv9 (hAB2 v k6);obtain⟨j1,j2⟩:=Er.cell1 hv9;have hly:=Ai y;have hoy:=Bh y;simp(disch:=omega)only[go_sem,e0,e2,e3,dE,g92,hly,hoy,j1,j2];rw[hres2];have hvf:=fun z=>Er.less (Er.at hv9 (hAB2 v k6) z) ((hABa v k6).own hr2 q2 z);refine Fc.fin (Er.sub (hvf _)) (Fc.agg (Fc.assoc (c:=xs) (Er.sub (hvf _)) (Fc.own (hvf _)))) ⟨rfl,rfl⟩
       ·rw[if_neg b5] at hq hres2;obtain⟨rfl,hH8⟩:=hq;have hv8:Cg (AB v k1) xs v H8:=by rw[hH8,<-hABk v k1];exact Er.at hv (hABr _ _) _
        simp(disch:=omega)only[go_sem];rw[hres2];exact RAt.finP ((hABa v k1).more (Er.sub hv8)) ⟨rfl,rfl⟩
   ·have b1':isW l k3 [Fl]=false:=by simpa using b1
    simp(disch:=omega)only[go_sem,b1'];intro w2 hw2;dsimp only at hw2;simp(disch:=omega)only[go_sem];refine(is1 hG _ w2 Bd hw2 hac.get (by omega) (by omega)).mono ?_;rintro _ H6 ⟨rfl,hH6⟩;rw[hH6];by_cases b2:isW l k3 [Bd]=true
    ·simp(disch:=omega)only[go_sem,b2];have hnc: ¬(c.kind=1/\isW l k3 [Fl]=false/\isW l k3 [Bd]=false):=fun h=>by rw[b2] at h;exact absurd h.2.2 (by decide)
     have hsh:=Kz hpr;obtain⟨n',rfl⟩: ∃n',n=n'+1:=by
      cases n with
      | zero=>cases hpr
      | succ n'=>exact⟨n',rfl⟩
     obtain⟨L',hL0,hL,hres2⟩: ∃L':Nat->List Ch->Nat->Res (List Ch),(c.kind≠3-> ∀x k,L' 0 x k= .bot)/\(∀m x k,L' (m+1) x k=if c.kind≠3/\isW l k [Fl]=true then((P l m).choice (k+1)).then fun a k=>L' m (x++ [a]) k else .ok x k)/\res=(L' (n'+1) [c] k3).then fun cs k=>Cx l Bd k fun k=>((P l (n'+1)).expr k).then fun e k=> .ok (.mk cs e) k:=by
      rw[hres];by_cases c3:c.kind=3
      ·refine⟨fun _ x k=> .ok x k,fun h=>absurd c3 h,fun m x k=>by rw[if_neg (fun h=>h.1 c3)], ?_⟩;rw[if_neg (fun h=>by rw[c3] at h;exact absurd h.1 (by decide)),if_pos c3];rfl
      ·refine⟨fun m=>(P l m).choicesL,fun _ _ _=>rfl,fun m x k=> ?_, ?_⟩
       ·have e:(P l (m+1)).choicesL x k=if isW l k [Fl] then((P l m).choice (k+1)).then fun c k=>(P l m).choicesL (x++ [c]) k else .ok x k:=rfl
        show(P l (m+1)).choicesL x k=_;rw[e];by_cases hb:isW l k [Fl]=true
        ·rw[if_pos hb,if_pos ⟨c3,hb⟩]
        ·rw[if_neg hb,if_neg (fun h=>hb h.2)]
       ·rw[if_neg hnc,if_neg c3]
     obtain⟨AB,hAB⟩: ∃AB:DVal->Nat->Ab,∀v k,AB v k=upd (upd Hc r2 (some (.cells [v, .int .u8 0, .int .u8 0, .int .i64 0, .str [], .nilSlice, .nilSlice, .int .i64 0, .int .i64 0, .int .i64 0] 44))) r (some (rdO l k)):=⟨_,fun _ _=>rfl⟩;have hABr: ∀v k,AB v k r=some (rdO l k):=fun v k=>by rw[hAB];exact Aa _ _ _
     have hAB2: ∀v k,AB v k r2=some (.cells [v, .int .u8 0, .int .u8 0, .int .i64 0, .str [], .nilSlice, .nilSlice, .int .i64 0, .int .i64 0, .int .i64 0] 44):=fun v k=>by rw[hAB,Aj _ _ _ _ q2];exact Aa _ _ _
     have hAB3: ∀v k,AB v k r3=some (.cells (dCh c) 47):=fun v k=>by rw[hAB,Aj _ _ _ _ q3,Aj _ _ _ _ m23];exact gc3
     have hABk: ∀v k k',upd (AB v k) r (some (rdO l k'))=AB v k':=fun v k k'=>by rw[hAB,hAB,Gm]
     have hABv: ∀v v' k,upd (AB v k) r2 (some (.cells [v', .int .u8 0, .int .u8 0, .int .i64 0, .str [], .nilSlice, .nilSlice, .int .i64 0, .int .i64 0, .int .i64 0] 44))=AB v' k:=fun v v' k=>by rw[hAB,hAB,Qg q2,Gm]
     have hABa: ∀v k,RAt r l k H (AB v k):=fun v k=>by rw[hAB];exact(hac.own hr2 q2 _).set k
     simp(disch:=omega)only[go_sem,gc2,gc3,hlc];rw[show List.drop 2 (Bj 1 [DVal.int .u8 0,DVal.nilSlice])= [] from rfl];simp(disch:=omega)only[go_sem,hlc,hoc];intro r28 h28;dsimp only at h28;simp(disch:=omega)only[go_sem];intro r29 h29;dsimp only at h29;obtain⟨H6,hH6⟩: ∃K,K=upd (upd Hc r28 (some (.cells (dCh c) 47))) r29 (some (.cells (dCh c) 47)):=⟨_,rfl⟩;rw[<-hH6];have s28:Sub Hc (upd Hc r28 (some (.cells (dCh c) 47))):=(Sub.refl Hc).new h28 _;have hv6:Er Hc 47 2 1 (dCh c) (.oslice 2 r29 0 1 1) H6:= .inr ⟨r29,s28.lo h29,hlc,rfl,by rw[hH6];exact Aa _ _ _,by rw[hH6];exact s28.new h29 _⟩;obtain⟨v1,hv1⟩: ∃v1,v1=DVal.oslice 2 r29 0 1 1:=⟨_,rfl⟩;rw[<-hv1] at hv6⊢
     have g62:=hv6.keep gc2;obtain⟨k1a,k1b⟩:=hv6.cell1;simp(disch:=omega)only[go_sem,g62,k1a,k1b];have hv7:Cg (AB v1 k3) [c] v1 (upd H6 r2 (some (.cells [v1, .int .u8 0, .int .u8 0, .int .i64 0, .str [], .nilSlice, .nilSlice, .int .i64 0, .int .i64 0, .int .i64 0] 44))):=by
      have:=hv6.at gc2 (some (.cells [v1, .int .u8 0, .int .u8 0, .int .i64 0, .str [], .nilSlice, .nilSlice, .int .i64 0, .int .i64 0, .int .i64 0] 44));rw[show AB v1 k3=upd Hc r2 (some (.cells [v1, .int .u8 0, .int .u8 0, .int .i64 0, .str [], .nilSlice, .nilSlice, .int .i64 0, .int .i64 0, .int .i64 0] 44)) by rw[hAB];exact Co (Af hac.get n2)];unfold Cg;rw[List.flatMap_singleton];exact this
     obtain⟨I,hI⟩: ∃I:Nat×List Ch×Nat->(Nat->DVal)->Ab->Prop,∀s env heap,I s env heap↔(env 0= .optr r 0/\env 2= .optr r2 0/\env 3= .optr r3 0/\s.2.2<=l.length/\s.2.1.length<=s.2.2/\s.1<=n'/\L' (s.1+1) s.2.1 s.2.2=L' (n'+1) [c] k3/\ ∃v,Cg (AB v s.2.2) s.2.1 v heap):=⟨_,fun _ _ _=>Iff.rfl⟩;refine Bt4.run I (fun s=>s.1) (n',[c],k3) ((hI _ _ _).2 ?_) ?_
     ·simp(disch:=omega)only[go_sem];(repeat' apply And.intro)<;>(try first | rfl | assumption | omega);exact⟨v1,hv7⟩
     ·rintro⟨m,xs,k1⟩ env heap hi';obtain⟨e0,e2,e3,hk1,hlen,hm,hLm,v,hv⟩:=(hI _ _ _).1 hi';dsimp only at hk1 hlen hm hLm hv;rw[hL] at hLm;have gr:heap r=some (rdO l k1):=Er.keep hv (hABr _ _);have g2:=Er.keep hv (hAB2 _ _);have g3:=Er.keep hv (hAB3 _ _);by_cases c3:c.kind=3
      ·rw[if_neg (fun h=>h.1 c3)] at hLm;simp(disch:=omega)only[go_sem,e0,e2,e3,g3,gk,c3];refine(Gk hG heap Bd gr (by omega) (by omega)).mono ?_;intro e1 H8 hq;rw[<-hLm,Da] at hres2;unfold Cx at hq hres2;by_cases b5:isW l k1 [Bd]=true
       ·rw[if_pos b5] at hq hres2;obtain⟨rfl,hH8⟩:=hq;dsimp only at hres2;have hk5:=Ap b5 hk1;rw[jQ] at hk5;have hv8:Cg (AB v (k1+1)) xs v H8:=by rw[hH8,<-hABk v k1];exact Er.at hv (hABr _ _) _
        simp(disch:=omega)only[go_sem,e0,e2,e3];have hpk:=hpa _ (k1+1) (Er.keep hv8 (hABr _ _)) hk5;dsimp only at hpk;cases hpe:(P l (n'+1)).expr (k1+1) with
        | bot=>rw[hpe,Dx] at hres2;rw[hres2] at hn;exact absurd rfl hn
        | fail k6=>
         rw[hpe] at hpk;rw[hpe,Dj] at hres2;refine(hpk (Az (by simp))).mono ?_;rintro e H9 ⟨rfl,hH9⟩;have hv9:Cg (AB v k6) xs v H9:=by rw[hH9,<-hABk v (k1+1)];exact Er.at hv8 (hABr _ _) _
         simp(disch:=omega)only[go_sem];rw[hres2];exact RAt.finP ((hABa v k6).more (Er.sub hv9)) ⟨rfl,rfl⟩
        | ok y k6=>
         rw[hpe] at hpk;rw[hpe,Da] at hres2;refine(hpk (Az (by simp))).mono ?_;rintro e H9 ⟨rfl,hH9⟩;have hv9:Cg (AB v k6) xs v H9:=by rw[hH9,<-hABk v (k1+1)];exact Er.at hv8 (hABr _ _) _
         have g92:=Er.keep hv9 (hAB2 v k6);obtain⟨j1,j2⟩:=Er.cell1 hv9;have hly:=Ai y;have hoy:=Bh y;simp(disch:=omega)only[go_sem,e0,e2,e3,dE,g92,hly,hoy,j1,j2];rw[hres2];have hvf:=fun z=>Er.less (Er.at hv9 (hAB2 v k6) z) ((hABa v k6).own hr2 q2 z);refine Fc.fin (Er.sub (hvf _)) (Fc.agg (Fc.assoc (c:=xs) (Er.sub (hvf _)) (Fc.own (hvf _)))) ⟨rfl,rfl⟩
       ·rw[if_neg b5] at hq hres2;obtain⟨rfl,hH8⟩:=hq;have hv8:Cg (AB v k1) xs v H8:=by rw[hH8,<-hABk v k1];exact Er.at hv (hABr _ _) _
        simp(disch:=omega)only[go_sem];rw[hres2];exact RAt.finP ((hABa v k1).more (Er.sub hv8)) ⟨rfl,rfl⟩
      ·simp(disch:=omega)only[go_sem,e0,e2,e3,g3,gk,c3];intro w1 hw1;dsimp only at hw1;simp(disch:=omega)only[go_sem,e0,e2,e3,g3,gk,c3];refine(Sw hG _ w1 Fl hw1 gr (by omega) (by omega)).mono ?_;rintro _ H4 ⟨rfl,hH4⟩;by_cases b:isW l k1 [Fl]=true
       ·rw[if_pos ⟨c3,b⟩] at hLm;rw[if_pos b] at hH4;have hk4:=Ap b hk1;rw[jQ] at hk4;have hv4:Cg (AB v (k1+1)) xs v H4:=by rw[hH4,<-hABk v k1];exact Er.at hv (hABr _ _) _
        have g42:=Er.keep hv4 (hAB2 _ _);simp(disch:=omega)only[go_sem,e0,e2,e3,b];refine Am (by kernel_rfl) pL5 (by kernel_rfl) ?_;simp(disch:=omega)only[go_sem,e0,e2,e3,g42];have hp2:=hc m (by omega) _ (k1+1) (Er.keep hv4 (hABr _ _)) hk4;have had2:=(Fw (l:=l) m).choice (k1+1) hk4;dsimp only at hp2;cases hpr2:(P l m).choice (k1+1) with
        | bot=>
         rw[hpr2,Dx] at hLm;rw[<-hLm,Dx] at hres2;rw[hres2] at hn;exact absurd rfl hn
        | fail k5=>
         rw[hpr2] at hp2;rw[hpr2,Dj] at hLm;rw[<-hLm,Dj] at hres2;refine(hp2 (Az (by simp))).mono ?_;rintro e H5 ⟨rfl,hH5⟩;have hv5:Cg (AB v k5) xs v H5:=by rw[hH5,<-hABk v (k1+1)];exact Er.at hv4 (hABr _ _) _
         simp(disch:=omega)only[go_sem];rw[hres2];exact RAt.finP ((hABa v k5).more (Er.sub hv5)) ⟨rfl,rfl⟩
        | ok a k5=>
         rw[hpr2] at hp2 had2;rw[hpr2,Da] at hLm;dsimp only[Adv] at had2;refine(hp2 (Az (by simp))).mono ?_;rintro e H5 ⟨rfl,hH5⟩;have hv5:Cg (AB v k5) xs v H5:=by rw[hH5,<-hABk v (k1+1)];exact Er.at hv4 (hABr _ _) _
         have g52:=Er.keep hv5 (hAB2 _ _);have hla2:=Ea a;simp(disch:=omega)only[go_sem,e0,e2,e3,g42,g52,dC];rw[Ae5 hla2];simp(disch:=omega)only[go_sem,e0,e2,e3,g42,g52];intro r8 hr8;dsimp only at hr8;have n8:r2≠r8:=Ad hr8 g52;simp(disch:=omega)only[go_sem,e0,e2,e3,g52,n8];refine Er.append (m:=1) (Er.new hv5 hr8 _) (by rw[hla2]) (by omega) fun v2 H6 hv2=> ?_;have g62:=Er.keep hv2 (hAB2 _ _);obtain⟨j1,j2⟩:=Er.cell1 hv2;simp(disch:=omega)only[go_sem,e0,e2,e3,g62,j1,j2];obtain⟨m',rfl⟩: ∃m',m=m'+1:=by
          cases m with
          | zero=>rw[hL0 c3] at hLm;rw[<-hLm,Dx] at hres2;rw[hres2] at hn;exact absurd rfl hn
          | succ m'=>exact⟨m',rfl⟩
         have hlen2:(xs++ [a]).length<=k5:=by rw[jC,jQ];omega
         have hv3:Cg (AB v2 k5) (xs++ [a]) v2 (upd H6 r2 (some (.cells [v2, .int .u8 0, .int .u8 0, .int .i64 0, .str [], .nilSlice, .nilSlice, .int .i64 0, .int .i64 0, .int .i64 0] 44))):=by
          have:=Er.at hv2 (hAB2 _ _) (some (.cells [v2, .int .u8 0, .int .u8 0, .int .i64 0, .str [], .nilSlice, .nilSlice, .int .i64 0, .int .i64 0, .int .i64 0] 44));rw[hABv] at this;unfold Cg;rw[jC,jQ,List.flatMap_append,List.flatMap_singleton];exact this
         refine⟨(m',xs++ [a],k5),_,Lq.refl _,(hI _ _ _).2 ?_,by dsimp only;omega⟩;simp(disch:=omega)only[go_sem,e0,e2,e3];(repeat' apply And.intro)<;>(try first | rfl | assumption | omega);exact⟨v2,hv3⟩
       ·have b':isW l k1 [Fl]=false:=by simpa using b
        rw[if_neg (fun h=>b h.2)] at hLm;rw[if_neg b,Co gr] at hH4;rw[hH4];simp(disch:=omega)only[go_sem,e0,e2,e3,b'];refine(Gk hG heap Bd gr (by omega) (by omega)).mono ?_;intro e1 H8 hq;rw[<-hLm,Da] at hres2;unfold Cx at hq hres2;by_cases b5:isW l k1 [Bd]=true
        ·rw[if_pos b5] at hq hres2;obtain⟨rfl,hH8⟩:=hq;dsimp only at hres2;have hk5:=Ap b5 hk1;rw[jQ] at hk5;have hv8:Cg (AB v (k1+1)) xs v H8:=by rw[hH8,<-hABk v k1];exact Er.at hv (hABr _ _) _
         simp(disch:=omega)only[go_sem,e0,e2,e3];have hpk:=hpa _ (k1+1) (Er.keep hv8 (hABr _ _)) hk5;dsimp only at hpk;cases hpe:(P l (n'+1)).expr (k1+1) with
         | bot=>rw[hpe,Dx] at hres2;rw[hres2] at hn;exact absurd rfl hn
         | fail k6=>
          rw[hpe] at hpk;rw[hpe,Dj] at hres2;refine(hpk (Az (by simp))).mono ?_;rintro e H9 ⟨rfl,hH9⟩;have hv9:Cg (AB v k6) xs v H9:=by rw[hH9,<-hABk v (k1+1)];exact Er.at hv8 (hABr _ _) _
          simp(disch:=omega)only[go_sem];rw[hres2];exact RAt.finP ((hABa v k6).more (Er.sub hv9)) ⟨rfl,rfl⟩
         | ok y k6=>
          rw[hpe] at hpk;rw[hpe,Da] at hres2;refine(hpk (Az (by simp))).mono ?_;rintro e H9 ⟨rfl,hH9⟩;have hv9:Cg (AB v k6) xs v H9:=by rw[hH9,<-hABk v (k1+1)];exact Er.at hv8 (hABr _ _) _
          have g92:=Er.keep hv9 (hAB2 v k6);obtain⟨j1,j2⟩:=Er.cell1 hv9;have hly:=Ai y;have hoy:=Bh y;simp(disch:=omega)only[go_sem,e0,e2,e3,dE,g92,hly,hoy,j1,j2];rw[hres2];have hvf:=fun z=>Er.less (Er.at hv9 (hAB2 v k6) z) ((hABa v k6).own hr2 q2 z);refine Fc.fin (Er.sub (hvf _)) (Fc.agg (Fc.assoc (c:=xs) (Er.sub (hvf _)) (Fc.own (hvf _)))) ⟨rfl,rfl⟩
        ·rw[if_neg b5] at hq hres2;obtain⟨rfl,hH8⟩:=hq;have hv8:Cg (AB v k1) xs v H8:=by rw[hH8,<-hABk v k1];exact Er.at hv (hABr _ _) _
         simp(disch:=omega)only[go_sem];rw[hres2];exact RAt.finP ((hABa v k1).more (Er.sub hv8)) ⟨rfl,rfl⟩
    ·have b2':isW l k3 [Bd]=false:=by simpa using b2
     rw[if_pos ⟨c1,b1',b2'⟩] at hres;obtain⟨x,hx⟩: ∃x,c.l= [x]:=by
      rcases Kz hpr with h | h | h
      ·rw[h.1] at c1;cases c1
      ·rw[h.1] at c1;cases c1
      ·exact h.2
     have gl:(dCh c)[1]? =some (.vslice (dEx x) 1):=by rw[Cs8,hx,List.flatMap_singleton];rfl
     rw[hx] at hres;have hlx:=Ai x;have hox:=Bh x;have htx:List.take 9 (List.drop 0 (dEx x))=dEx x:=List.take_of_length_le (by rw[jJ];omega);simp(disch:=omega)only[go_sem,b2',gc3,gl,hlx,htx,jJ,gc2,hox];rw[hres];have hat:=fun z=>hac.own hr2 q2 z;exact Fc.fin (hat _) (Fc.agg (Fc.assoc (c:= []) (hat _) (.ch0 (hat _)))) ⟨rfl,rfl⟩
  ·simp(disch:=omega)only[go_sem,gc3,gk,c1];have hnc: ¬(c.kind=1/\isW l k3 [Fl]=false/\isW l k3 [Bd]=false):=fun h=>c1 h.1;have hsh:=Kz hpr;obtain⟨n',rfl⟩: ∃n',n=n'+1:=by
    cases n with
    | zero=>cases hpr
    | succ n'=>exact⟨n',rfl⟩
   obtain⟨L',hL0,hL,hres2⟩: ∃L':Nat->List Ch->Nat->Res (List Ch),(c.kind≠3-> ∀x k,L' 0 x k= .bot)/\(∀m x k,L' (m+1) x k=if c.kind≠3/\isW l k [Fl]=true then((P l m).choice (k+1)).then fun a k=>L' m (x++ [a]) k else .ok x k)/\res=(L' (n'+1) [c] k3).then fun cs k=>Cx l Bd k fun k=>((P l (n'+1)).expr k).then fun e k=> .ok (.mk cs e) k:=by
    rw[hres];by_cases c3:c.kind=3
    ·refine⟨fun _ x k=> .ok x k,fun h=>absurd c3 h,fun m x k=>by rw[if_neg (fun h=>h.1 c3)], ?_⟩;rw[if_neg (fun h=>by rw[c3] at h;exact absurd h.1 (by decide)),if_pos c3];rfl
    ·refine⟨fun m=>(P l m).choicesL,fun _ _ _=>rfl,fun m x k=> ?_, ?_⟩
     ·have e:(P l (m+1)).choicesL x k=if isW l k [Fl] then((P l m).choice (k+1)).then fun c k=>(P l m).choicesL (x++ [c]) k else .ok x k:=rfl
      show(P l (m+1)).choicesL x k=_;rw[e];by_cases hb:isW l k [Fl]=true
      ·rw[if_pos hb,if_pos ⟨c3,hb⟩]
      ·rw[if_neg hb,if_neg (fun h=>hb h.2)]
     ·rw[if_neg hnc,if_neg c3]
   obtain⟨AB,hAB⟩: ∃AB:DVal->Nat->Ab,∀v k,AB v k=upd (upd Hc r2 (some (.cells [v, .int .u8 0, .int .u8 0, .int .i64 0, .str [], .nilSlice, .nilSlice, .int .i64 0, .int .i64 0, .int .i64 0] 44))) r (some (rdO l k)):=⟨_,fun _ _=>rfl⟩;have hABr: ∀v k,AB v k r=some (rdO l k):=fun v k=>by rw[hAB];exact Aa _ _ _
   have hAB2: ∀v k,AB v k r2=some (.cells [v, .int .u8 0, .int .u8 0, .int .i64 0, .str [], .nilSlice, .nilSlice, .int .i64 0, .int .i64 0, .int .i64 0] 44):=fun v k=>by rw[hAB,Aj _ _ _ _ q2];exact Aa _ _ _
   have hAB3: ∀v k,AB v k r3=some (.cells (dCh c) 47):=fun v k=>by rw[hAB,Aj _ _ _ _ q3,Aj _ _ _ _ m23];exact gc3
   have hABk: ∀v k k',upd (AB v k) r (some (rdO l k'))=AB v k':=fun v k k'=>by rw[hAB,hAB,Gm]
   have hABv: ∀v v' k,upd (AB v k) r2 (some (.cells [v', .int .u8 0, .int .u8 0, .int .i64 0, .str [], .nilSlice, .nilSlice, .int .i64 0, .int .i64 0, .int .i64 0] 44))=AB v' k:=fun v v' k=>by rw[hAB,hAB,Qg q2,Gm]
   have hABa: ∀v k,RAt r l k H (AB v k):=fun v k=>by rw[hAB];exact(hac.own hr2 q2 _).set k
   simp(disch:=omega)only[go_sem,gc2,gc3,hlc];rw[show List.drop 2 (Bj 1 [DVal.int .u8 0,DVal.nilSlice])= [] from rfl];simp(disch:=omega)only[go_sem,hlc,hoc];intro r28 h28;dsimp only at h28;simp(disch:=omega)only[go_sem];intro r29 h29;dsimp only at h29;obtain⟨H6,hH6⟩: ∃K,K=upd (upd Hc r28 (some (.cells (dCh c) 47))) r29 (some (.cells (dCh c) 47)):=⟨_,rfl⟩;rw[<-hH6];have s28:Sub Hc (upd Hc r28 (some (.cells (dCh c) 47))):=(Sub.refl Hc).new h28 _;have hv6:Er Hc 47 2 1 (dCh c) (.oslice 2 r29 0 1 1) H6:= .inr ⟨r29,s28.lo h29,hlc,rfl,by rw[hH6];exact Aa _ _ _,by rw[hH6];exact s28.new h29 _⟩;obtain⟨v1,hv1⟩: ∃v1,v1=DVal.oslice 2 r29 0 1 1:=⟨_,rfl⟩;rw[<-hv1] at hv6⊢
   have g62:=hv6.keep gc2;obtain⟨k1a,k1b⟩:=hv6.cell1;simp(disch:=omega)only[go_sem,g62,k1a,k1b];have hv7:Cg (AB v1 k3) [c] v1 (upd H6 r2 (some (.cells [v1, .int .u8 0, .int .u8 0, .int .i64 0, .str [], .nilSlice, .nilSlice, .int .i64 0, .int .i64 0, .int .i64 0] 44))):=by
    have:=hv6.at gc2 (some (.cells [v1, .int .u8 0, .int .u8 0, .int .i64 0, .str [], .nilSlice, .nilSlice, .int .i64 0, .int .i64 0, .int .i64 0] 44));rw[show AB v1 k3=upd Hc r2 (some (.cells [v1, .int .u8 0, .int .u8 0, .int .i64 0, .str [], .nilSlice, .nilSlice, .int .i64 0, .int .i64 0, .int .i64 0] 44)) by rw[hAB];exact Co (Af hac.get n2)];unfold Cg;rw[List.flatMap_singleton];exact this
   obtain⟨I,hI⟩: ∃I:Nat×List Ch×Nat->(Nat->DVal)->Ab->Prop,∀s env heap,I s env heap↔(env 0= .optr r 0/\env 2= .optr r2 0/\env 3= .optr r3 0/\s.2.2<=l.length/\s.2.1.length<=s.2.2/\s.1<=n'/\L' (s.1+1) s.2.1 s.2.2=L' (n'+1) [c] k3/\ ∃v,Cg (AB v s.2.2) s.2.1 v heap):=⟨_,fun _ _ _=>Iff.rfl⟩;refine Bt4.run I (fun s=>s.1) (n',[c],k3) ((hI _ _ _).2 ?_) ?_
   ·simp(disch:=omega)only[go_sem];(repeat' apply And.intro)<;>(try first | rfl | assumption | omega);exact⟨v1,hv7⟩
   ·rintro⟨m,xs,k1⟩ env heap hi';obtain⟨e0,e2,e3,hk1,hlen,hm,hLm,v,hv⟩:=(hI _ _ _).1 hi';dsimp only at hk1 hlen hm hLm hv;rw[hL] at hLm;have gr:heap r=some (rdO l k1):=Er.keep hv (hABr _ _);have g2:=Er.keep hv (hAB2 _ _);have g3:=Er.keep hv (hAB3 _ _);by_cases c3:c.kind=3
    ·rw[if_neg (fun h=>h.1 c3)] at hLm;simp(disch:=omega)only[go_sem,e0,e2,e3,g3,gk,c3];refine(Gk hG heap Bd gr (by omega) (by omega)).mono ?_;intro e1 H8 hq;rw[<-hLm,Da] at hres2;unfold Cx at hq hres2;by_cases b5:isW l k1 [Bd]=true
     ·rw[if_pos b5] at hq hres2;obtain⟨rfl,hH8⟩:=hq;dsimp only at hres2;have hk5:=Ap b5 hk1;rw[jQ] at hk5;have hv8:Cg (AB v (k1+1)) xs v H8:=by rw[hH8,<-hABk v k1];exact Er.at hv (hABr _ _) _
      simp(disch:=omega)only[go_sem,e0,e2,e3];have hpk:=hpa _ (k1+1) (Er.keep hv8 (hABr _ _)) hk5;dsimp only at hpk;cases hpe:(P l (n'+1)).expr (k1+1) with
      | bot=>rw[hpe,Dx] at hres2;rw[hres2] at hn;exact absurd rfl hn
      | fail k6=>
       rw[hpe] at hpk;rw[hpe,Dj] at hres2;refine(hpk (Az (by simp))).mono ?_;rintro e H9 ⟨rfl,hH9⟩;have hv9:Cg (AB v k6) xs v H9:=by rw[hH9,<-hABk v (k1+1)];exact Er.at hv8 (hABr _ _) _
       simp(disch:=omega)only[go_sem];rw[hres2];exact RAt.finP ((hABa v k6).more (Er.sub hv9)) ⟨rfl,rfl⟩
      | ok y k6=>
       rw[hpe] at hpk;rw[hpe,Da] at hres2;refine(hpk (Az (by simp))).mono ?_;rintro e H9 ⟨rfl,hH9⟩;have hv9:Cg (AB v k6) xs v H9:=by rw[hH9,<-hABk v (k1+1)];exact Er.at hv8 (hABr _ _) _
       have g92:=Er.keep hv9 (hAB2 v k6);obtain⟨j1,j2⟩:=Er.cell1 hv9;have hly:=Ai y;have hoy:=Bh y;simp(disch:=omega)only[go_sem,e0,e2,e3,dE,g92,hly,hoy,j1,j2];rw[hres2];have hvf:=fun z=>Er.less (Er.at hv9 (hAB2 v k6) z) ((hABa v k6).own hr2 q2 z);refine Fc.fin (Er.sub (hvf _)) (Fc.agg (Fc.assoc (c:=xs) (Er.sub (hvf _)) (Fc.own (hvf _)))) ⟨rfl,rfl⟩
     ·rw[if_neg b5] at hq hres2;obtain⟨rfl,hH8⟩:=hq;have hv8:Cg (AB v k1) xs v H8:=by rw[hH8,<-hABk v k1];exact Er.at hv (hABr _ _) _
      simp(disch:=omega)only[go_sem];rw[hres2];exact RAt.finP ((hABa v k1).more (Er.sub hv8)) ⟨rfl,rfl⟩
    ·simp(disch:=omega)only[go_sem,e0,e2,e3,g3,gk,c3];intro w1 hw1;dsimp only at hw1;simp(disch:=omega)only[go_sem,e0,e2,e3,g3,gk,c3];refine(Sw hG _ w1 Fl hw1 gr (by omega) (by omega)).mono ?_;rintro _ H4 ⟨rfl,hH4⟩;by_cases b:isW l k1 [Fl]=true
     ·rw[if_pos ⟨c3,b⟩] at hLm;rw[if_pos b] at hH4;have hk4:=Ap b hk1;rw[jQ] at hk4;have hv4:Cg (AB v (k1+1)) xs v H4:=by rw[hH4,<-hABk v k1];exact Er.at hv (hABr _ _) _
      have g42:=Er.keep hv4 (hAB2 _ _);simp(disch:=omega)only[go_sem,e0,e2,e3,b];refine Am (by kernel_rfl) pL5 (by kernel_rfl) ?_;simp(disch:=omega)only[go_sem,e0,e2,e3,g42];have hp2:=hc m (by omega) _ (k1+1) (Er.keep hv4 (hABr _ _)) hk4;have had2:=(Fw (l:=l) m).choice (k1+1) hk4;dsimp only at hp2;cases hpr2:(P l m).choice (k1+1) with
      | bot=>
       rw[hpr2,Dx] at hLm;rw[<-hLm,Dx] at hres2;rw[hres2] at hn;exact absurd rfl hn
      | fail k5=>
       rw[hpr2] at hp2;rw[hpr2,Dj] at hLm;rw[<-hLm,Dj] at hres2;refine(hp2 (Az (by simp))).mono ?_;rintro e H5 ⟨rfl,hH5⟩;have hv5:Cg (AB v k5) xs v H5:=by rw[hH5,<-hABk v (k1+1)];exact Er.at hv4 (hABr _ _) _
       simp(disch:=omega)only[go_sem];rw[hres2];exact RAt.finP ((hABa v k5).more (Er.sub hv5)) ⟨rfl,rfl⟩
      | ok a k5=>
       rw[hpr2] at hp2 had2;rw[hpr2,Da] at hLm;dsimp only[Adv] at had2;refine(hp2 (Az (by simp))).mono ?_;rintro e H5 ⟨rfl,hH5⟩;have hv5:Cg (AB v k5) xs v H5:=by rw[hH5,<-hABk v (k1+1)];exact Er.at hv4 (hABr _ _) _
       have g52:=Er.keep hv5 (hAB2 _ _);have hla2:=Ea a;simp(disch:=omega)only[go_sem,e0,e2,e3,g42,g52,dC];rw[Ae5 hla2];simp(disch:=omega)only[go_sem,e0,e2,e3,g42,g52];intro r8 hr8;dsimp only at hr8;have n8:r2≠r8:=Ad hr8 g52;simp(disch:=omega)only[go_sem,e0,e2,e3,g52,n8];refine Er.append (m:=1) (Er.new hv5 hr8 _) (by rw[hla2]) (by omega) fun v2 H6 hv2=> ?_;have g62:=Er.keep hv2 (hAB2 _ _);obtain⟨j1,j2⟩:=Er.cell1 hv2;simp(disch:=omega)only[go_sem,e0,e2,e3,g62,j1,j2];obtain⟨m',rfl⟩: ∃m',m=m'+1:=by
        cases m with
        | zero=>rw[hL0 c3] at hLm;rw[<-hLm,Dx] at hres2;rw[hres2] at hn;exact absurd rfl hn
        | succ m'=>exact⟨m',rfl⟩
       have hlen2:(xs++ [a]).length<=k5:=by rw[jC,jQ];omega
       have hv3:Cg (AB v2 k5) (xs++ [a]) v2 (upd H6 r2 (some (.cells [v2, .int .u8 0, .int .u8 0, .int .i64 0, .str [], .nilSlice, .nilSlice, .int .i64 0, .int .i64 0, .int .i64 0] 44))):=by
        have:=Er.at hv2 (hAB2 _ _) (some (.cells [v2, .int .u8 0, .int .u8 0, .int .i64 0, .str [], .nilSlice, .nilSlice, .int .i64 0, .int .i64 0, .int .i64 0] 44));rw[hABv] at this;unfold Cg;rw[jC,jQ,List.flatMap_append,List.flatMap_singleton];exact this
       refine⟨(m',xs++ [a],k5),_,Lq.refl _,(hI _ _ _).2 ?_,by dsimp only;omega⟩;simp(disch:=omega)only[go_sem,e0,e2,e3];(repeat' apply And.intro)<;>(try first | rfl | assumption | omega);exact⟨v2,hv3⟩
     ·have b':isW l k1 [Fl]=false:=by simpa using b
      rw[if_neg (fun h=>b h.2)] at hLm;rw[if_neg b,Co gr] at hH4;rw[hH4];simp(disch:=omega)only[go_sem,e0,e2,e3,b'];refine(Gk hG heap Bd gr (by omega) (by omega)).mono ?_;intro e1 H8 hq;rw[<-hLm,Da] at hres2;unfold Cx at hq hres2;by_cases b5:isW l k1 [Bd]=true
      ·rw[if_pos b5] at hq hres2;obtain⟨rfl,hH8⟩:=hq;dsimp only at hres2;have hk5:=Ap b5 hk1;rw[jQ] at hk5;have hv8:Cg (AB v (k1+1)) xs v H8:=by rw[hH8,<-hABk v k1];exact Er.at hv (hABr _ _) _
       simp(disch:=omega)only[go_sem,e0,e2,e3];have hpk:=hpa _ (k1+1) (Er.keep hv8 (hABr _ _)) hk5;dsimp only at hpk;cases hpe:(P l (n'+1)).expr (k1+1) with
       | bot=>rw[hpe,Dx] at hres2;rw[hres2] at hn;exact absurd rfl hn
       | fail k6=>
        rw[hpe] at hpk;rw[hpe,Dj] at hres2;refine(hpk (Az (by simp))).mono ?_;rintro e H9 ⟨rfl,hH9⟩;have hv9:Cg (AB v k6) xs v H9:=by rw[hH9,<-hABk v (k1+1)];exact Er.at hv8 (hABr _ _) _
        simp(disch:=omega)only[go_sem];rw[hres2];exact RAt.finP ((hABa v k6).more (Er.sub hv9)) ⟨rfl,rfl⟩
       | ok y k6=>
        rw[hpe] at hpk;rw[hpe,Da] at hres2;refine(hpk (Az (by simp))).mono ?_;rintro e H9 ⟨rfl,hH9⟩;have hv9:Cg (AB v k6) xs v H9:=by rw[hH9,<-hABk v (k1+1)];exact Er.at hv8 (hABr _ _) _
        have g92:=Er.keep hv9 (hAB2 v k6);obtain⟨j1,j2⟩:=Er.cell1 hv9;have hly:=Ai y;have hoy:=Bh y;simp(disch:=omega)only[go_sem,e0,e2,e3,dE,g92,hly,hoy,j1,j2];rw[hres2];have hvf:=fun z=>Er.less (Er.at hv9 (hAB2 v k6) z) ((hABa v k6).own hr2 q2 z);refine Fc.fin (Er.sub (hvf _)) (Fc.agg (Fc.assoc (c:=xs) (Er.sub (hvf _)) (Fc.own (hvf _)))) ⟨rfl,rfl⟩
      ·rw[if_neg b5] at hq hres2;obtain⟨rfl,hH8⟩:=hq;have hv8:Cg (AB v k1) xs v H8:=by rw[hH8,<-hABk v k1];exact Er.at hv (hABr _ _) _
       simp(disch:=omega)only[go_sem];rw[hres2];exact RAt.finP ((hABa v k1).more (Er.sub hv8)) ⟨rfl,rfl⟩
end
end Go.Dl

-- Chapter 3: the package's reader: parentheses.
namespace Go.Dl
open Go Go.Proofs
set_option maxRecDepth 100000
def ifR (l:List Tok) (p:Nat->Res Ex) (line:Int):List (List UInt8)->List Ex->Nat->Res Ex
 | [],xs,k=> .ok (.mk 10 0 0 [] xs [] line 0 0) k
 | w::ws,xs,k=>(p k).then fun a k=>Cx l w k fun k=>ifR l p line ws (xs++ [a]) k
section
variable {G:Nat->DVal} {H0 H H':Ab} {r k:Nat} {l:List Tok}
def Yg (H:Ab) (l:List Ex) (v:DVal) (H':Ab):Prop:=Er H 27 9 l.length (l.flatMap dEx) v H'
theorem Ae6 {x:List DVal} (hx:x.length=9):
  (if 9<=(Bj 1 [DVal.int .u8 0,DVal.int .u8 0,DVal.int .i64 0,DVal.str [],DVal.nilSlice,DVal.nilSlice,DVal.int .i64 0,DVal.int .i64 0,DVal.int .i64 0]).length then some (x++List.drop 9 (Bj 1 [DVal.int .u8 0,DVal.int .u8 0,DVal.int .i64 0,DVal.str [],DVal.nilSlice,DVal.nilSlice,DVal.int .i64 0,DVal.int .i64 0,DVal.int .i64 0])) else none)=some x:=by
 have e: ∀u:List DVal,Bj 1 u=u:=fun u=>by simp [Bj]
 rw[e,if_pos (by simp),List.drop_eq_nil_of_le (by simp),jH]
set_option maxHeartbeats 4000000 in
theorem Bp4 (hG:GX G) (hl:l.length<=800000) (n:Nat) (hpa:RdC Tryz.prog G l 58 r fun k=>((P l n).expr k).mp dE) (hc: ∀m≤n,RdC Tryz.prog G l 250 r fun k=>((P l m).assoc k).mp dA):RdC Tryz.prog G l 173 r fun k=>((P l (n+1)).paren k).mp dE:=by
 intro H k hr hk hn
 obtain⟨li,hli⟩: ∃li,li=(tk l k).line:=⟨_,rfl⟩
 have e:(P l (n+1)).paren k=Cx l Br k fun k1=>if isW l k1 [wIf] then ifR l (P l n).expr (tk l (k1-1)).line [Jl,Ki,Cb] [] (k1+1) else(((P l n).assoc k1).then fun a k=>(P l n).assocsL [a] k).then fun xs k=>Cx l Cb k fun k=> .ok (Ac9 (tk l (k1-1)).line xs) k:=by
  have hth: ∀(a:Res As) (f:As->Nat->Res (List As)) (g:List As->Nat->Res Ex),(a.then f).then g=a.then fun x k=>(f x k).then g:=fun a f g=>by cases a<;>rfl
  simp only[hth];rfl
 dsimp only at hn⊢
 rw[e] at hn⊢
 obtain⟨res,hres⟩: ∃res,res=Cx l Br k fun k1=>if isW l k1 [wIf] then ifR l (P l n).expr (tk l (k1-1)).line [Jl,Ki,Cb] [] (k1+1) else(((P l n).assoc k1).then fun a k=>(P l n).assocsL [a] k).then fun xs k=>Cx l Cb k fun k=> .ok (Ac9 (tk l (k1-1)).line xs) k:=⟨_,rfl⟩
 rw[<-hres] at hn⊢
 refine Ac Tryz.func173 Tryz.call173 rfl (by kernel_rfl) ?_
 simp(disch:=omega)only[go_sem]
 intro r2 hr2;dsimp only at hr2
 obtain⟨Ha,hHa⟩: ∃K,K=upd H r2 (some (.cells [.int .u8 0, .int .u8 0, .int .i64 0, .str [], .nilSlice, .nilSlice, .int .i64 0, .int .i64 0, .int .i64 0] 27)):=⟨_,rfl⟩
 rw[<-hHa]
 have gr2:Ha r2=some (.cells [.int .u8 0, .int .u8 0, .int .i64 0, .str [], .nilSlice, .nilSlice, .int .i64 0, .int .i64 0, .int .i64 0] 27):=by rw[hHa];exact Aa _ _ _
 have n2:r≠r2:=Ad hr2 hr
 have q2:=n2.symm
 have ha:RAt r l k H Ha:=by rw[hHa];exact(RAt.refl hr).new hr2 _
 simp(disch:=omega)only[go_sem]
 refine(Wr G _ ha.get (by omega) (by omega)).mono ?_
 rintro _ H1 ⟨rfl,hH1⟩
 rw[hH1,<-hli]
 simp(disch:=omega)only[go_sem]
 intro r3 hr3;dsimp only at hr3
 simp(disch:=omega)only[go_sem]
 obtain⟨Hb,hHb⟩: ∃K,K=upd Ha r3 (some (.cells [.int .u8 9, .int .u8 0, .int .i64 0, .str [], .nilSlice, .nilSlice, .int .i64 li, .int .i64 0, .int .i64 0] 27)):=⟨_,rfl⟩
 rw[<-hHb]
 have gr3:Hb r3=some (.cells [.int .u8 9, .int .u8 0, .int .i64 0, .str [], .nilSlice, .nilSlice, .int .i64 li, .int .i64 0, .int .i64 0] 27):=by rw[hHb];exact Aa _ _ _
 have n23:r2≠r3:=Ad hr3 gr2
 have m23:=n23.symm
 have n3:r≠r3:=Ad hr3 ha.get
 have q3:=n3.symm
 have h30:H r3=none:=ha.lo hr3
 have hab:RAt r l k H Hb:=by rw[hHb];exact ha.new hr3 _
 have gb2:Hb r2=some (.cells [.int .u8 0, .int .u8 0, .int .i64 0, .str [], .nilSlice, .nilSlice, .int .i64 0, .int .i64 0, .int .i64 0] 27):=by rw[hHb];exact Af gr2 n23
 refine(Gk hG Hb Br hab.get (by omega) (by omega)).mono ?_
 intro e1 H2 hq
 unfold Cx at hq hres
 by_cases b0:isW l k [Br]=true
 ·rw[if_pos b0] at hq hres
  obtain⟨rfl,hH2⟩:=hq
  dsimp only at hres
  rw[Nat.add_sub_cancel,<-hli] at hres
  have hk1:=Ap b0 hk
  rw[jQ] at hk1
  obtain⟨k1,hk1e⟩: ∃k1,k1=k+1:=⟨_,rfl⟩
  rw[<-hk1e] at hres hH2 hk1
  have ha2:RAt r l k1 H H2:=by rw[hH2];exact hab.set k1
  have g22:H2 r2=some (.cells [.int .u8 0, .int .u8 0, .int .i64 0, .str [], .nilSlice, .nilSlice, .int .i64 0, .int .i64 0, .int .i64 0] 27):=by rw[hH2];exact Af gb2 q2
  have g23:H2 r3=some (.cells [.int .u8 9, .int .u8 0, .int .i64 0, .str [], .nilSlice, .nilSlice, .int .i64 li, .int .i64 0, .int .i64 0] 27):=by rw[hH2];exact Af gr3 q3
  simp(disch:=omega)only[go_sem]
  intro w1 hw1;dsimp only at hw1
  simp(disch:=omega)only[go_sem]
  refine(Sw hG _ w1 wIf hw1 ha2.get (by omega) (by omega)).mono ?_
  rintro _ H4 ⟨rfl,hH4⟩
  by_cases b1:isW l k1 [wIf]=true
  ·rw[if_pos b1] at hH4 hres
   have hk2:=Ap b1 hk1
   rw[jQ] at hk2
   have ha4:RAt r l (k1+1) H H4:=by rw[hH4];exact ha2.set _
   have g42:H4 r2=some (.cells [.int .u8 0, .int .u8 0, .int .i64 0, .str [], .nilSlice, .nilSlice, .int .i64 0, .int .i64 0, .int .i64 0] 27):=by rw[hH4];exact Af g22 q2
   have g43:H4 r3=some (.cells [.int .u8 9, .int .u8 0, .int .i64 0, .str [], .nilSlice, .nilSlice, .int .i64 li, .int .i64 0, .int .i64 0] 27):=by rw[hH4];exact Af g23 q3
   simp(disch:=omega)only[go_sem,b1,g43]
   obtain⟨H5,hH5⟩: ∃K,K=upd H4 r3 (some (.cells [.int .u8 10, .int .u8 0, .int .i64 0, .str [], .nilSlice, .nilSlice, .int .i64 li, .int .i64 0, .int .i64 0] 27)):=⟨_,rfl⟩
   rw[<-hH5]
   have ha5:RAt r l (k1+1) H H5:=by rw[hH5];exact ha4.own h30 q3 _
   have g53:H5 r3=some (.cells [.int .u8 10, .int .u8 0, .int .i64 0, .str [], .nilSlice, .nilSlice, .int .i64 li, .int .i64 0, .int .i64 0] 27):=by rw[hH5];exact Aa _ _ _
   have g52:H5 r2=some (.cells [.int .u8 0, .int .u8 0, .int .i64 0, .str [], .nilSlice, .nilSlice, .int .i64 0, .int .i64 0, .int .i64 0] 27):=by rw[hH5];exact Af g42 n23
   intro w15 hw15;dsimp only at hw15
   obtain⟨Hk,hHk⟩: ∃K,K=upd H5 w15 (some (.cells [.str [116,104,101,110], .str [101,108,115,101], .str [41]] 9)):=⟨_,rfl⟩
   rw[<-hHk]
   have gw15:Hk w15=some (.cells [.str [116,104,101,110], .str [101,108,115,101], .str [41]] 9):=by rw[hHk];exact Aa _ _ _
   have n15:r3≠w15:=Ad hw15 g53
   have n152:r2≠w15:=Ad hw15 g52
   have n15r:r≠w15:=Ad hw15 ha5.get
   have hak:RAt r l (k1+1) H Hk:=by rw[hHk];exact ha5.new hw15 _
   have gk3:Hk r3=some (.cells [.int .u8 10, .int .u8 0, .int .i64 0, .str [], .nilSlice, .nilSlice, .int .i64 li, .int .i64 0, .int .i64 0] 27):=by rw[hHk];exact Af g53 n15
   have gk2:Hk r2=some (.cells [.int .u8 0, .int .u8 0, .int .i64 0, .str [], .nilSlice, .nilSlice, .int .i64 0, .int .i64 0, .int .i64 0] 27):=by rw[hHk];exact Af g52 n152
   obtain⟨AB,hAB⟩: ∃AB:DVal->Nat->Ab,∀v k,AB v k=upd (upd Hk r3 (some (.cells [.int .u8 10, .int .u8 0, .int .i64 0, .str [],v, .nilSlice, .int .i64 li, .int .i64 0, .int .i64 0] 27))) r (some (rdO l k)):=⟨_,fun _ _=>rfl⟩
   have hABr: ∀v k,AB v k r=some (rdO l k):=fun v k=>by rw[hAB];exact Aa _ _ _
   have hAB3: ∀v k,AB v k r3=some (.cells [.int .u8 10, .int .u8 0, .int .i64 0, .str [],v, .nilSlice, .int .i64 li, .int .i64 0, .int .i64 0] 27):=fun v k=>by rw[hAB,Aj _ _ _ _ q3];exact Aa _ _ _
   have hAB2: ∀v k,AB v k r2=some (.cells [.int .u8 0, .int .u8 0, .int .i64 0, .str [], .nilSlice, .nilSlice, .int .i64 0, .int .i64 0, .int .i64 0] 27):=fun v k=>by rw[hAB,Aj _ _ _ _ q2,Aj _ _ _ _ n23];exact gk2
   have hABw: ∀v k,AB v k w15=some (.cells [.str [116,104,101,110], .str [101,108,115,101], .str [41]] 9):=fun v k=>by rw[hAB,Aj _ _ _ _ n15r.symm,Aj _ _ _ _ n15.symm];exact gw15
   have hABk: ∀v k k',upd (AB v k) r (some (rdO l k'))=AB v k':=fun v k k'=>by rw[hAB,hAB,Gm]
   have hABv: ∀v v' k,upd (AB v k) r3 (some (.cells [.int .u8 10, .int .u8 0, .int .i64 0, .str [],v', .nilSlice, .int .i64 li, .int .i64 0, .int .i64 0] 27))=AB v' k:=fun v v' k=>by rw[hAB,hAB,Qg q3,Gm]
   have hABa: ∀v k,RAt r l k H (AB v k):=fun v k=>by rw[hAB];exact(hak.own h30 q3 _).set k
   have hv0:Yg (AB .nilSlice (k1+1)) [] .nilSlice Hk:=by
    rw[hAB,Co gk3,Co hak.get];exact Er.nil _ _ (Sub.refl _)
   simp(disch:=omega)only[go_sem]
   obtain⟨I,hI⟩: ∃I:Nat×List Ex×Nat->(Nat->DVal)->Ab->Prop,∀s env heap,I s env heap↔(env 0= .optr r 0/\env 2= .optr r2 0/\env 3= .optr r3 0/\env 15= .oslice 1 w15 0 3 3/\env 16=dI 3/\env 17=dI s.1/\s.1<=3/\s.2.1.length=s.1/\s.2.2<=l.length/\res=ifR l (P l n).expr li ([Jl,Ki,Cb].drop s.1) s.2.1 s.2.2/\ ∃v,Yg (AB v s.2.2) s.2.1 v heap):=⟨_,fun _ _ _=>Iff.rfl⟩
   refine Bt4.run I (fun s=>3-s.1) (0,[],k1+1) ((hI _ _ _).2 ?_) ?_
   ·simp(disch:=omega)only[go_sem]
    (repeat' apply And.intro)<;>(try first | rfl | assumption | omega)
    exact⟨_,hv0⟩
   ·rintro⟨j,xs,k2⟩ env heap hi'
    obtain⟨e0,e2,e3,e15,e16,e17,hj,hxl,hk2',hr2',v,hv⟩:=(hI _ _ _).1 hi'
    dsimp only at e17 hj hxl hk2' hr2' hv
    by_cases c:j<3
    ·have c':(j:Int)<3:=by omega
     obtain⟨w,hw,hwd⟩: ∃w,([DVal.str [116,104,101,110], .str [101,108,115,101], .str [41]])[j]? =some (.str w)/\ [Jl,Ki,Cb].drop j=w:: [Jl,Ki,Cb].drop (j+1):=by
      have:j=0\/j=1\/j=2:=by omega
      rcases this with rfl | rfl | rfl<;>exact⟨_,rfl,rfl⟩
     rw[hwd,ifR] at hr2'
     have g15:=Er.keep hv (hABw _ _)
     have g3:=Er.keep hv (hAB3 _ _)
     simp(disch:=omega)only[go_sem,e0,e2,e3,e15,e16,e17,c',g15,hw,jD]
     refine Am (by kernel_rfl) pL5 (by kernel_rfl) ?_
     simp(disch:=omega)only[go_sem,e0,e2,e3,e15,e16,e17,g3]
     have hpk:=hpa _ k2 (Er.keep hv (hABr _ _)) hk2'
     have had:=(Fw (l:=l) n).expr k2 hk2'
     dsimp only at hpk
     cases hpe:(P l n).expr k2 with
     | bot=>rw[hpe,Dx] at hr2';rw[hr2'] at hn;exact absurd rfl hn
     | fail k6=>
      rw[hpe] at hpk
      rw[hpe,Dj] at hr2'
      refine(hpk (Az (by simp))).mono ?_
      rintro e H9 ⟨rfl,hH9⟩
      have hv9:Yg (AB v k6) xs v H9:=by rw[hH9,<-hABk v k2];exact Er.at hv (hABr _ _) _
      simp(disch:=omega)only[go_sem]
      rw[hr2']
      exact RAt.finP ((hABa v k6).more (Er.sub hv9)) ⟨rfl,rfl⟩
     | ok y k6=>
      rw[hpe] at hpk had
      rw[hpe,Da] at hr2'
      dsimp only[Adv] at had
      refine(hpk (Az (by simp))).mono ?_
      rintro e H9 ⟨rfl,hH9⟩
      have hv9:Yg (AB v k6) xs v H9:=by rw[hH9,<-hABk v k2];exact Er.at hv (hABr _ _) _
      have g93:=Er.keep hv9 (hAB3 _ _)
      have hly:=Ai y
      simp(disch:=omega)only[go_sem,e0,e2,e3,e15,e16,e17,g3,g93,dE]
      rw[Ae6 hly]
      simp(disch:=omega)only[go_sem,e0,e2,e3,e15,e16,e17,g3,g93]
      intro r8 hr8;dsimp only at hr8
      have n8:r3≠r8:=Ad hr8 g93
      simp(disch:=omega)only[go_sem,e0,e2,e3,e15,e16,e17,g93,n8]
      refine Er.append (m:=1) (Er.new hv9 hr8 _) (by rw[hly]) (by omega) fun v2 H10 hv2=> ?_
      have g103:=Er.keep hv2 (hAB3 _ _)
      obtain⟨j1,j2⟩:=Er.cell1 hv2
      simp(disch:=omega)only[go_sem,e0,e2,e3,e15,e16,e17,g103,j1,j2]
      have hv3:Yg (AB v2 k6) (xs++ [y]) v2 (upd H10 r3 (some (.cells [.int .u8 10, .int .u8 0, .int .i64 0, .str [],v2, .nilSlice, .int .i64 li, .int .i64 0, .int .i64 0] 27))):=by
       have:=Er.at hv2 (hAB3 _ _) (some (.cells [.int .u8 10, .int .u8 0, .int .i64 0, .str [],v2, .nilSlice, .int .i64 li, .int .i64 0, .int .i64 0] 27))
       rw[hABv] at this
       unfold Yg
       rw[jC,jQ,List.flatMap_append,List.flatMap_singleton]
       exact this
      obtain⟨H11,hH11⟩: ∃K,K=upd H10 r3 (some (.cells [.int .u8 10, .int .u8 0, .int .i64 0, .str [],v2, .nilSlice, .int .i64 li, .int .i64 0, .int .i64 0] 27)):=⟨_,rfl⟩
      rw[<-hH11] at hv3⊢
      refine(Gk hG H11 w (Er.keep hv3 (hABr _ _)) (by omega) (by omega)).mono ?_
      intro e1 H12 hq
      unfold Cx at hq hr2'
      by_cases b5:isW l k6 [w]=true
      ·rw[if_pos b5] at hq hr2'
       obtain⟨rfl,hH12⟩:=hq
       dsimp only at hr2'
       have hk5:=Ap b5 had.2
       rw[jQ] at hk5
       have hv4:Yg (AB v2 (k6+1)) (xs++ [y]) v2 H12:=by rw[hH12,<-hABk v2 k6];exact Er.at hv3 (hABr _ _) _
       have hwj:IntKind.i64.wrap ((j:Int)+1)=((j+1:Nat):Int):=by rw[IntKind.wrap_i64];omega
       simp(disch:=omega)only[go_sem,e0,e2,e3,e15,e16,e17]
       refine⟨(j+1,xs++ [y],k6+1),_,Lq.refl _,(hI _ _ _).2 ?_,by dsimp only;omega⟩
       simp(disch:=omega)only[go_sem,e0,e2,e3,e15,e16,e17,hwj]
       (repeat' apply And.intro)<;>(try first | rfl | assumption | omega)
       ·rw[jC,jQ];omega
       ·exact⟨v2,hv4⟩
      ·rw[if_neg b5] at hq hr2'
       obtain⟨rfl,hH12⟩:=hq
       have hv4:Yg (AB v2 k6) (xs++ [y]) v2 H12:=by rw[hH12,<-hABk v2 k6];exact Er.at hv3 (hABr _ _) _
       simp(disch:=omega)only[go_sem]
       rw[hr2']
       exact RAt.finP ((hABa v2 k6).more (Er.sub hv4)) ⟨rfl,rfl⟩
    ·have hj3:j=3:=by omega
     subst hj3
     have c': ¬((3:Nat):Int)<3:=by omega
     rw[show [Jl,Ki,Cb].drop 3= [] from rfl,ifR] at hr2'
     have g3:=Er.keep hv (hAB3 _ _)
     have g2:=Er.keep hv (hAB2 _ _)
     obtain⟨j1,j2⟩:=Er.cell1 hv
     simp(disch:=omega)only[go_sem,e0,e2,e3,e15,e16,e17,c',g3,g2,j1,j2]
     rw[hr2']
     have hvf:=fun z=>Er.less (Er.at hv (hAB2 v k2) z) ((hABa v k2).own hr2 q2 z)
     exact Fc.fin (Er.sub (hvf _)) (Fc.agg (Fc.ex (l:=xs) (Er.sub (hvf _)) (Fc.own (hvf _)) (.as0 (Er.sub (hvf _))))) ⟨rfl,rfl⟩
  ·have b1':isW l k1 [wIf]=false:=by simpa using b1
   rw[if_neg b1,Co ha2.get] at hH4
   rw[if_neg b1] at hres
   rw[hH4]
   simp(disch:=omega)only[go_sem,b1']
   have hs:=An3 hG hl 250 (fun m=>(P l m).assoc) (fun m=>(P l m).assocsL) Gv (fun _ _=>rfl) (fun _ _ _=>rfl) (fun m k hk=>(Fw m).assoc k hk) n hc H2 k1 ha2.get hk1 (fun h=>hn (by rw[hres,h];rfl))
   refine hs.mono ?_
   intro e1 H5 hq5
   cases hcc:(((P l n).assoc k1).then fun a k=>(P l n).assocsL [a] k) with
   | bot=>rw[hcc] at hq5;exact hq5.elim
   | fail k3=>
    rw[hcc] at hq5
    rw[hcc,Dj] at hres
    obtain⟨rfl,hH5⟩:=hq5
    simp(disch:=omega)only[go_sem]
    rw[hres]
    exact RAt.finP (by rw[hH5];exact ha2.set k3) ⟨rfl,rfl⟩
   | ok xs k3=>
    rw[hcc] at hq5
    rw[hcc,Da] at hres
    obtain⟨rfl,hH5⟩:=hq5
    have hk3:k3<=l.length:=by
     have:=Bn ((Fw (l:=l) n).assoc k1 hk1) (fun a j h1 h2=>(Fw (l:=l) n).assocsL [a] j h2 |>fun h=>Cy h h1)
     rw[hcc] at this
     exact this.2
    have ha5:RAt r l k3 H H5:=by rw[hH5];exact ha2.set _
    have g53:H5 r3=some (.cells [.int .u8 9, .int .u8 0, .int .i64 0, .str [], .nilSlice, .nilSlice, .int .i64 li, .int .i64 0, .int .i64 0] 27):=by rw[hH5];exact Af g23 q3
    have g52:H5 r2=some (.cells [.int .u8 0, .int .u8 0, .int .i64 0, .str [], .nilSlice, .nilSlice, .int .i64 0, .int .i64 0, .int .i64 0] 27):=by rw[hH5];exact Af g22 q2
    simp(disch:=omega)only[go_sem,dAl,g53]
    obtain⟨H6,hH6⟩: ∃K,K=upd H5 r3 (some (.cells [.int .u8 9, .int .u8 0, .int .i64 0, .str [], .nilSlice, .vslice (xs.flatMap dAs) xs.length, .int .i64 li, .int .i64 0, .int .i64 0] 27)):=⟨_,rfl⟩
    rw[<-hH6]
    have ha6:RAt r l k3 H H6:=by rw[hH6];exact ha5.own h30 q3 _
    have g63:H6 r3=some (.cells [.int .u8 9, .int .u8 0, .int .i64 0, .str [], .nilSlice, .vslice (xs.flatMap dAs) xs.length, .int .i64 li, .int .i64 0, .int .i64 0] 27):=by rw[hH6];exact Aa _ _ _
    have g62:H6 r2=some (.cells [.int .u8 0, .int .u8 0, .int .i64 0, .str [], .nilSlice, .nilSlice, .int .i64 0, .int .i64 0, .int .i64 0] 27):=by rw[hH6];exact Af g52 n23
    refine(Gk hG H6 Cb ha6.get (by omega) (by omega)).mono ?_
    intro e1 H7 hq7
    unfold Cx at hq7
    by_cases b5:isW l k3 [Cb]=true
    ·rw[if_pos b5] at hq7 hres
     obtain⟨rfl,hH7⟩:=hq7
     have ha7:RAt r l (k3+1) H H7:=by rw[hH7];exact ha6.set _
     have g73:H7 r3=some (.cells [.int .u8 9, .int .u8 0, .int .i64 0, .str [], .nilSlice, .vslice (xs.flatMap dAs) xs.length, .int .i64 li, .int .i64 0, .int .i64 0] 27):=by rw[hH7];exact Af g63 q3
     have g72:H7 r2=some (.cells [.int .u8 0, .int .u8 0, .int .i64 0, .str [], .nilSlice, .nilSlice, .int .i64 0, .int .i64 0, .int .i64 0] 27):=by rw[hH7];exact Af g62 q2
     have hat:=fun z=>ha7.own hr2 q2 z
     by_cases c1:xs.length=1
     ·obtain⟨x,rfl⟩:=List.length_eq_one_iff.1 c1
      have hlx:=Dr x
      have hge:=Bc9 x
      have hle:=Ai x.e
      have hoe:=Bh x.e
      rw[List.flatMap_singleton] at g73
      by_cases c2:x.c= []
      ·have c2':x.c.length=0:=by rw[c2];rfl
       simp(disch:=omega)only[go_sem,g73,g72,jQ,List.flatMap_singleton,hlx,c2']
       try simp(disch:=omega)only[go_sem,hge,hle,hoe]
       rw[hres,Ac9,if_pos c2]
       exact RAt.fin (hat _) ⟨rfl,rfl⟩
      ·have c2': ¬(x.c.length:Int)=0:=fun h=>c2 (List.length_eq_zero_iff.1 (by omega))
       simp(disch:=omega)only[go_sem,g73,g72,jQ,List.flatMap_singleton,hlx,c2']
       rw[hres,Ac9,if_neg c2]
       exact Fc.fin (hat _) (Fc.agg (Fc.ex (a:= [x]) (hat _) (.exs0 (hat _)) (by rw[dAl,List.flatMap_singleton];exact Fc.keep (hat _) _))) ⟨rfl,rfl⟩
     ·have c1': ¬(xs.length:Int)=1:=by omega
      simp(disch:=omega)only[go_sem,g73,g72,c1']
      have hag:Ac9 li xs= .mk 9 0 0 [] [] xs li 0 0:=by
       match xs,c1 with
       | [],_=>rfl
       | [x],h=>exact absurd rfl h
       | x::y::zs,_=>rfl
      rw[hres,hag]
      exact Fc.fin (hat _) (Fc.agg (Fc.ex (a:=xs) (hat _) (.exs0 (hat _)) (Fc.keep (hat _) _))) ⟨rfl,rfl⟩
    ·rw[if_neg b5] at hq7 hres
     obtain⟨rfl,hH7⟩:=hq7
     simp(disch:=omega)only[go_sem]
     rw[hres]
     exact RAt.finP (by rw[hH7];exact ha6.set k3) ⟨rfl,rfl⟩
 ·rw[if_neg b0] at hq hres
  obtain⟨rfl,hH2⟩:=hq
  simp(disch:=omega)only[go_sem]
  rw[hres]
  exact RAt.finP (by rw[hH2];exact hab.set k) ⟨rfl,rfl⟩
end
end Go.Dl
