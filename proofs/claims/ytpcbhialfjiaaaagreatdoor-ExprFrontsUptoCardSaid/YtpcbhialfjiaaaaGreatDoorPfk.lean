/- The data level and the contracts of the functions that are reached (part 11). -/
import Derived.Test.YtpcbhialfjiaaaaGreatDoorPfj
set_option linter.unusedSimpArgs false
set_option linter.unusedVariables false
set_option linter.unusedSectionVars false
-- Chapter 3: the reference's reader: factors, terms, simples.
namespace Go.Dl
open Go Go.Proofs
set_option maxRecDepth 100000
def nxo (l:List Tok) (os:List Nat) (s:RS):Nat:=if s.bad then 0 else(opF l 0 s.k os).1
section
variable {G:Nat->DVal} {H0 H H':Ac} {r k:Nat} {l:List Tok} {s s':RS}
theorem Nh {os:List Nat} (h:s.bad=true):nxo l os s=0:=by rw[nxo,if_pos h]
theorem Je {os:List Nat}:nxo l os ⟨k,false⟩=(opF l 0 k os).1:=rfl
theorem Ps: ∀ {os:List Nat},(∀o∈os,(Bp o).length=1)->(opF l 0 k os).1≠0->(opF l 0 k os).2=k+1
 | [],_,h=>absurd rfl h
 | o::os,ho,h=>by
  rw[Oc] at h⊢
  split
  ·rename_i c
   rw[if_neg (by simp)];show k+_=_;rw[ho o (by simp)]
  ·rename_i c
   rw[if_neg c] at h;exact Ps (fun o' h'=>ho o' (List.mem_cons_of_mem _ h')) h
theorem Dr1:(∀o∈Gx,(Bp o).length=1)/\(∀o∈Fb,(Bp o).length=1)/\(∀o∈Fj,(Bp o).length=1)/\(∀o∈Jt,(Bp o).length=1)/\ ∀o∈Gy,(Bp o).length=1:=by decide
theorem Dm3 (G:Nat->DVal) (H:Ac) (hr:H r=some (rfO l s)) (hl:l.length<=1000000) (hk:s.bad=false->s.k<=900000):Ai Tryz.prog G 102 [.optr r 0, .int .u8 20, .int .u8 21] H (Au (.int .u8 (nxo l Gy s)) H):=Iw G H 20 1 (by decide) (by decide) hr hl hk
theorem Dd6 (G:Nat->DVal) (H:Ac) (hr:H r=some (rfO l s)) (hl:l.length<=1000000) (hk:s.bad=false->s.k<=900000):Ai Tryz.prog G 102 [.optr r 0, .int .u8 18, .int .u8 19] H (Au (.int .u8 (nxo l Fb s)) H):=Iw G H 18 1 (by decide) (by decide) hr hl hk
theorem Ax2 (G:Nat->DVal) (H:Ac) (hr:H r=some (rfO l s)) (hl:l.length<=1000000) (hk:s.bad=false->s.k<=900000):Ai Tryz.prog G 102 [.optr r 0, .int .u8 1, .int .u8 2] H (Au (.int .u8 (nxo l Fj s)) H):=Iw G H 1 1 (by decide) (by decide) hr hl hk
theorem Ct5 (G:Nat->DVal) (H:Ac) (hr:H r=some (rfO l s)) (hl:l.length<=1000000) (hk:s.bad=false->s.k<=900000):Ai Tryz.prog G 102 [.optr r 0, .int .u8 3, .int .u8 6] H (Au (.int .u8 (nxo l Jt s)) H):=Iw G H 3 3 (by decide) (by decide) hr hl hk
theorem Dm4 (G:Nat->DVal) (H:Ac) (hr:H r=some (rfO l s)) (hl:l.length<=1000000) (hk:s.bad=false->s.k<=900000):Ai Tryz.prog G 102 [.optr r 0, .int .u8 7, .int .u8 12] H (Au (.int .u8 (nxo l Gx s)) H):=Iw G H 7 5 (by decide) (by decide) hr hl hk
theorem Ct6 (G:Nat->DVal) (H:Ac) (hr:H r=some (rfO l s)) (hl:l.length<=1000000) (hk:s.bad=false->s.k<=900000):Ai Tryz.prog G 102 [.optr r 0, .int .u8 13, .int .u8 17] H (Au (.int .u8 (nxo l Ct s)) H):=Iw G H 13 4 (by decide) (by decide) hr hl hk
theorem Can.kb {α:Type} {T:Nat->Res α} (h:Can l T s) (hl:l.length<=800000):s.bad=false->s.k<=900000:=fun c=>by have:=(h c).1;omega
theorem Mj (G:Nat->DVal) (H:Ac) (o:Nat) (a b:Ex):Ai Tryz.prog G 103 [.int .u8 o, .agg (dEx a), .agg (dEx b)] H (Au (dE (both o a b)) H):=by
 have hlx:(dEx a).length=9:=Ah a;have hly:(dEx b).length=9:=Ah b;have hla:(dEx a)[6]? =some (dI a.line):=by cases a;rfl
 have hab: [a,b].flatMap dEx=dEx a++dEx b:=by simp
 refine Ad Tryz.func103 Tryz.call103 rfl (by kernel_rfl) ?_;simp(disch:=omega) only[go_sem,↓reduceIte,DVal.cells];intro r4 hr4;dsimp only at hr4;simp(disch:=omega) only[go_sem,↓reduceIte,DVal.cells];intro r5 hr5;dsimp only at hr5;obtain⟨m1,m2,hr5'⟩:=De7.1 hr5;simp(disch:=omega) only[go_sem,↓reduceIte];intro r6 hr6;dsimp only at hr6;obtain⟨m3,m4,hr6a⟩:=De7.1 hr6;obtain⟨m5,m6,hr6'⟩:=De7.1 hr6a;simp(disch:=omega) only[go_sem,↓reduceIte,m1,m2,m3,m4,m5,m6];rw[Gk hlx hly];simp(disch:=omega) only[go_sem,↓reduceIte,m1,m2,m3,m4,m5,m6,hla,hlx];intro r7 hr7;dsimp only at hr7;obtain⟨p1,p2,hr7a⟩:=De7.1 hr7;obtain⟨p3,p4,hr7b⟩:=De7.1 hr7a;obtain⟨p5,p6,hr7'⟩:=De7.1 hr7b;simp(disch:=omega) only[go_sem,↓reduceIte,m1,m2,m3,m4,m5,m6,p1,p2,p3,p4,p5,p6,hla,hlx];have hs:=(((((Sub.refl H).new hr4 (some (.cells (dEx a) 27))).new hr5 (some (.cells (dEx b) 27))).new hr6 (some (.cells [.int .u8 0, .int .u8 0, .int .i64 0, .str [], .nilSlice, .nilSlice, .int .i64 0, .int .i64 0, .int .i64 0] 27))).new hr7 (some (.cells (dEx a++dEx b) 27))).up hr6' (some (.cells [.int .u8 12, .int .u8 o, .int .i64 0, .str [], .oslice 9 r7 0 2 2, .nilSlice, .int .i64 a.line, .int .i64 0, .int .i64 0] 27));refine Fc.fin hs (Fc.agg (Fc.ex (l:= [a,b]) hs (Fc.block (e:=27) hs hr7' ?_ ?_) (.as0 hs))) ⟨rfl,rfl⟩
 ·rw[hab];simp [upd,p1,p2]
 ·rw[hab,List.length_append,hlx,hly]
set_option maxHeartbeats 4000000 in
theorem Bh5 (hl:l.length<=800000) (p:PS) (hp:RfC Tryz.prog G l 62 r [] p.primary dE):RfC Tryz.prog G l 61 r [] (Ba l p).factor dE:=by
 intro H s hr hc;have eF: ∀k,(Ba l p).factor k=(p.primary (opF l 0 k Gy).2).then fun x k'=> .ok (Kk (opF l 0 k Gy).1 (tk l k).line x) k':=fun _=>rfl
 refine Ad Tryz.func61 Tryz.call61 rfl (by kernel_rfl) ?_;simp(disch:=omega) only[go_sem,↓reduceIte];intro r2 hr2;dsimp only at hr2;obtain⟨K,hK⟩: ∃K,K=upd H r2 (some (.cells [.int .u8 0, .int .u8 0, .int .i64 0, .str [], .nilSlice, .nilSlice, .int .i64 0, .int .i64 0, .int .i64 0] 27)):=⟨_,rfl⟩;rw[<-hK];have gr2:K r2=some (.cells [.int .u8 0, .int .u8 0, .int .i64 0, .str [], .nilSlice, .nilSlice, .int .i64 0, .int .i64 0, .int .i64 0] 27):=by rw[hK];exact Aa _ _ _
 have n2:r≠r2:=Ae hr2 hr;have q2:=n2.symm;have hat:FAt r l s H K:=by rw[hK];exact(FAt.refl hr).new hr2 _
 simp(disch:=omega) only[go_sem,↓reduceIte];refine Ai.monoR (Hl G K hat.get (by omega)) ?_;simp(disch:=omega) only[go_sem,↓reduceIte];refine Ai.monoR (Dm3 G K hat.get (by omega) (hc.kb hl)) ?_;by_cases c:nxo l Gy s=0
 ·have c':(nxo l Gy s:Int)=0:=by omega
  have he:s.bad=false->(Ba l p).factor s.k=p.primary s.k:=fun hb=>by
   have h1:(opF l 0 s.k Gy).1=0:=by rw[nxo,hb] at c;exact c
   have h2:=(Ca (want:=0) Dr5.2.2.2.2.2 (hc hb).1).1 h1;rw[eF,h1,h2];cases p.primary s.k<;>rfl
  simp(disch:=omega) only[go_sem,↓reduceIte,c'];refine(hp K s hat.get (hc.eq he)).mono ?_;rintro _ K2 ⟨x,s',rfl,hK2,ha⟩;have hat2:FAt r l s' H K2:=by rw[hK2];exact hat.set s'
  have g2:K2 r2=some (.cells [.int .u8 0, .int .u8 0, .int .i64 0, .str [], .nilSlice, .nilSlice, .int .i64 0, .int .i64 0, .int .i64 0] 27):=by rw[hK2];exact Ag gr2 q2
  have hlx:=Ah x;have hox:=Al x;simp(disch:=omega) only[go_sem,↓reduceIte,dE,g2,hlx,hox];exact(hat2.own hr2 q2 _).fin ⟨x,s',rfl,rfl,ha.eq he⟩
 ·obtain⟨k,rfl⟩: ∃k,s=⟨k,false⟩:=by
   rcases s.cases with hb | h
   ·exact absurd (Nh hb) c
   ·exact h
  rw[Je] at c;have h1:=Ps Dr1.2.2.2.2 c;have hk:=hc.good.1;have h2:=(Ca (want:=0) (os:=Gy) Dr5.2.2.2.2.2 hk).2.2.1;obtain⟨o,ho⟩: ∃o,o=(opF l 0 k Gy).1:=⟨_,rfl⟩;have eK:(Ba l p).factor k=(p.primary (k+1)).then fun x k'=> .ok (Kk o (tk l k).line x) k':=by rw[eF,h1,ho]
  rw[h1] at h2;rw[Je,<-ho];rw[<-ho] at c;have c': ¬(o:Int)=0:=by omega
  have hw:IntKind.i64.wrap ((k:Int)+1)=((k+1:Nat):Int):=by rw[IntKind.wrap_i64];omega
  have gr:=hat.get;unfold rfO at gr;simp(disch:=omega) only[go_sem,↓reduceIte,c',gr,hw,n2,q2];obtain⟨K1,hK1⟩: ∃K1,K1=upd K r (some (rfO l ⟨k+1,false⟩)):=⟨_,rfl⟩;have hat1:FAt r l ⟨k+1,false⟩ H K1:=by rw[hK1];exact hat.set _
  have g12:K1 r2=some (.cells [.int .u8 0, .int .u8 0, .int .i64 0, .str [], .nilSlice, .nilSlice, .int .i64 0, .int .i64 0, .int .i64 0] 27):=by rw[hK1];exact Ag gr2 q2
  have hc1:Can l (fun k'=>(p.primary k').then fun x k'=> .ok (Kk o (tk l k).line x) k') ⟨k+1,false⟩:=Can.at eK h2 hc;refine(hp _ ⟨k+1,false⟩ (Aa _ _ _) hc1.then1).mono ?_;rintro _ K2 ⟨x,s',rfl,hK2,ha⟩;change K2=upd (upd K r (some (rfO l ⟨k+1,false⟩))) r _ at hK2;rw[<-hK1] at hK2;have hat2:FAt r l s' H K2:=by rw[hK2];exact hat1.set s'
  have g2:K2 r2=some (.cells [.int .u8 0, .int .u8 0, .int .i64 0, .str [], .nilSlice, .nilSlice, .int .i64 0, .int .i64 0, .int .i64 0] 27):=by rw[hK2];exact Ag g12 q2
  have hlx:=Ah x;have hox:=Al x;simp(disch:=omega) only[go_sem,↓reduceIte,dE];rw[Cy hlx];simp(disch:=omega) only[go_sem,↓reduceIte];intro r23 hr23;dsimp only at hr23;have n23:r2≠r23:=Ae hr23 g2;have q23:=n23.symm;simp(disch:=omega) only[go_sem,↓reduceIte,g2,n23,q23];have hs:=(hat2.new hr23 (some (.cells (dEx x) 27))).own hr2 q2 (some (.cells [.int .u8 11, .int .u8 o, .int .i64 0, .str [], .oslice 9 r23 0 1 1, .nilSlice, .int .i64 (tk l k).line, .int .i64 0, .int .i64 0] 27));refine Fc.fin hs (Fc.agg (Fc.ex (l:= [x]) hs (Fc.block (e:=27) hs (Sub.lo hat2 hr23) ?_ ?_) (.as0 hs))) ⟨Kk o (tk l k).line x,s',?_,rfl,?_⟩
  ·rw[List.flatMap_singleton];simp [upd,n23,q23]
  ·rw[List.flatMap_singleton,hlx]
  ·rw[Kk,if_neg (by omega)]
  ·exact Aft.at eK (ha.then .pure)
end
end Go.Dl

-- Chapter 3: the reference's reader: terms, simples.
namespace Go.Dl
open Go Go.Proofs
set_option maxRecDepth 100000
section
variable {G:Nat->DVal} {H0 H H':Ac} {r k:Nat} {l:List Tok} {s s':RS}
structure Left {α:Type} (l:List Tok) (T0:Nat->Res α) (s0:RS) (T:Nat->Res α) (s:RS):Prop where
 go: ∀x' s',Aft T s x' s'->Aft T0 s0 x' s'
 can:Can l T s
theorem Left.refl {α:Type} {T0:Nat->Res α} {s0:RS} (hc:Can l T0 s0):Left l T0 s0 T0 s0:=⟨fun _ _ h=>h,hc⟩
theorem Left.first {α β:Type} {lb:Nat} {T0:Nat->Res α} {T:Nat->Res β} {V:β->Nat->Res α} {s0 s1:RS} {x:β} (e:s0.bad=false->T0 s0.k=(T s0.k).then V) (hc:Can l T0 s0) (ha:Aft T s0 x s1) (had:s0.bad=false->Adv l lb (T s0.k)):Left l T0 s0 (V x) s1:=
 ⟨fun x' s' h=>Aft.eq (U:=fun k=>(T k).then V) e (ha.then h),(Can.eq (U:=fun k=>(T k).then V) e hc).then2 ha had⟩
theorem Left.round {α β:Type} {lb:Nat} {T0 L:Nat->Res α} {T:Nat->Res β} {V:β->Nat->Res α} {s0 s1:RS} {y:β} {j:Nat} (h:Left l T0 s0 L ⟨k,false⟩) (e:L k=(T j).then V) (hj:j<=l.length) (ha:Aft T ⟨j,false⟩ y s1) (had:Adv l lb (T j)):Left l T0 s0 (V y) s1:=
 ⟨fun x' s' g=>h.go x' s' (Aft.at (U:=fun k=>(T k).then V) e (ha.then g)),(Can.at (U:=fun k=>(T k).then V) e hj h.can).then2 ha fun _=>had⟩
theorem Left.canT {α β:Type} {T0 L:Nat->Res α} {T:Nat->Res β} {V:β->Nat->Res α} {s0:RS} {j:Nat} (h:Left l T0 s0 L ⟨k,false⟩) (e:L k=(T j).then V) (hj:j<=l.length):Can l T ⟨j,false⟩:=
 (Can.at (U:=fun k=>(T k).then V) e hj h.can).then1
theorem Left.done {α:Type} {T0 L:Nat->Res α} {s0:RS} {x:α} (h:Left l T0 s0 L s) (e:s.bad=false->L s.k= .ok x s.k):Aft T0 s0 x s:=h.go x s (Aft.eq e .pure)
set_option maxHeartbeats 4000000 in
theorem Ct7 (hl:l.length<=800000) (n:Nat) (hg: ∀m≤n,RfC Tryz.prog G l 61 r [] (P l m).factor dE):RfC Tryz.prog G l 60 r [] (P l (n+1)).term dE:=by
 intro H s hr hc;have eT: ∀k,(P l (n+1)).term k=((P l n).factor k).then fun x k=>(P l n).mulL x k:=fun _=>rfl
 refine Ad Tryz.func60 Tryz.call60 rfl (by kernel_rfl) ?_;simp(disch:=omega) only[go_sem,↓reduceIte];intro r2 hr2;dsimp only at hr2;obtain⟨K,hK⟩: ∃K,K=upd H r2 (some (.cells [.int .u8 0, .int .u8 0, .int .i64 0, .str [], .nilSlice, .nilSlice, .int .i64 0, .int .i64 0, .int .i64 0] 27)):=⟨_,rfl⟩;rw[<-hK];have gr2:K r2=some (.cells [.int .u8 0, .int .u8 0, .int .i64 0, .str [], .nilSlice, .nilSlice, .int .i64 0, .int .i64 0, .int .i64 0] 27):=by rw[hK];exact Aa _ _ _
 have n2:r≠r2:=Ae hr2 hr;have q2:=n2.symm;have hat:FAt r l s H K:=by rw[hK];exact(FAt.refl hr).new hr2 _
 simp(disch:=omega) only[go_sem,↓reduceIte];refine(hg n (Nat.le_refl _) K s hat.get (Can.then1 (V:=fun x k=>(P l n).mulL x k) hc)).mono ?_;rintro _ K1 ⟨x,s1,rfl,hK1,ha⟩;have hat1:FAt r l s1 H K1:=by rw[hK1];exact hat.set s1
 have g12:K1 r2=some (.cells [.int .u8 0, .int .u8 0, .int .i64 0, .str [], .nilSlice, .nilSlice, .int .i64 0, .int .i64 0, .int .i64 0] 27):=by rw[hK1];exact Ag gr2 q2
 have hL:Left l (P l (n+1)).term s ((P l n).mulL x) s1:=Left.first (fun _=>eT _) hc ha fun hb=>(Bn n).factor _ (hc hb).1
 clear ha;have hlx:=Ah x;have hox:=Al x;simp(disch:=omega) only[go_sem,↓reduceIte,dE];intro r3 hr3;dsimp only at hr3;have n3:r≠r3:=Ae hr3 hat1.get;have q3:=n3.symm;have n23:r2≠r3:=Ae hr3 g12;have q23:=n23.symm;simp(disch:=omega) only[go_sem,↓reduceIte,hlx,hox];obtain⟨K2,hK2⟩: ∃K2,K2=upd K1 r3 (some (.cells (dEx x) 27)):=⟨_,rfl⟩;rw[<-hK2];have h3:H r3=none:=hat1.lo hr3;have hat2:FAt r l s1 H K2:=by rw[hK2];exact hat1.new hr3 _
 have g22:K2 r2=some (.cells [.int .u8 0, .int .u8 0, .int .i64 0, .str [], .nilSlice, .nilSlice, .int .i64 0, .int .i64 0, .int .i64 0] 27):=by rw[hK2];exact Ag g12 n23
 have g23:K2 r3=some (.cells (dEx x) 27):=by rw[hK2];exact Aa _ _ _
 clear hK2 hK1;refine Ai.monoR (Ct5 G K2 hat2.get (by omega) (hL.can.kb hl)) ?_;simp(disch:=omega) only[go_sem,↓reduceIte];obtain⟨I,hI⟩: ∃I:Nat×Ex×RS->(Nat->DVal)->Ac->Prop,∀i env heap,I i env heap↔(env 0= .optr r 0/\env 2= .optr r2 0/\env 3= .optr r3 0/\env 4= .int .u8 (nxo l Jt i.2.2)/\FAt r l i.2.2 H heap/\heap r2=some (.cells [.int .u8 0, .int .u8 0, .int .i64 0, .str [], .nilSlice, .nilSlice, .int .i64 0, .int .i64 0, .int .i64 0] 27)/\heap r3=some (.cells (dEx i.2.1) 27)/\i.1<=n/\Left l (P l (n+1)).term s ((P l i.1).mulL i.2.1) i.2.2):=⟨_,fun _ _ _=>Iff.rfl⟩;refine Bt4.run I (fun i=>i.1) (n,x,s1) ((hI _ _ _).2 ?_) ?_
 ·simp(disch:=omega) only[go_sem,↓reduceIte];(repeat' apply And.intro)<;>(try first | rfl | assumption | omega)
 ·rintro⟨m,x,s1⟩ E K hi;obtain⟨e0,e2,e3,e4,hat,g2,g3,hm,hL⟩:=(hI _ _ _).1 hi;dsimp only at e4 hat g3 hm hL;have hlx:=Ah x;have hox:=Al x;by_cases c:nxo l Jt s1=0
  ·have c':(nxo l Jt s1:Int)=0:=by omega
   simp(disch:=omega) only[go_sem,↓reduceIte,e0,e2,e3,e4,c',g2,g3,hlx,hox];refine(hat.own (FAt.lo (FAt.refl hr) hr2) q2 _).fin ⟨x,s1,rfl,rfl,hL.done fun hb=> ?_⟩;have c2:(opF l 0 s1.k Jt).1=0:=by rw[nxo,hb] at c;exact c
   cases m with
   | zero=>exact absurd rfl (hL.can hb).2
   | succ m=>show(if(opF l 0 s1.k Jt).1=0 then _ else _)=_;rw[if_pos c2]
  ·obtain⟨k,rfl⟩: ∃k,s1=⟨k,false⟩:=by
    rcases s1.cases with hb | h
    ·exact absurd (Nh hb) c
    ·exact h
   rw[Je] at c e4;have h1:=Ps Dr1.2.2.2.1 c;have hk:=hL.can.good.1;have h2:=(Ca (want:=0) (os:=Jt) Dr5.2.2.2.2.1 hk).2.2.1;rw[h1] at h2;obtain⟨m,rfl⟩: ∃m',m=m'+1:=by
    cases m with
    | zero=>exact absurd rfl hL.can.good.2
    | succ m=>exact⟨m,rfl⟩
   obtain⟨o,ho⟩: ∃o,o=(opF l 0 k Jt).1:=⟨_,rfl⟩;have eK:(P l (m+1)).mulL x k=((P l m).factor (k+1)).then fun y j=>(P l m).mulL (both o x y) j:=by
    show(if(opF l 0 k Jt).1=0 then _ else((P l m).factor (opF l 0 k Jt).2).then _)=_;rw[if_neg c,h1,ho]
   rw[<-ho] at c e4;have c': ¬(o:Int)=0:=by omega
   have hw:IntKind.i64.wrap ((k:Int)+1)=((k+1:Nat):Int):=by rw[IntKind.wrap_i64];omega
   have gr:=hat.get;unfold rfO at gr;simp(disch:=omega) only[go_sem,↓reduceIte,e0,e2,e3,e4,c',gr,hw];refine Aj (by kernel_rfl) (.take 0 (.take 1 (.take 2 (.go 3 [1] (.go 4 [] (.go 5 [] .done)))))) (by kernel_rfl) ?_;simp(disch:=omega) only[go_sem,↓reduceIte,e0,e2,e3,e4,g3,q3,n3,hlx,hox];obtain⟨K1,hK1⟩: ∃K1,K1=upd K r (some (rfO l ⟨k+1,false⟩)):=⟨_,rfl⟩;have hat1:FAt r l ⟨k+1,false⟩ H K1:=by rw[hK1];exact hat.set _
   have g12:K1 r2=some (.cells [.int .u8 0, .int .u8 0, .int .i64 0, .str [], .nilSlice, .nilSlice, .int .i64 0, .int .i64 0, .int .i64 0] 27):=by rw[hK1];exact Ag g2 q2
   have g13:K1 r3=some (.cells (dEx x) 27):=by rw[hK1];exact Ag g3 q3
   refine(hg m (by omega) _ ⟨k+1,false⟩ (Aa _ _ _) (hL.canT eK h2)).mono ?_;rintro _ K2 ⟨y,s2,rfl,hK2,ha⟩;change K2=upd (upd K r (some (rfO l ⟨k+1,false⟩))) r _ at hK2;rw[<-hK1] at hK2;have hat2:FAt r l s2 H K2:=by rw[hK2];exact hat1.set s2
   have g22:K2 r2=some (.cells [.int .u8 0, .int .u8 0, .int .i64 0, .str [], .nilSlice, .nilSlice, .int .i64 0, .int .i64 0, .int .i64 0] 27):=by rw[hK2];exact Ag g12 q2
   have g23:K2 r3=some (.cells (dEx x) 27):=by rw[hK2];exact Ag g13 q3
   have hL2:=hL.round eK h2 ha ((Bn m).factor _ h2);simp(disch:=omega) only[go_sem,↓reduceIte,e0,e2,e3,e4,g23,hlx,hox,dE];refine⟨by rw[if_neg q3,g3],?_⟩;refine Ai.monoR (Mj G K2 o x y) ?_;have hly:=Ah (both o x y);have hoy:=Al (both o x y);simp(disch:=omega) only[go_sem,↓reduceIte,e0,e2,e3,e4,g23,hlx,hox,dE,hly,hoy];obtain⟨K3,hK3⟩: ∃K3,K3=upd K2 r3 (some (.cells (dEx (both o x y)) 27)):=⟨_,rfl⟩;rw[<-hK3];have hat3:FAt r l s2 H K3:=by rw[hK3];exact hat2.own h3 q3 _
   have g32:K3 r2=some (.cells [.int .u8 0, .int .u8 0, .int .i64 0, .str [], .nilSlice, .nilSlice, .int .i64 0, .int .i64 0, .int .i64 0] 27):=by rw[hK3];exact Ag g22 n23
   have g33:K3 r3=some (.cells (dEx (both o x y)) 27):=by rw[hK3];exact Aa _ _ _
   refine Ai.monoR (Ct5 G K3 hat3.get (by omega) (hL2.can.kb hl)) ?_;simp(disch:=omega) only[go_sem,↓reduceIte,e0,e2,e3,e4];refine⟨(m,both o x y,s2),_,Ni.refl _,(hI _ _ _).2 ?_,by show m<m+1;omega⟩;simp(disch:=omega) only[go_sem,↓reduceIte,e0,e2,e3,e4];(repeat' apply And.intro)<;>(try first | rfl | assumption | omega)
theorem Ek.mk {K T:Ac} {o:Nat} {x:Ex} {q:Nat} {e:TypeId} {li:Int} (hd: ∀b,K b=none->T b=none) (hT:T q=none) (hK:K q=some (.cells (dEx x) e)):
  Ek K [.int .u8 11, .int .u8 o, .int .i64 0, .str [], .oslice 9 q 0 1 1, .nilSlice, .int .i64 li, .int .i64 0, .int .i64 0] T (dEx (.mk 11 o 0 [] [x] [] li 0 0)):=by
 refine Ek.exD hd ?_ (.as0D hd);show Fc K _ _ (.vslice ([x].flatMap dEx) 1);rw[List.flatMap_singleton];exact Fc.cellsD hT hK (by rw[Ah]) (Ek.keepD hd _)
theorem Dx {B K:Ac} (h:Sub B K) {q:Nat} {o o':DObj} (hq:K q=some o): ∀b,K b=none->(upd B q (some o')) b=none:=fun b hb=>by
 simp only[upd];split
 ·rename_i e;rw[e,hq] at hb;cases hb
 ·exact h.lo hb
theorem FAt.drop {Hb:Ac} {x:Nat} {o:DObj} (h:FAt r l s Hb H') (e:Hb=upd H x (some o)) (hx:H x=none):FAt r l s H H':=by
 refine Sub.trans ?_ h;rw[e];exact((Sub.refl H).new hx _).both r _
set_option maxHeartbeats 8000000 in
theorem Bh6 (hl:l.length<=800000) (n:Nat) (hg: ∀m≤n,RfC Tryz.prog G l 60 r [] (P l m).term dE):RfC Tryz.prog G l 59 r [] (P l (n+1)).simple dE:=by
 intro H s hr hc;have eT: ∀k,(P l (n+1)).simple k=((P l n).term (opF l 0 k Fb).2).then fun x k'=>(P l n).addL (Kk (opF l 0 k Fb).1 (tk l k).line x) k':=fun _=>rfl
 refine Ad Tryz.func59 Tryz.call59 rfl (by kernel_rfl) ?_;simp(disch:=omega) only[go_sem,↓reduceIte];intro r2 hr2;dsimp only at hr2;obtain⟨Hb,hHb⟩: ∃K,K=upd H r2 (some (.cells [.int .u8 0, .int .u8 0, .int .i64 0, .str [], .nilSlice, .nilSlice, .int .i64 0, .int .i64 0, .int .i64 0] 27)):=⟨_,rfl⟩;rw[<-hHb];have gr2:Hb r2=some (.cells [.int .u8 0, .int .u8 0, .int .i64 0, .str [], .nilSlice, .nilSlice, .int .i64 0, .int .i64 0, .int .i64 0] 27):=by rw[hHb];exact Aa _ _ _
 have h2:=hr2;have n2:r≠r2:=Ae hr2 hr;have q2:=n2.symm;have hat:FAt r l s Hb Hb:=FAt.refl (by rw[hHb];exact Ag hr n2);simp(disch:=omega) only[go_sem,↓reduceIte];refine Ai.monoR (Hl G Hb hat.get (by omega)) ?_;simp(disch:=omega) only[go_sem,↓reduceIte];refine Ai.monoR (Dd6 G Hb hat.get (by omega) (hc.kb hl)) ?_;have hbr2:Hb r2=some (.cells [.int .u8 0, .int .u8 0, .int .i64 0, .str [], .nilSlice, .nilSlice, .int .i64 0, .int .i64 0, .int .i64 0] 27):=gr2;by_cases c:nxo l Fb s=0
 ·have c':(nxo l Fb s:Int)=0:=by omega
  have eT0:s.bad=false->(P l (n+1)).simple s.k=((P l n).term s.k).then fun x k=>(P l n).addL x k:=fun hb=>by
   have h1:(opF l 0 s.k Fb).1=0:=by rw[nxo,hb] at c;exact c
   have h2:=(Ca (want:=0) Dr5.2.2.1 (hc hb).1).1 h1;rw[eT,h1,h2];rfl
  simp(disch:=omega) only[go_sem,↓reduceIte,c'];refine(hg n (Nat.le_refl _) Hb s hat.get (Can.then1 (V:=fun x k=>(P l n).addL x k) (Can.eq eT0 hc))).mono ?_;rintro _ K1 ⟨x,s1,rfl,hK1,ha⟩;have hat1:FAt r l s1 Hb K1:=by rw[hK1];exact hat.set s1
  have hL:Left l (P l (n+1)).simple s ((P l n).addL x) s1:=Left.first eT0 hc ha fun hb=>(Bn n).term _ (hc hb).1
  clear ha;have hlx:=Ah x;have hox:=Al x;simp(disch:=omega) only[go_sem,↓reduceIte,dE];intro r5 hr5;dsimp only at hr5;have n5:r≠r5:=Ae hr5 hat1.get;have q5:=n5.symm;have hb5:Hb r5=none:=hat1.lo hr5;simp(disch:=omega) only[go_sem,↓reduceIte,hlx,hox,c'];obtain⟨K2,hK2⟩: ∃K2,K2=upd K1 r5 (some (.cells (dEx x) 27)):=⟨_,rfl⟩;rw[<-hK2];have hat2:FAt r l s1 Hb K2:=by rw[hK2];exact hat1.new hr5 _
  have g5:K2 r5=some (.cells (dEx x) 27):=by rw[hK2];exact Aa _ _ _
  clear hK2 hK1;refine Ai.monoR (Ax2 G K2 hat2.get (by omega) (hL.can.kb hl)) ?_;obtain⟨s0,hs0⟩: ∃s0,s0=s:=⟨_,rfl⟩;rw[<-hs0] at hL⊢
  simp(disch:=omega) only[go_sem,↓reduceIte];obtain⟨I,hI⟩: ∃I:Nat×Ex×RS->(Nat->DVal)->Ac->Prop,∀i env heap,I i env heap↔(env 0= .optr r 0/\env 2= .optr r2 0/\env 5= .optr r5 0/\env 6= .int .u8 (nxo l Fj i.2.2)/\FAt r l i.2.2 Hb heap/\heap r5=some (.cells (dEx i.2.1) 27)/\i.1<=n/\Left l (P l (n+1)).simple s0 ((P l i.1).addL i.2.1) i.2.2):=⟨_,fun _ _ _=>Iff.rfl⟩;refine Bt4.runG I (fun i=>i.1) (n,x,s1) _ (Ni.refl _) ((hI _ _ _).2 ?_) ?_
  ·simp(disch:=omega) only[go_sem,↓reduceIte];(repeat' apply And.intro)<;>(try first | rfl | assumption | omega)
  ·rintro⟨m,x,s1⟩ E K hi;obtain⟨e0,e2,e5,e6,hat,g5,hm,hL⟩:=(hI _ _ _).1 hi;dsimp only at e6 hat g5 hm hL;have g2:K r2=some (.cells [.int .u8 0, .int .u8 0, .int .i64 0, .str [], .nilSlice, .nilSlice, .int .i64 0, .int .i64 0, .int .i64 0] 27):=hat _ _ (Ag gr2 q2);have hlx:=Ah x;have hox:=Al x;by_cases c:nxo l Fj s1=0
   ·have c':(nxo l Fj s1:Int)=0:=by omega
    simp(disch:=omega) only[go_sem,↓reduceIte,e0,e2,e5,e6,c',g2,g5,hlx,hox];refine Nu.sub ((FAt.drop hat hHb h2).own h2 q2 _) (.refl ⟨x,s1,rfl,rfl,hL.done fun hb=> ?_⟩);have c2:(opF l 0 s1.k Fj).1=0:=by rw[nxo,hb] at c;exact c
    cases m with
    | zero=>exact absurd rfl (hL.can hb).2
    | succ m=>show(if(opF l 0 s1.k Fj).1=0 then _ else _)=_;rw[if_pos c2]
   ·obtain⟨k,rfl⟩: ∃k,s1=⟨k,false⟩:=by
     rcases s1.cases with hb | h
     ·exact absurd (Nh hb) c
     ·exact h
    rw[Je] at c e6;have h1:=Ps Dr1.2.2.1 c;have hk:=hL.can.good.1;have h2:=(Ca (want:=0) (os:=Fj) Dr5.2.2.2.1 hk).2.2.1;rw[h1] at h2;obtain⟨m,rfl⟩: ∃m',m=m'+1:=by
     cases m with
     | zero=>exact absurd rfl hL.can.good.2
     | succ m=>exact⟨m,rfl⟩
    obtain⟨o,ho⟩: ∃o,o=(opF l 0 k Fj).1:=⟨_,rfl⟩;have eK:(P l (m+1)).addL x k=((P l m).term (k+1)).then fun y j=>(P l m).addL (both o x y) j:=by
     show(if(opF l 0 k Fj).1=0 then _ else((P l m).term (opF l 0 k Fj).2).then _)=_;rw[if_neg c,h1,ho]
    rw[<-ho] at c e6;have c': ¬(o:Int)=0:=by omega
    have hw:IntKind.i64.wrap ((k:Int)+1)=((k+1:Nat):Int):=by rw[IntKind.wrap_i64];omega
    have gr:=hat.get;unfold rfO at gr;simp(disch:=omega) only[go_sem,↓reduceIte,e0,e2,e5,e6,c',gr,hw];refine Aj (by kernel_rfl) (.take 0 (.take 1 (.take 2 (.go 3 [1] (.go 4 [] (.go 5 [] .done)))))) (by kernel_rfl) ?_;simp(disch:=omega) only[go_sem,↓reduceIte,e0,e2,e5,e6,g5,q5,n5,hlx,hox];obtain⟨K1,hK1⟩: ∃K1,K1=upd K r (some (rfO l ⟨k+1,false⟩)):=⟨_,rfl⟩;have hat1:FAt r l ⟨k+1,false⟩ Hb K1:=by rw[hK1];exact hat.set _
    have g15:K1 r5=some (.cells (dEx x) 27):=by rw[hK1];exact Ag g5 q5
    refine(hg m (by omega) _ ⟨k+1,false⟩ (Aa _ _ _) (hL.canT eK h2)).mono ?_;rintro _ K2 ⟨y,s2,rfl,hK2,ha⟩;change K2=upd (upd K r (some (rfO l ⟨k+1,false⟩))) r _ at hK2;rw[<-hK1] at hK2;have hat2:FAt r l s2 Hb K2:=by rw[hK2];exact hat1.set s2
    have g25:K2 r5=some (.cells (dEx x) 27):=by rw[hK2];exact Ag g15 q5
    have hL2:=hL.round eK h2 ha ((Bn m).term _ h2);simp(disch:=omega) only[go_sem,↓reduceIte,e0,e2,e5,e6,g25,hlx,hox,dE];refine⟨by rw[if_neg q5,g5],?_⟩;refine Ai.monoR (Mj G K2 o x y) ?_;have hly:=Ah (both o x y);have hoy:=Al (both o x y);simp(disch:=omega) only[go_sem,↓reduceIte,e0,e2,e5,e6,g25,hlx,hox,dE,hly,hoy];obtain⟨K3,hK3⟩: ∃K3,K3=upd K2 r5 (some (.cells (dEx (both o x y)) 27)):=⟨_,rfl⟩;rw[<-hK3];have hat3:FAt r l s2 Hb K3:=by rw[hK3];exact hat2.own hb5 q5 _
    have g35:K3 r5=some (.cells (dEx (both o x y)) 27):=by rw[hK3];exact Aa _ _ _
    refine Ai.monoR (Ax2 G K3 hat3.get (by omega) (hL2.can.kb hl)) ?_;simp(disch:=omega) only[go_sem,↓reduceIte,e0,e2,e5,e6];refine⟨(m,both o x y,s2),_,Ni.refl _,(hI _ _ _).2 ?_,by show m<m+1;omega⟩;simp(disch:=omega) only[go_sem,↓reduceIte,e0,e2,e5,e6];(repeat' apply And.intro)<;>(try first | rfl | assumption | omega)
 ·obtain⟨k,rfl⟩: ∃k,s=⟨k,false⟩:=by
   rcases s.cases with hb | h
   ·exact absurd (Nh hb) c
   ·exact h
  rw[Je] at c⊢
  have h1:=Ps Dr1.2.1 c;have hk:=hc.good.1;have h2':=(Ca (want:=0) (os:=Fb) Dr5.2.2.1 hk).2.2.1;rw[h1] at h2';obtain⟨o,ho⟩: ∃o,o=(opF l 0 k Fb).1:=⟨_,rfl⟩;have eK:(P l (n+1)).simple k=((P l n).term (k+1)).then fun x k'=>(P l n).addL (Kk o (tk l k).line x) k':=by rw[eT,h1,ho]
  rw[<-ho] at c⊢
  have c': ¬(o:Int)=0:=by omega
  have hw:IntKind.i64.wrap ((k:Int)+1)=((k+1:Nat):Int):=by rw[IntKind.wrap_i64];omega
  have gr:=hat.get;unfold rfO at gr;simp(disch:=omega) only[go_sem,↓reduceIte,c',gr,hw];obtain⟨K1,hK1⟩: ∃K1,K1=upd Hb r (some (rfO l ⟨k+1,false⟩)):=⟨_,rfl⟩;have hat1:FAt r l ⟨k+1,false⟩ Hb K1:=by rw[hK1];exact hat.set _
  have hL0:=Left.refl hc;refine(hg n (Nat.le_refl _) _ ⟨k+1,false⟩ (Aa _ _ _) (hL0.canT eK h2')).mono ?_;rintro _ K2 ⟨x,s1,rfl,hK2,ha⟩;change K2=upd (upd Hb r (some (rfO l ⟨k+1,false⟩))) r _ at hK2;rw[<-hK1] at hK2;have hat2:FAt r l s1 Hb K2:=by rw[hK2];exact hat1.set s1
  have hL:=hL0.round eK h2' ha ((Bn n).term _ h2');have hmo:Kk o (tk l k).line x= .mk 11 o 0 [] [x] [] (tk l k).line 0 0:=by rw[Kk,if_neg c]
  rw[hmo] at hL;have hlx:=Ah x;have hox:=Al x;simp(disch:=omega) only[go_sem,↓reduceIte,dE];intro r5 hr5;dsimp only at hr5;have n5:r≠r5:=Ae hr5 hat2.get;have q5:=n5.symm;have hb5:Hb r5=none:=hat2.lo hr5;simp(disch:=omega) only[go_sem,↓reduceIte,hlx,hox,c'];obtain⟨K3,hK3⟩: ∃K3,K3=upd K2 r5 (some (.cells (dEx x) 27)):=⟨_,rfl⟩;rw[<-hK3];have hat3:FAt r l s1 Hb K3:=by rw[hK3];exact hat2.new hr5 _
  have g35:K3 r5=some (.cells (dEx x) 27):=by rw[hK3];exact Aa _ _ _
  try simp(disch:=omega) only[go_sem,↓reduceIte,hlx,hox,c',g35]
  rw[Cy hlx];try simp(disch:=omega) only[go_sem,↓reduceIte]
  intro q hq;dsimp only at hq;have n5q:r5≠q:=Ae hq g35;have nq5:=n5q.symm;have nqr:q≠r:=(Ae hq hat3.get).symm;have hbq:Hb q=none:=hat3.lo hq;simp(disch:=omega) only[go_sem,↓reduceIte,g35,n5q,nq5];obtain⟨K4,hK4⟩: ∃K4,K4=upd (upd K3 q (some (.cells (dEx x) 27))) r5 (some (.cells [.int .u8 11, .int .u8 o, .int .i64 0, .str [], .oslice 9 q 0 1 1, .nilSlice, .int .i64 (tk l k).line, .int .i64 0, .int .i64 0] 27)):=⟨_,rfl⟩;rw[<-hK4];have hat4:FAt r l s1 Hb K4:=by rw[hK4];exact(hat3.new hq _).own hb5 q5 _
  have g45:K4 r5=some (.cells [.int .u8 11, .int .u8 o, .int .i64 0, .str [], .oslice 9 q 0 1 1, .nilSlice, .int .i64 (tk l k).line, .int .i64 0, .int .i64 0] 27):=by rw[hK4];exact Aa _ _ _
  have g4q:K4 q=some (.cells (dEx x) 27):=by rw[hK4];exact Ag (Aa _ _ _) nq5
  refine Ai.monoR (Ax2 G K4 hat4.get (by omega) (hL.can.kb hl)) ?_;obtain⟨s0,hs0⟩: ∃s0,s0=(⟨k,false⟩:RS):=⟨_,rfl⟩;rw[<-hs0] at hL⊢
  have hs:=Ek.mk (o:=o) (li:=(tk l k).line) (T:=upd (upd Hb r (some (rfO l s1))) r5 (some (.cells (dEx (.mk 11 o 0 [] [x] [] (tk l k).line 0 0)) 27))) (Dx hat4 g45) (by simp only[upd,if_neg nq5,if_neg nqr];exact hbq) g4q;have hat5:FAt r l s1 Hb (upd (upd Hb r (some (rfO l s1))) r5 (some (.cells (dEx (.mk 11 o 0 [] [x] [] (tk l k).line 0 0)) 27))):=Sub.up (Sub.refl _) (by simp only[upd,if_neg q5];exact hb5) _;have g55:(upd (upd Hb r (some (rfO l s1))) r5 (some (.cells (dEx (.mk 11 o 0 [] [x] [] (tk l k).line 0 0)) 27))) r5=some (.cells (dEx (.mk 11 o 0 [] [x] [] (tk l k).line 0 0)) 27):=Aa _ _ _;simp(disch:=omega) only[go_sem,↓reduceIte];obtain⟨I,hI⟩: ∃I:Nat×Ex×RS->(Nat->DVal)->Ac->Prop,∀i env heap,I i env heap↔(env 0= .optr r 0/\env 2= .optr r2 0/\env 5= .optr r5 0/\env 6= .int .u8 (nxo l Fj i.2.2)/\FAt r l i.2.2 Hb heap/\heap r5=some (.cells (dEx i.2.1) 27)/\i.1<=n/\Left l (P l (n+1)).simple s0 ((P l i.1).addL i.2.1) i.2.2):=⟨_,fun _ _ _=>Iff.rfl⟩;refine Bt4.runG I (fun i=>i.1) (n, .mk 11 o 0 [] [x] [] (tk l k).line 0 0,s1) _ (Ni.cell g45 hat4 hs) ((hI _ _ _).2 ?_) ?_
  ·simp(disch:=omega) only[go_sem,↓reduceIte];(repeat' apply And.intro)<;>(try first | rfl | assumption | omega)
  ·rintro⟨m,x,s1⟩ E K hi;obtain⟨e0,e2,e5,e6,hat,g5,hm,hL⟩:=(hI _ _ _).1 hi;dsimp only at e6 hat g5 hm hL;have g2:K r2=some (.cells [.int .u8 0, .int .u8 0, .int .i64 0, .str [], .nilSlice, .nilSlice, .int .i64 0, .int .i64 0, .int .i64 0] 27):=hat _ _ (Ag gr2 q2);have hlx:=Ah x;have hox:=Al x;by_cases c:nxo l Fj s1=0
   ·have c':(nxo l Fj s1:Int)=0:=by omega
    simp(disch:=omega) only[go_sem,↓reduceIte,e0,e2,e5,e6,c',g2,g5,hlx,hox];refine Nu.sub ((FAt.drop hat hHb h2).own h2 q2 _) (.refl ⟨x,s1,rfl,rfl,hL.done fun hb=> ?_⟩);have c2:(opF l 0 s1.k Fj).1=0:=by rw[nxo,hb] at c;exact c
    cases m with
    | zero=>exact absurd rfl (hL.can hb).2
    | succ m=>show(if(opF l 0 s1.k Fj).1=0 then _ else _)=_;rw[if_pos c2]
   ·obtain⟨k,rfl⟩: ∃k,s1=⟨k,false⟩:=by
     rcases s1.cases with hb | h
     ·exact absurd (Nh hb) c
     ·exact h
    rw[Je] at c e6;have h1:=Ps Dr1.2.2.1 c;have hk:=hL.can.good.1;have h2:=(Ca (want:=0) (os:=Fj) Dr5.2.2.2.1 hk).2.2.1;rw[h1] at h2;obtain⟨m,rfl⟩: ∃m',m=m'+1:=by
     cases m with
     | zero=>exact absurd rfl hL.can.good.2
     | succ m=>exact⟨m,rfl⟩
    obtain⟨o,ho⟩: ∃o,o=(opF l 0 k Fj).1:=⟨_,rfl⟩;have eK:(P l (m+1)).addL x k=((P l m).term (k+1)).then fun y j=>(P l m).addL (both o x y) j:=by
     show(if(opF l 0 k Fj).1=0 then _ else((P l m).term (opF l 0 k Fj).2).then _)=_;rw[if_neg c,h1,ho]
    rw[<-ho] at c e6;have c': ¬(o:Int)=0:=by omega
    have hw:IntKind.i64.wrap ((k:Int)+1)=((k+1:Nat):Int):=by rw[IntKind.wrap_i64];omega
    have gr:=hat.get;unfold rfO at gr;simp(disch:=omega) only[go_sem,↓reduceIte,e0,e2,e5,e6,c',gr,hw];refine Aj (by kernel_rfl) (.take 0 (.take 1 (.take 2 (.go 3 [1] (.go 4 [] (.go 5 [] .done)))))) (by kernel_rfl) ?_;simp(disch:=omega) only[go_sem,↓reduceIte,e0,e2,e5,e6,g5,q5,n5,hlx,hox];obtain⟨K1,hK1⟩: ∃K1,K1=upd K r (some (rfO l ⟨k+1,false⟩)):=⟨_,rfl⟩;have hat1:FAt r l ⟨k+1,false⟩ Hb K1:=by rw[hK1];exact hat.set _
    have g15:K1 r5=some (.cells (dEx x) 27):=by rw[hK1];exact Ag g5 q5
    refine(hg m (by omega) _ ⟨k+1,false⟩ (Aa _ _ _) (hL.canT eK h2)).mono ?_;rintro _ K2 ⟨y,s2,rfl,hK2,ha⟩;change K2=upd (upd K r (some (rfO l ⟨k+1,false⟩))) r _ at hK2;rw[<-hK1] at hK2;have hat2:FAt r l s2 Hb K2:=by rw[hK2];exact hat1.set s2
    have g25:K2 r5=some (.cells (dEx x) 27):=by rw[hK2];exact Ag g15 q5
    have hL2:=hL.round eK h2 ha ((Bn m).term _ h2);simp(disch:=omega) only[go_sem,↓reduceIte,e0,e2,e5,e6,g25,hlx,hox,dE];refine⟨by rw[if_neg q5,g5],?_⟩;refine Ai.monoR (Mj G K2 o x y) ?_;have hly:=Ah (both o x y);have hoy:=Al (both o x y);simp(disch:=omega) only[go_sem,↓reduceIte,e0,e2,e5,e6,g25,hlx,hox,dE,hly,hoy];obtain⟨K3,hK3⟩: ∃K3,K3=upd K2 r5 (some (.cells (dEx (both o x y)) 27)):=⟨_,rfl⟩;rw[<-hK3];have hat3:FAt r l s2 Hb K3:=by rw[hK3];exact hat2.own hb5 q5 _
    have g35:K3 r5=some (.cells (dEx (both o x y)) 27):=by rw[hK3];exact Aa _ _ _
    refine Ai.monoR (Ax2 G K3 hat3.get (by omega) (hL2.can.kb hl)) ?_;simp(disch:=omega) only[go_sem,↓reduceIte,e0,e2,e5,e6];refine⟨(m,both o x y,s2),_,Ni.refl _,(hI _ _ _).2 ?_,by show m<m+1;omega⟩;simp(disch:=omega) only[go_sem,↓reduceIte,e0,e2,e5,e6];(repeat' apply And.intro)<;>(try first | rfl | assumption | omega)
end
end Go.Dl

-- Chapter 3: the reference's reader: relations, expressions.
namespace Go.Dl
open Go Go.Proofs
set_option maxRecDepth 100000
section
variable {G:Nat->DVal} {H0 H H':Ac} {r k:Nat} {l:List Tok} {s s':RS}
theorem Fx {w:List UInt8} (h:(!s.bad&&isW l s.k [w])=false):Al6 l w s=s:=by rw[Al6,h];rfl
theorem Ew {w:List UInt8} (h:isW l k [w]=true):Al6 l w ⟨k,false⟩=⟨k+1,false⟩:=by rw[Al6];simp [h]
theorem Ey {w:List (List UInt8)} (h:(!s.bad&&isW l s.k w)=true): ∃k,s=⟨k,false⟩/\isW l k w=true:=by
 obtain⟨k,b⟩:=s;simp only[Bool.and_eq_true,Bool.not_eq_true'] at h;obtain⟨rfl,h⟩:=h;exact⟨k,rfl,h⟩
theorem Dp {w:List (List UInt8)} (h:(!s.bad&&isW l s.k w)=false) (hb:s.bad=false):isW l s.k w=false:=by rw[hb] at h;simpa using h
set_option maxHeartbeats 8000000 in
theorem Aj5 (hl:l.length<=800000) (p:PS) (hA:p.Adv l) (hp:RfC Tryz.prog G l 59 r [] p.simple dE) (x:Ex):RfC Tryz.prog G l 58 r [.agg (dEx x)] ((Ba l p).relation x) dE:=by
 intro H s hr hc;have eT: ∀k,(Ba l p).relation x k=if(opF l 0 k Gx).1≠0 then(p.simple (opF l 0 k Gx).2).then fun y j=> .ok (both (opF l 0 k Gx).1 x y) j else if isW l k [wIn] then inK l x 13 (k+1) p else if isW l k [Rt,wIn] then inK l x 14 (k+2) p else .ok x k:=fun _=>rfl
 have hlx:=Ah x;have hox:=Al x;have hla:(dEx x)[6]? =some (dI x.line):=by cases x;rfl
 refine Ad Tryz.func58 Tryz.call58 rfl (by kernel_rfl) ?_;simp(disch:=omega) only[go_sem,↓reduceIte,DVal.cells];intro r3 hr3;dsimp only at hr3;obtain⟨K3,hK3⟩: ∃K,K=upd H r3 (some (.cells (dEx x) 27)):=⟨_,rfl⟩;rw[<-hK3];have gr3:K3 r3=some (.cells (dEx x) 27):=by rw[hK3];exact Aa _ _ _
 have n3:r≠r3:=Ae hr3 hr;have q3:=n3.symm;simp(disch:=omega) only[go_sem,↓reduceIte,DVal.cells];intro r4 hr4;dsimp only at hr4;obtain⟨K,hK⟩: ∃K,K=upd K3 r4 (some (.cells [.int .u8 0, .int .u8 0, .int .i64 0, .str [], .nilSlice, .nilSlice, .int .i64 0, .int .i64 0, .int .i64 0] 27)):=⟨_,rfl⟩;rw[<-hK];have gr4:K r4=some (.cells [.int .u8 0, .int .u8 0, .int .i64 0, .str [], .nilSlice, .nilSlice, .int .i64 0, .int .i64 0, .int .i64 0] 27):=by rw[hK];exact Aa _ _ _
 have hat3:FAt r l s H K3:=by rw[hK3];exact(FAt.refl hr).new hr3 _
 have n4:r≠r4:=Ae hr4 hat3.get;have q4:=n4.symm;have m3:r3≠r4:=Ae hr4 gr3;have m4:=m3.symm;have h03:H r3=none:=hr3;have h04:H r4=none:=hat3.lo hr4;have hat:FAt r l s H K:=by rw[hK];exact hat3.new hr4 _
 have g3:K r3=some (.cells (dEx x) 27):=by rw[hK];exact Ag gr3 m3
 simp(disch:=omega) only[go_sem,↓reduceIte];refine Ai.monoR (Dm4 G K hat.get (by omega) (hc.kb hl)) ?_;by_cases c:nxo l Gx s=0
 ·have c':(nxo l Gx s:Int)=0:=by omega
  have eO:s.bad=false->(opF l 0 s.k Gx).1=0:=fun hb=>by rw[nxo,hb] at c;exact c
  simp(disch:=omega) only[go_sem,↓reduceIte,c'];refine Ai.monoR (Dh G K 0 2 wIn hat.get (by omega) (hc.kb hl) (by decide) (by decide)) ?_;rw[Nat.add_zero,Mh (show Ea wIn=2 by decide+kernel)];cases b1:(!s.bad&&isW l s.k [wIn]) with
  | true=>
   obtain⟨k,rfl,hw⟩:=Ey b1;have hk4:=Am hw hc.good.1;rw[List.length_singleton] at hk4;have eK:(Ba l p).relation x k=inK l x 13 (k+1) p:=by rw[eT,if_neg (by rw[eO rfl];simp),if_pos hw]
   have eA: ∀ {v s'},Aft (fun k=>inK l x 13 k p) ⟨k+1,false⟩ v s'->Aft ((Ba l p).relation x) ⟨k,false⟩ v s':=fun h=>Aft.at eK h;have hwr:IntKind.i64.wrap ((k:Int)+1)=((k+1:Nat):Int):=by rw[IntKind.wrap_i64];omega
   have gr:=hat.get;unfold rfO at gr;simp(disch:=omega) only[go_sem,↓reduceIte,gr,hwr];obtain⟨K4,hK4⟩: ∃K4,K4=upd K r (some (rfO l ⟨k+1,false⟩)):=⟨_,rfl⟩;have hat4:FAt r l ⟨k+1,false⟩ H K4:=by rw[hK4];exact hat.set _
   have g43:K4 r3=some (.cells (dEx x) 27):=by rw[hK4];exact Ag g3 q3
   have g44:K4 r4=some (.cells [.int .u8 0, .int .u8 0, .int .i64 0, .str [], .nilSlice, .nilSlice, .int .i64 0, .int .i64 0, .int .i64 0] 27):=by rw[hK4];exact Ag gr4 q4
   have hc4:Can l (fun k=>inK l x 13 k p) ⟨k+1,false⟩:=Can.at eK hk4 hc;refine(hp _ ⟨k+1,false⟩ (Aa _ _ _) (Can.then1 hc4)).mono ?_;rintro _ K5 ⟨y,s1,rfl,hK5,ha⟩;change K5=upd (upd K r (some (rfO l ⟨k+1,false⟩))) r _ at hK5;rw[<-hK4] at hK5;have hat5:FAt r l s1 H K5:=by rw[hK5];exact hat4.set s1
   have g53:K5 r3=some (.cells (dEx x) 27):=by rw[hK5];exact Ag g43 q3
   have g54:K5 r4=some (.cells [.int .u8 0, .int .u8 0, .int .i64 0, .str [], .nilSlice, .nilSlice, .int .i64 0, .int .i64 0, .int .i64 0] 27):=by rw[hK5];exact Ag g44 q4
   have hc5:=Can.then2 hc4 ha fun _=>hA.simple _ hk4;clear hK5 hK4;have hly:=Ah y;have hoy:=Al y;simp(disch:=omega) only[go_sem,↓reduceIte,dE];intro r7 hr7;dsimp only at hr7;have n7:r≠r7:=Ae hr7 hat5.get;have q7:=n7.symm;have n37:r3≠r7:=Ae hr7 g53;have n47:r4≠r7:=Ae hr7 g54;simp(disch:=omega) only[go_sem,↓reduceIte,hly,hoy];obtain⟨K6,hK6⟩: ∃K6,K6=upd K5 r7 (some (.cells (dEx y) 27)):=⟨_,rfl⟩;rw[<-hK6];have hat6:FAt r l s1 H K6:=by rw[hK6];exact hat5.new hr7 _
   have g63:K6 r3=some (.cells (dEx x) 27):=by rw[hK6];exact Ag g53 n37
   have g64:K6 r4=some (.cells [.int .u8 0, .int .u8 0, .int .i64 0, .str [], .nilSlice, .nilSlice, .int .i64 0, .int .i64 0, .int .i64 0] 27):=by rw[hK6];exact Ag g54 n47
   have g67:K6 r7=some (.cells (dEx y) 27):=by rw[hK6];exact Aa _ _ _
   try simp(disch:=omega) only[go_sem,↓reduceIte,n37,g53,g63,g67]
   rw[Gk hlx hly];try simp(disch:=omega) only[go_sem,↓reduceIte]
   intro r53 hr53;dsimp only at hr53;have hxy: [x,y].flatMap dEx=dEx x++dEx y:=by simp
   obtain⟨K7,hK7⟩: ∃K7,K7=upd K6 r53 (some (.cells (dEx x++dEx y) 27)):=⟨_,rfl⟩;rw[<-hK7];have hv7:Dj K6 27 9 2 ([x,y].flatMap dEx) (.oslice 9 r53 0 2 2) K7:=by
    rw[hxy];exact .inr ⟨r53,hr53,by rw[List.length_append,hlx,hly],rfl,by rw[hK7];exact Aa _ _ _,by rw[hK7];exact(Sub.refl _).new hr53 _⟩
   have hat7:FAt r l s1 H K7:=hat6.more hv7.sub;simp(disch:=omega) only[go_sem,↓reduceIte];refine Ai.monoR (Ef G K7 Dz (by decide+kernel) hat7.get (by omega) (hc5.kb hl)) ?_;cases b3:(!s1.bad&&isW l s1.k [Dz]) with
   | true=>
    obtain⟨k5,rfl,hw5⟩:=Ey b3;rw[Ew hw5];have hk5:=Am hw5 hc5.good.1;rw[List.length_singleton] at hk5;have hV:Can l (fun k=>(p.simple k).then fun z k=>Res.ok (Ex.mk 13 0 0 [] [x,y,z] [] x.line 0 0) k) ⟨k5+1,false⟩:=Can.at (by rw[hw5];rfl) hk5 hc5;have hv8:=hv7.at hat6.get (some (rfO l ⟨k5+1,false⟩));simp(disch:=omega) only[go_sem,↓reduceIte];refine(hp _ ⟨k5+1,false⟩ (Aa _ _ _) (Can.then1 hV)).mono ?_;rintro _ K9 ⟨z,s2,rfl,hK9,ha2⟩;have hv9:=hv8.at (Aa _ _ _) (some (rfO l s2));rw[<-hK9,Da] at hv9;have hlz:=Ah z;simp(disch:=omega) only[go_sem,↓reduceIte,dE];rw[Cy hlz];try simp(disch:=omega) only[go_sem,↓reduceIte]
    intro r59 hr59;dsimp only at hr59;have g953:K9 r53=some (.cells (dEx x++dEx y) 27):=by
     rcases hv9 with⟨h,_⟩ | ⟨q,_,_,e,h,_⟩
     ·cases h
     ·cases e;rw[<-hxy];exact h
    have n5359:r53≠r59:=Ae hr59 g953;simp(disch:=omega) only[go_sem,↓reduceIte];rw[if_neg n5359,g953,<-hxy];refine Dj.appendO (m:=1) (hv9.new hr59 _) hlz (by omega) fun v2 K10 hv10=> ?_;have e3: [x,y].flatMap dEx++dEx z= [x,y,z].flatMap dEx:=by simp
    rw[e3] at hv10;have b3':(upd K6 r (some (rfO l s2))) r3=some (.cells (dEx x) 27):=Ag g63 q3;have b4':(upd K6 r (some (rfO l s2))) r4=some (.cells [.int .u8 0, .int .u8 0, .int .i64 0, .str [], .nilSlice, .nilSlice, .int .i64 0, .int .i64 0, .int .i64 0] 27):=Ag g64 q4;have g103:=hv10.keep b3';have g104:=hv10.keep b4';obtain⟨hc1,hc2⟩:=hv10.cell1;have hvf:=fun yy=>hv10.set (hat6.set s2) (x:=r4) (by simp only[upd,if_neg q4];exact h04) b4' yy;simp(disch:=omega) only[go_sem,↓reduceIte,g103,g104,hc1,hc2,hla];refine Fc.fin (hvf _).sub (Fc.agg (Fc.ex (l:= [x,y,z]) (hvf _).sub (Fc.own (hvf _)) (.as0 (hvf _).sub))) ⟨_,s2,rfl,rfl,eA ?_⟩;exact ha.then (Aft.at (U:=fun k=>(p.simple k).then fun z k=>Res.ok (Ex.mk 13 0 0 [] [x,y,z] [] x.line 0 0) k) (by rw[hw5];rfl) (ha2.then .pure))
   | false=>
    rw[Fx b3,Be hat7.get];have g73:K7 r3=some (.cells (dEx x) 27):=hv7.keep g63;have g74:K7 r4=some (.cells [.int .u8 0, .int .u8 0, .int .i64 0, .str [], .nilSlice, .nilSlice, .int .i64 0, .int .i64 0, .int .i64 0] 27):=hv7.keep g64;have g77:=hv7.keep g67;simp(disch:=omega) only[go_sem,↓reduceIte,g77,hly,hoy];refine Ai.monoR (Km G K7 y) ?_;cases b4:Bc y with
    | true=>
     have hvf:=fun yy=>hv7.set hat6 (x:=r4) (by simp only[upd,if_neg q4];exact h04) g64 yy;simp(disch:=omega) only[go_sem,↓reduceIte,g73,g74,hla];refine Fc.fin (hvf _).sub (Fc.agg (Fc.ex (l:= [x,y]) (hvf _).sub (Fc.own (hvf _)) (.as0 (hvf _).sub))) ⟨_,s1,rfl,rfl,eA ?_⟩;refine ha.then (Aft.eq (fun hb=> ?_) .pure)
     rw[Dp b3 hb,b4];rfl
    | false=>
     have gr7:=hat7.get;unfold rfO at gr7;have hv8:=hv7.at hat6.get (some (rfO l ⟨s1.k,true⟩));have hvf:=fun yy=>hv8.set (hat6.set ⟨s1.k,true⟩) (x:=r4) (by simp only[upd,if_neg q4];exact h04) (Ag g64 q4) yy;simp(disch:=omega) only[go_sem,↓reduceIte,g73,g74,hla,gr7,n3,n4,q3,q4];refine Fc.fin (hvf _).sub (Fc.agg (Fc.ex (l:= [x,y]) (hvf _).sub (Fc.own (hvf _)) (.as0 (hvf _).sub))) ⟨_,⟨s1.k,true⟩,rfl,rfl,eA ?_⟩;refine ha.then (Aft.eq (fun hb=> ?_) .fail)
     rw[Dp b3 hb,b4];rfl
  | false=>
   simp(disch:=omega) only[go_sem,↓reduceIte];refine Ai.monoR (Dh G K 0 2 Rt hat.get (by omega) (hc.kb hl) (by decide) (by decide)) ?_;rw[Nat.add_zero,Mh (show Ea Rt=2 by decide+kernel)];cases b2:(!s.bad&&isW l s.k [Rt]) with
   | true=>
    simp(disch:=omega) only[go_sem,↓reduceIte];refine Ai.monoR (Dh G K 1 2 wIn hat.get (by omega) (hc.kb hl) (by decide) (by decide)) ?_;rw[Mh (show Ea wIn=2 by decide+kernel)];obtain⟨k,rfl,hw⟩:=Ey b2;dsimp only at b1⊢
    cases b5:isW l (k+1) [wIn] with
    | true=>
     have hw2:isW l k [Rt,wIn]=true:=by rw[Ai3,hw,b5];rfl
     have hk4:=Am hw2 hc.good.1;have hk4:k+2<=l.length:=hk4;have eK:(Ba l p).relation x k=inK l x 14 (k+2) p:=by rw[eT,if_neg (by rw[eO rfl];simp),Dp (s:=⟨k,false⟩) b1 rfl,if_neg (by simp),if_pos hw2]
     have eA: ∀ {v s'},Aft (fun k=>inK l x 14 k p) ⟨k+2,false⟩ v s'->Aft ((Ba l p).relation x) ⟨k,false⟩ v s':=fun h=>Aft.at eK h;have hwr:IntKind.i64.wrap ((k:Int)+2)=((k+2:Nat):Int):=by rw[IntKind.wrap_i64];omega
     have gr:=hat.get;unfold rfO at gr;simp(disch:=omega) only[go_sem,↓reduceIte,gr,hwr,b5];obtain⟨K4,hK4⟩: ∃K4,K4=upd K r (some (rfO l ⟨k+2,false⟩)):=⟨_,rfl⟩;have hat4:FAt r l ⟨k+2,false⟩ H K4:=by rw[hK4];exact hat.set _
     have g43:K4 r3=some (.cells (dEx x) 27):=by rw[hK4];exact Ag g3 q3
     have g44:K4 r4=some (.cells [.int .u8 0, .int .u8 0, .int .i64 0, .str [], .nilSlice, .nilSlice, .int .i64 0, .int .i64 0, .int .i64 0] 27):=by rw[hK4];exact Ag gr4 q4
     have hc4:Can l (fun k=>inK l x 14 k p) ⟨k+2,false⟩:=Can.at eK hk4 hc;refine(hp _ ⟨k+2,false⟩ (Aa _ _ _) (Can.then1 hc4)).mono ?_;rintro _ K5 ⟨y,s1,rfl,hK5,ha⟩;change K5=upd (upd K r (some (rfO l ⟨k+2,false⟩))) r _ at hK5;rw[<-hK4] at hK5;have hat5:FAt r l s1 H K5:=by rw[hK5];exact hat4.set s1
     have g53:K5 r3=some (.cells (dEx x) 27):=by rw[hK5];exact Ag g43 q3
     have g54:K5 r4=some (.cells [.int .u8 0, .int .u8 0, .int .i64 0, .str [], .nilSlice, .nilSlice, .int .i64 0, .int .i64 0, .int .i64 0] 27):=by rw[hK5];exact Ag g44 q4
     have hc5:=Can.then2 hc4 ha fun _=>hA.simple _ hk4;clear hK5 hK4;have hly:=Ah y;have hoy:=Al y;simp(disch:=omega) only[go_sem,↓reduceIte,dE];intro r7 hr7;dsimp only at hr7;have n7:r≠r7:=Ae hr7 hat5.get;have q7:=n7.symm;have n37:r3≠r7:=Ae hr7 g53;have n47:r4≠r7:=Ae hr7 g54;simp(disch:=omega) only[go_sem,↓reduceIte,hly,hoy];obtain⟨K6,hK6⟩: ∃K6,K6=upd K5 r7 (some (.cells (dEx y) 27)):=⟨_,rfl⟩;rw[<-hK6];have hat6:FAt r l s1 H K6:=by rw[hK6];exact hat5.new hr7 _
     have g63:K6 r3=some (.cells (dEx x) 27):=by rw[hK6];exact Ag g53 n37
     have g64:K6 r4=some (.cells [.int .u8 0, .int .u8 0, .int .i64 0, .str [], .nilSlice, .nilSlice, .int .i64 0, .int .i64 0, .int .i64 0] 27):=by rw[hK6];exact Ag g54 n47
     have g67:K6 r7=some (.cells (dEx y) 27):=by rw[hK6];exact Aa _ _ _
     try simp(disch:=omega) only[go_sem,↓reduceIte,n37,g53,g63,g67]
     rw[Gk hlx hly];try simp(disch:=omega) only[go_sem,↓reduceIte]
     intro r53 hr53;dsimp only at hr53;have hxy: [x,y].flatMap dEx=dEx x++dEx y:=by simp
     obtain⟨K7,hK7⟩: ∃K7,K7=upd K6 r53 (some (.cells (dEx x++dEx y) 27)):=⟨_,rfl⟩;rw[<-hK7];have hv7:Dj K6 27 9 2 ([x,y].flatMap dEx) (.oslice 9 r53 0 2 2) K7:=by
      rw[hxy];exact .inr ⟨r53,hr53,by rw[List.length_append,hlx,hly],rfl,by rw[hK7];exact Aa _ _ _,by rw[hK7];exact(Sub.refl _).new hr53 _⟩
     have hat7:FAt r l s1 H K7:=hat6.more hv7.sub;simp(disch:=omega) only[go_sem,↓reduceIte];refine Ai.monoR (Ef G K7 Dz (by decide+kernel) hat7.get (by omega) (hc5.kb hl)) ?_;cases b3:(!s1.bad&&isW l s1.k [Dz]) with
     | true=>
      obtain⟨k5,rfl,hw5⟩:=Ey b3;rw[Ew hw5];have hk5:=Am hw5 hc5.good.1;rw[List.length_singleton] at hk5;have hV:Can l (fun k=>(p.simple k).then fun z k=>Res.ok (Ex.mk 14 0 0 [] [x,y,z] [] x.line 0 0) k) ⟨k5+1,false⟩:=Can.at (by rw[hw5];rfl) hk5 hc5;have hv8:=hv7.at hat6.get (some (rfO l ⟨k5+1,false⟩));simp(disch:=omega) only[go_sem,↓reduceIte];refine(hp _ ⟨k5+1,false⟩ (Aa _ _ _) (Can.then1 hV)).mono ?_;rintro _ K9 ⟨z,s2,rfl,hK9,ha2⟩;have hv9:=hv8.at (Aa _ _ _) (some (rfO l s2));rw[<-hK9,Da] at hv9;have hlz:=Ah z;simp(disch:=omega) only[go_sem,↓reduceIte,dE];rw[Cy hlz];try simp(disch:=omega) only[go_sem,↓reduceIte]
      intro r59 hr59;dsimp only at hr59;have g953:K9 r53=some (.cells (dEx x++dEx y) 27):=by
       rcases hv9 with⟨h,_⟩ | ⟨q,_,_,e,h,_⟩
       ·cases h
       ·cases e;rw[<-hxy];exact h
      have n5359:r53≠r59:=Ae hr59 g953;simp(disch:=omega) only[go_sem,↓reduceIte];rw[if_neg n5359,g953,<-hxy];refine Dj.appendO (m:=1) (hv9.new hr59 _) hlz (by omega) fun v2 K10 hv10=> ?_;have e3: [x,y].flatMap dEx++dEx z= [x,y,z].flatMap dEx:=by simp
      rw[e3] at hv10;have b3':(upd K6 r (some (rfO l s2))) r3=some (.cells (dEx x) 27):=Ag g63 q3;have b4':(upd K6 r (some (rfO l s2))) r4=some (.cells [.int .u8 0, .int .u8 0, .int .i64 0, .str [], .nilSlice, .nilSlice, .int .i64 0, .int .i64 0, .int .i64 0] 27):=Ag g64 q4;have g103:=hv10.keep b3';have g104:=hv10.keep b4';obtain⟨hc1,hc2⟩:=hv10.cell1;have hvf:=fun yy=>hv10.set (hat6.set s2) (x:=r4) (by simp only[upd,if_neg q4];exact h04) b4' yy;simp(disch:=omega) only[go_sem,↓reduceIte,g103,g104,hc1,hc2,hla];refine Fc.fin (hvf _).sub (Fc.agg (Fc.ex (l:= [x,y,z]) (hvf _).sub (Fc.own (hvf _)) (.as0 (hvf _).sub))) ⟨_,s2,rfl,rfl,eA ?_⟩;exact ha.then (Aft.at (U:=fun k=>(p.simple k).then fun z k=>Res.ok (Ex.mk 14 0 0 [] [x,y,z] [] x.line 0 0) k) (by rw[hw5];rfl) (ha2.then .pure))
     | false=>
      rw[Fx b3,Be hat7.get];have g73:K7 r3=some (.cells (dEx x) 27):=hv7.keep g63;have g74:K7 r4=some (.cells [.int .u8 0, .int .u8 0, .int .i64 0, .str [], .nilSlice, .nilSlice, .int .i64 0, .int .i64 0, .int .i64 0] 27):=hv7.keep g64;have g77:=hv7.keep g67;simp(disch:=omega) only[go_sem,↓reduceIte,g77,hly,hoy];refine Ai.monoR (Km G K7 y) ?_;cases b4:Bc y with
      | true=>
       have hvf:=fun yy=>hv7.set hat6 (x:=r4) (by simp only[upd,if_neg q4];exact h04) g64 yy;simp(disch:=omega) only[go_sem,↓reduceIte,g73,g74,hla];refine Fc.fin (hvf _).sub (Fc.agg (Fc.ex (l:= [x,y]) (hvf _).sub (Fc.own (hvf _)) (.as0 (hvf _).sub))) ⟨_,s1,rfl,rfl,eA ?_⟩;refine ha.then (Aft.eq (fun hb=> ?_) .pure)
       rw[Dp b3 hb,b4];rfl
      | false=>
       have gr7:=hat7.get;unfold rfO at gr7;have hv8:=hv7.at hat6.get (some (rfO l ⟨s1.k,true⟩));have hvf:=fun yy=>hv8.set (hat6.set ⟨s1.k,true⟩) (x:=r4) (by simp only[upd,if_neg q4];exact h04) (Ag g64 q4) yy;simp(disch:=omega) only[go_sem,↓reduceIte,g73,g74,hla,gr7,n3,n4,q3,q4];refine Fc.fin (hvf _).sub (Fc.agg (Fc.ex (l:= [x,y]) (hvf _).sub (Fc.own (hvf _)) (.as0 (hvf _).sub))) ⟨_,⟨s1.k,true⟩,rfl,rfl,eA ?_⟩;refine ha.then (Aft.eq (fun hb=> ?_) .fail)
       rw[Dp b3 hb,b4];rfl
    | false=>
     simp(disch:=omega) only[go_sem,↓reduceIte,g3,gr4,hlx,hox,m3,m4,b5];refine(hat.own h04 q4 _).fin ⟨x,_,rfl,rfl,Aft.eq (fun hb=> ?_) .pure⟩;show(Ba l p).relation x k=_;rw[eT,if_neg (by rw[eO rfl];simp),Dp (s:=⟨k,false⟩) b1 rfl,Ai3,hw,b5];rfl
   | false=>
    simp(disch:=omega) only[go_sem,↓reduceIte,g3,gr4,hlx,hox,m3,m4];refine(hat.own h04 q4 _).fin ⟨x,s,rfl,rfl,Aft.eq (fun hb=> ?_) .pure⟩;rw[eT,if_neg (by rw[eO hb];simp),Dp b1 hb,Ai3,Dp b2 hb];rfl
 ·obtain⟨k,rfl⟩: ∃k,s=⟨k,false⟩:=by
   rcases s.cases with hb | h
   ·exact absurd (Nh hb) c
   ·exact h
  rw[Je] at c⊢
  have h1:=Ps Dr1.1 c;have hk:=hc.good.1;have h2:=(Ca (want:=0) (os:=Gx) Dr5.2.1 hk).2.2.1;rw[h1] at h2;obtain⟨o,ho⟩: ∃o,o=(opF l 0 k Gx).1:=⟨_,rfl⟩;have eK:(Ba l p).relation x k=(p.simple (k+1)).then fun y k=> .ok (both o x y) k:=by rw[eT,if_pos c,h1,ho]
  rw[<-ho] at c⊢
  have c': ¬(o:Int)=0:=by omega
  have hw:IntKind.i64.wrap ((k:Int)+1)=((k+1:Nat):Int):=by rw[IntKind.wrap_i64];omega
  have gr:=hat.get;unfold rfO at gr;simp(disch:=omega) only[go_sem,↓reduceIte,c',gr,hw];refine Aj (by kernel_rfl) (.take 0 (.take 1 (.take 2 (.go 3 [1] (.go 4 [] (.go 5 [] .done)))))) (by kernel_rfl) ?_;simp(disch:=omega) only[go_sem,↓reduceIte,g3,q3,n3,hlx,hox];have hc1:Can l (fun k=>(p.simple k).then fun y k=> .ok (both o x y) k) ⟨k+1,false⟩:=Can.at eK h2 hc;refine(hp _ ⟨k+1,false⟩ (Aa _ _ _) (Can.then1 hc1)).mono ?_;rintro _ K2 ⟨y,s2,rfl,hK2,ha⟩;rw[Da] at hK2;have hat2:FAt r l s2 H K2:=by rw[hK2];exact hat.set s2
  have g23:K2 r3=some (.cells (dEx x) 27):=by rw[hK2];exact Ag g3 q3
  have g24:K2 r4=some (.cells [.int .u8 0, .int .u8 0, .int .i64 0, .str [], .nilSlice, .nilSlice, .int .i64 0, .int .i64 0, .int .i64 0] 27):=by rw[hK2];exact Ag gr4 q4
  simp(disch:=omega) only[go_sem,↓reduceIte,g23,hlx,hox,dE];refine⟨by rw[if_neg q3,g3],?_⟩;refine Ai.monoR (Mj G K2 o x y) ?_;have hly:=Ah (both o x y);have hoy:=Al (both o x y);simp(disch:=omega) only[go_sem,↓reduceIte,g23,g24,hlx,hox,dE,hly,hoy];exact(hat2.own h04 q4 _).fin ⟨_,s2,rfl,rfl,Aft.at eK (ha.then .pure)⟩
end
end Go.Dl

-- Chapter 3: the reference's reader: the rest of an expression.
namespace Go.Dl
open Go Go.Proofs
set_option maxRecDepth 100000
section
variable {G:Nat->DVal} {H0 H H':Ac} {r k:Nat} {l:List Tok} {s s':RS}
theorem Br9 (k o:Nat): ∀os:List Nat,o≠0->0∉os->(opF l o k os).1=if(opF l 0 k os).1=o then o else 0
 | [],h,_=>by rw[opF,opF];rw[if_neg];exact fun e=>h e.symm
 | p::os,h,h0=>by
  have h0':0∉os:=fun m=>h0 (List.mem_cons_of_mem _ m);rw[Oc,Oc];split
  ·rw[if_neg (show¬((0:Nat)≠0/\p≠0) by simp)];by_cases c:p=o
   ·subst c;rw[if_neg (by simp),if_pos rfl]
   ·rw[if_pos ⟨h,c⟩,if_neg c]
  ·exact Br9 k o os h h0'
theorem Ct8 (k o:Nat): ∀os:List Nat,(opF l 0 k os).1=o->o≠0->(opF l o k os).2=k+(Bp o).length
 | [],h,h0=>absurd h.symm h0
 | p::os,h,h0=>by
  rw[Oc] at h⊢
  split
  ·rename_i c
   rw[if_pos c,if_neg (by simp)] at h;dsimp only at h;subst h;rw[if_neg (by simp)]
  ·rename_i c
   rw[if_neg c] at h;exact Ct8 k o os h h0
set_option maxHeartbeats 8000000 in
theorem Ct9 (hl:l.length<=800000) (n:Nat) (hs: ∀m≤n,RfC Tryz.prog G l 59 r [] (P l m).simple dE) (hrl: ∀m≤n,∀x,RfC Tryz.prog G l 58 r [.agg (dEx x)] ((P l m).relation x) dE) (x:Ex):
  RfC Tryz.prog G l 101 r [.agg (dEx x)] ((P l (n+1)).rest x) dE:=by
 intro H s hr hc;have eT: ∀k,(P l (n+1)).rest x k=((P l n).relation x k).then fun x k=>(P l n).restL (opF l 0 k Ct).1 x k:=fun _=>rfl
 have hlx:=Ah x;have hox:=Al x;refine Ad Tryz.func101 Tryz.call101 rfl (by kernel_rfl) ?_;simp(disch:=omega) only[go_sem,↓reduceIte,DVal.cells];intro r3 hr3;dsimp only at hr3;obtain⟨K3,hK3⟩: ∃K,K=upd H r3 (some (.cells (dEx x) 27)):=⟨_,rfl⟩;rw[<-hK3];have gr3:K3 r3=some (.cells (dEx x) 27):=by rw[hK3];exact Aa _ _ _
 have n3:r≠r3:=Ae hr3 hr;have q3:=n3.symm;simp(disch:=omega) only[go_sem,↓reduceIte,DVal.cells];intro r4 hr4;dsimp only at hr4;obtain⟨K,hK⟩: ∃K,K=upd K3 r4 (some (.cells [.int .u8 0, .int .u8 0, .int .i64 0, .str [], .nilSlice, .nilSlice, .int .i64 0, .int .i64 0, .int .i64 0] 27)):=⟨_,rfl⟩;rw[<-hK];have gr4:K r4=some (.cells [.int .u8 0, .int .u8 0, .int .i64 0, .str [], .nilSlice, .nilSlice, .int .i64 0, .int .i64 0, .int .i64 0] 27):=by rw[hK];exact Aa _ _ _
 have hat3:FAt r l s H K3:=by rw[hK3];exact(FAt.refl hr).new hr3 _
 have n4:r≠r4:=Ae hr4 hat3.get;have q4:=n4.symm;have m3:r3≠r4:=Ae hr4 gr3;have m4:=m3.symm;have h03:H r3=none:=hr3;have h04:H r4=none:=hat3.lo hr4;have hat:FAt r l s H K:=by rw[hK];exact hat3.new hr4 _
 have g3:K r3=some (.cells (dEx x) 27):=by rw[hK];exact Ag gr3 m3
 simp(disch:=omega) only[go_sem,↓reduceIte,g3,hlx,hox];refine(hrl n (Nat.le_refl _) x K s hat.get (Can.then1 (V:=fun x k=>(P l n).restL (opF l 0 k Ct).1 x k) hc)).mono ?_;rintro _ K1 ⟨y,s1,rfl,hK1,ha⟩;have hat1:FAt r l s1 H K1:=by rw[hK1];exact hat.set s1
 have g13:K1 r3=some (.cells (dEx x) 27):=by rw[hK1];exact Ag g3 q3
 have g14:K1 r4=some (.cells [.int .u8 0, .int .u8 0, .int .i64 0, .str [], .nilSlice, .nilSlice, .int .i64 0, .int .i64 0, .int .i64 0] 27):=by rw[hK1];exact Ag gr4 q4
 have hL:Left l ((P l (n+1)).rest x) s (fun k=>(P l n).restL (opF l 0 k Ct).1 y k) s1:=Left.first (V:=fun x k=>(P l n).restL (opF l 0 k Ct).1 x k) (fun _=>eT _) hc ha fun hb=>(Bn n).relation _ _ (hc hb).1
 clear ha;have hly:=Ah y;have hoy:=Al y;simp(disch:=omega) only[go_sem,↓reduceIte,dE,g13,hly,hoy,hlx,hox];obtain⟨K2,hK2⟩: ∃K2,K2=upd K1 r3 (some (.cells (dEx y) 27)):=⟨_,rfl⟩;rw[<-hK2];have hat2:FAt r l s1 H K2:=by rw[hK2];exact hat1.own h03 q3 _
 have g23:K2 r3=some (.cells (dEx y) 27):=by rw[hK2];exact Aa _ _ _
 have g24:K2 r4=some (.cells [.int .u8 0, .int .u8 0, .int .i64 0, .str [], .nilSlice, .nilSlice, .int .i64 0, .int .i64 0, .int .i64 0] 27):=by rw[hK2];exact Ag g14 m4
 clear hK2 hK1;refine Ai.monoR (Ct6 G K2 hat2.get (by omega) (hL.can.kb hl)) ?_;obtain⟨O,hO⟩: ∃O,O=nxo l Ct s1:=⟨_,rfl⟩;rw[<-hO];have hL0:Left l ((P l (n+1)).rest x) s ((P l n).restL O y) s1:=by
  have eO:s1.bad=false->(P l n).restL (opF l 0 s1.k Ct).1 y s1.k=(P l n).restL O y s1.k:=fun hb=>by rw[hO,nxo,hb];rfl
  exact⟨fun x' s' h=>hL.go x' s' (Aft.eq eO h),Can.eq eO hL.can⟩
 have hO2:s1.bad=true->O=0:=fun hb=>by rw[hO,Nh hb]
 clear hL hO;simp(disch:=omega) only[go_sem,↓reduceIte];obtain⟨I,hI⟩: ∃I:Nat×Ex×RS->(Nat->DVal)->Ac->Prop,∀i env heap,I i env heap↔(env 0= .optr r 0/\env 3= .optr r3 0/\env 4= .optr r4 0/\env 5= .int .u8 O/\FAt r l i.2.2 H heap/\heap r4=some (.cells [.int .u8 0, .int .u8 0, .int .i64 0, .str [], .nilSlice, .nilSlice, .int .i64 0, .int .i64 0, .int .i64 0] 27)/\heap r3=some (.cells (dEx i.2.1) 27)/\i.1<=n/\Left l ((P l (n+1)).rest x) s ((P l i.1).restL O i.2.1) i.2.2):=⟨_,fun _ _ _=>Iff.rfl⟩;refine Bt4.run I (fun i=>i.1) (n,y,s1) ((hI _ _ _).2 ?_) ?_
 ·simp(disch:=omega) only[go_sem,↓reduceIte];(repeat' apply And.intro)<;>(try first | rfl | assumption | omega)
 ·rintro⟨m,y,s1⟩ E K hi;obtain⟨e0,e3,e4,e5,hat,g4,g3,hm,hL⟩:=(hI _ _ _).1 hi;dsimp only at hat g3 hm hL;have hly:=Ah y;have hoy:=Al y;by_cases c:O=0
  ·have c':(O:Int)=0:=by omega
   simp(disch:=omega) only[go_sem,↓reduceIte,e0,e3,e4,e5,c',g4,g3,hly,hoy,m3,m4];refine(hat.own h04 q4 _).fin ⟨y,s1,rfl,rfl,hL.done fun hb=> ?_⟩;cases m with
   | zero=>exact absurd rfl (hL.can hb).2
   | succ m=>show(if O=0 then _ else _)=_;rw[if_pos c]
  ·have c': ¬(O:Int)=0:=by omega
   simp(disch:=omega) only[go_sem,↓reduceIte,e0,e3,e4,e5,c'];refine Ai.monoR (Ct6 G K hat.get (by omega) (hL.can.kb hl)) ?_;by_cases c2:nxo l Ct s1=O
   ·have c2':(nxo l Ct s1:Int)=(O:Int):=by omega
    obtain⟨k,rfl⟩: ∃k,s1=⟨k,false⟩:=by
     rcases s1.cases with hb | h
     ·rw[Nh hb] at c2;exact absurd c2.symm c
     ·exact h
    rw[Je] at c2 c2';have hk:=hL.can.good.1;have hO17:O<18:=by
     have:=(Bw3 (l:=l) (k:=k) (os:=Ct) (want:=0) (by rw[c2];exact c)).1;rw[c2] at this;simp [Ct] at this;omega
    have hw1:(opF l O k Ct).1=O:=by rw[Br9 k O Ct c (by decide),if_pos c2]
    have hw2:=Ct8 k O Ct c2 c;have hadv:=(Ca (want:=O) (os:=Ct) Dr5.1 hk).2.2.1;rw[hw2] at hadv;obtain⟨m,rfl⟩: ∃m',m=m'+1:=by
     cases m with
     | zero=>exact absurd rfl hL.can.good.2
     | succ m=>exact⟨m,rfl⟩
    have eK:(P l (m+1)).restL O y k=((P l m).simple (k+(Bp O).length)).then fun z j=>((P l m).relation z j).then fun z j=>(P l m).restL O (both O y z) j:=by
     show(if O=0 then _ else if(opF l O k Ct).1=0 then _ else((P l m).simple (opF l O k Ct).2).then _)=_;rw[if_neg c,hw1,if_neg c,hw2]
    have hwl:=Ah4 O;have hw:IntKind.i64.wrap ((k:Int)+((Bp O).length:Int))=((k+(Bp O).length:Nat):Int):=by rw[IntKind.wrap_i64];omega
    have gr:=hat.get;unfold rfO at gr;rw[Je];simp(disch:=omega) only[go_sem,↓reduceIte,e0,e3,e4,e5,c2'];refine Aj (by kernel_rfl) (.take 0 (.take 1 (.take 2 (.take 3 (.take 4 (.take 5 (.go 6 [4] (.take 7 (.take 8 (.take 9 (.take 10 (.go 11 [] .done)))))))))))) (by kernel_rfl) ?_;simp(disch:=omega) only[go_sem,↓reduceIte,e0,e3,e4,e5,gr];refine Ai.monoR (Yu G K O (by omega)) ?_;simp(disch:=omega) only[go_sem,↓reduceIte,e0,e3,e4,e5,gr,dW,hw];obtain⟨j,hj⟩: ∃j,j=k+(Bp O).length:=⟨_,rfl⟩;rw[<-hj] at eK hadv⊢
    refine Aj (by kernel_rfl) (.take 0 (.take 1 (.take 2 (.take 3 (.go 4 [1] (.go 5 [1] (.go 6 [] (.go 7 [] .done)))))))) (by kernel_rfl) ?_;simp(disch:=omega) only[go_sem,↓reduceIte,e0,e3,e4,e5,g3,q3,n3,hly,hoy];obtain⟨K1,hK1⟩: ∃K1,K1=upd K r (some (rfO l ⟨j,false⟩)):=⟨_,rfl⟩;have hat1:FAt r l ⟨j,false⟩ H K1:=by rw[hK1];exact hat.set _
    have g14:K1 r4=some (.cells [.int .u8 0, .int .u8 0, .int .i64 0, .str [], .nilSlice, .nilSlice, .int .i64 0, .int .i64 0, .int .i64 0] 27):=by rw[hK1];exact Ag g4 q4
    have g13:K1 r3=some (.cells (dEx y) 27):=by rw[hK1];exact Ag g3 q3
    have hc1:Can l (fun k=>((P l m).simple k).then fun z j=>((P l m).relation z j).then fun z j=>(P l m).restL O (both O y z) j) ⟨j,false⟩:=Can.at eK hadv hL.can;refine(hs m (by omega) _ ⟨j,false⟩ (Aa _ _ _) (Can.then1 hc1)).mono ?_;rintro _ K2 ⟨z,s2,rfl,hK2,ha⟩;change K2=upd (upd K r (some (rfO l ⟨j,false⟩))) r _ at hK2;rw[<-hK1] at hK2;have hat2:FAt r l s2 H K2:=by rw[hK2];exact hat1.set s2
    have g24:K2 r4=some (.cells [.int .u8 0, .int .u8 0, .int .i64 0, .str [], .nilSlice, .nilSlice, .int .i64 0, .int .i64 0, .int .i64 0] 27):=by rw[hK2];exact Ag g14 q4
    have g23:K2 r3=some (.cells (dEx y) 27):=by rw[hK2];exact Ag g13 q3
    have hc2:=Can.then2 hc1 ha fun _=>(Bn m).simple _ hadv;have hlz:=Ah z;have hoz:=Al z;simp(disch:=omega) only[go_sem,↓reduceIte,e0,e3,e4,e5,dE,hlz,hoz];refine⟨by rw[if_neg q3,g23,g3],?_⟩;refine(hrl m (by omega) z K2 s2 hat2.get (Can.then1 hc2)).mono ?_;rintro _ K3' ⟨u,s3,rfl,hK3',ha2⟩;have hat3':FAt r l s3 H K3':=by rw[hK3'];exact hat2.set s3
    have g34:K3' r4=some (.cells [.int .u8 0, .int .u8 0, .int .i64 0, .str [], .nilSlice, .nilSlice, .int .i64 0, .int .i64 0, .int .i64 0] 27):=by rw[hK3'];exact Ag g24 q4
    have g33:K3' r3=some (.cells (dEx y) 27):=by rw[hK3'];exact Ag g23 q3
    have hL2:Left l ((P l (n+1)).rest x) s ((P l m).restL O (both O y u)) s3:=
     ⟨fun x' s' g=>hL.go x' s' (Aft.at (U:=fun k=>((P l m).simple k).then fun z j=>((P l m).relation z j).then fun z j=>(P l m).restL O (both O y z) j) eK (ha.then (Aft.then (V:=fun z j=>(P l m).restL O (both O y z) j) ha2 g))),Can.then2 (V:=fun z j=>(P l m).restL O (both O y z) j) hc2 ha2 fun hb=>(Bn m).relation _ _ (hc2 hb).1⟩
    simp(disch:=omega) only[go_sem,↓reduceIte,e0,e3,e4,e5,g33,hly,hoy,dE];refine⟨by rw[g23],?_⟩;refine Ai.monoR (Mj G K3' O y u) ?_;have hlu:=Ah (both O y u);have hou:=Al (both O y u);simp(disch:=omega) only[go_sem,↓reduceIte,e0,e3,e4,e5,g33,hly,hoy,dE,hlu,hou];obtain⟨K5,hK5⟩: ∃K5,K5=upd K3' r3 (some (.cells (dEx (both O y u)) 27)):=⟨_,rfl⟩;rw[<-hK5];have hat5:FAt r l s3 H K5:=by rw[hK5];exact hat3'.own h03 q3 _
    have g54:K5 r4=some (.cells [.int .u8 0, .int .u8 0, .int .i64 0, .str [], .nilSlice, .nilSlice, .int .i64 0, .int .i64 0, .int .i64 0] 27):=by rw[hK5];exact Ag g34 m4
    have g53:K5 r3=some (.cells (dEx (both O y u)) 27):=by rw[hK5];exact Aa _ _ _
    refine⟨(m,both O y u,s3),_,Ni.refl _,(hI _ _ _).2 ?_,by show m<m+1;omega⟩;simp(disch:=omega) only[go_sem,↓reduceIte,e0,e3,e4,e5];(repeat' apply And.intro)<;>(try first | rfl | assumption | omega)
   ·have c2': ¬(nxo l Ct s1:Int)=(O:Int):=by omega
    simp(disch:=omega) only[go_sem,↓reduceIte,e0,e3,e4,e5,c2',g4,g3,hly,hoy,m3,m4];refine(hat.own h04 q4 _).fin ⟨y,s1,rfl,rfl,hL.done fun hb=> ?_⟩;cases m with
    | zero=>exact absurd rfl (hL.can hb).2
    | succ m=>
     show(if O=0 then _ else if(opF l O s1.k Ct).1=0 then _ else _)=_;have:(opF l 0 s1.k Ct).1≠O:=by rw[nxo,hb] at c2;exact c2
     rw[if_neg c,Br9 s1.k O Ct c (by decide),if_neg this,if_pos rfl]
set_option maxHeartbeats 4000000 in
theorem Cu0 (hl:l.length<=800000) (p:PS) (hA:p.Adv l) (hp:RfC Tryz.prog G l 59 r [] p.simple dE) (hr: ∀x,RfC Tryz.prog G l 101 r [.agg (dEx x)] (p.rest x) dE):RfC Tryz.prog G l 57 r [] (Ba l p).expr dE:=by
 intro H s hrr hc;have eT:(Ba l p).expr=fun k=>(p.simple k).then fun x k=>p.rest x k:=rfl
 rw[eT] at hc⊢
 refine Ad Tryz.func57 Tryz.call57 rfl (by kernel_rfl) ?_;simp(disch:=omega) only[go_sem,↓reduceIte];intro r2 hr2;dsimp only at hr2;obtain⟨K,hK⟩: ∃K,K=upd H r2 (some (.cells [.int .u8 0, .int .u8 0, .int .i64 0, .str [], .nilSlice, .nilSlice, .int .i64 0, .int .i64 0, .int .i64 0] 27)):=⟨_,rfl⟩;rw[<-hK];have gr2:K r2=some (.cells [.int .u8 0, .int .u8 0, .int .i64 0, .str [], .nilSlice, .nilSlice, .int .i64 0, .int .i64 0, .int .i64 0] 27):=by rw[hK];exact Aa _ _ _
 have n2:r≠r2:=Ae hr2 hrr;have q2:=n2.symm;have hat:FAt r l s H K:=by rw[hK];exact(FAt.refl hrr).new hr2 _
 simp(disch:=omega) only[go_sem,↓reduceIte];refine(hp K s hat.get (Can.then1 hc)).mono ?_;rintro _ K1 ⟨x,s1,rfl,hK1,ha⟩;have hat1:FAt r l s1 H K1:=by rw[hK1];exact hat.set s1
 have g12:K1 r2=some (.cells [.int .u8 0, .int .u8 0, .int .i64 0, .str [], .nilSlice, .nilSlice, .int .i64 0, .int .i64 0, .int .i64 0] 27):=by rw[hK1];exact Ag gr2 q2
 have hc1:=Can.then2 hc ha fun hb=>hA.simple _ (hc hb).1;have hlx:=Ah x;have hox:=Al x;simp(disch:=omega) only[go_sem,↓reduceIte,dE,hlx,hox];refine(hr x K1 s1 hat1.get hc1).mono ?_;rintro _ K2 ⟨y,s2,rfl,hK2,ha2⟩;have hat2:FAt r l s2 H K2:=by rw[hK2];exact hat1.set s2
 have g22:K2 r2=some (.cells [.int .u8 0, .int .u8 0, .int .i64 0, .str [], .nilSlice, .nilSlice, .int .i64 0, .int .i64 0, .int .i64 0] 27):=by rw[hK2];exact Ag g12 q2
 have hly:=Ah y;have hoy:=Al y;simp(disch:=omega) only[go_sem,↓reduceIte,dE,g22,hly,hoy];exact(hat2.own hr2 q2 _).fin ⟨y,s2,rfl,rfl,ha.then ha2⟩
end
end Go.Dl

-- Chapter 3: the reference's reader: primaries, choices.
namespace Go.Dl
open Go Go.Proofs
set_option maxRecDepth 100000
section
variable {G:Nat->DVal} {H0 H H':Ac} {r k:Nat} {l:List Tok} {s s':RS}
set_option maxHeartbeats 4000000 in
theorem Aq0 (hl:l.length<=800000) (p:PS) (hpar:RfG Tryz.prog G l 110 r [] p.paren dE) (hnm:RfC Tryz.prog G l 63 r [] p.name dE):RfC Tryz.prog G l 62 r [] (Ba l p).primary dE:=by
 intro H s hr hc;have eT: ∀k,(Ba l p).primary k=if(tk l k).kind=3 then .ok (.mk 1 0 (tk l k).n [] [] [] (tk l k).line 0 0) (k+1) else if isW l k [Sb] then .ok (.mk 2 0 0 [] [] [] (tk l k).line 0 0) (k+1) else if isW l k [Ce] then p.paren k else p.name k:=fun _=>rfl
 refine Ad Tryz.func62 Tryz.call62 rfl (by kernel_rfl) ?_;simp(disch:=omega) only[go_sem,↓reduceIte];intro r2 hr2;dsimp only at hr2;obtain⟨K,hK⟩: ∃K,K=upd H r2 (some (.cells [.int .u8 0, .int .u8 0, .int .i64 0, .str [], .nilSlice, .nilSlice, .int .i64 0, .int .i64 0, .int .i64 0] 27)):=⟨_,rfl⟩;rw[<-hK];have gr2:K r2=some (.cells [.int .u8 0, .int .u8 0, .int .i64 0, .str [], .nilSlice, .nilSlice, .int .i64 0, .int .i64 0, .int .i64 0] 27):=by rw[hK];exact Aa _ _ _
 have n2:r≠r2:=Ae hr2 hr;have q2:=n2.symm;have hat:FAt r l s H K:=by rw[hK];exact(FAt.refl hr).new hr2 _
 simp(disch:=omega) only[go_sem,↓reduceIte];refine Ai.monoR (Hl G K hat.get (by omega)) ?_;simp(disch:=omega) only[go_sem,↓reduceIte];refine Ai.monoR (Xo G K 3 hat.get (by omega) (hc.kb hl) (by decide)) ?_;cases b1:(!s.bad&&decide ((tk l s.k).kind=3)) with
 | true=>
  obtain⟨k,b⟩:=s;simp only[Bool.and_eq_true,Bool.not_eq_true',decide_eq_true_eq] at b1;obtain⟨rfl,b1⟩:=b1;dsimp only at hat⊢
  have hlt:k<l.length:=Jj (by rw[b1];decide);have hlt':(k:Int)<(l.length:Int):=by omega
  have g3:(l.flatMap Ec)[k*4+3]? =some (dI l[k].n):=Bs Bm l _ hlt 3 (by omega);have hfl:=An Bm l;have hw1:IntKind.i64.wrap ((k:Int)+1)=((k+1:Nat):Int):=by rw[IntKind.wrap_i64];omega
  have hw2:IntKind.i64.wrap (((k+1:Nat):Int)-1)=(k:Int):=by rw[IntKind.wrap_i64];omega
  have gr:=hat.get;unfold rfO at gr;simp(disch:=omega) only[go_sem,↓reduceIte,gr,hw1,n2,q2];refine Aj (by kernel_rfl) (.take 0 (.take 1 (.take 2 (.take 3 (.take 4 (.take 5 (.take 6 (.take 7 (.take 8 (.take 9 (.take 10 (.take 11 (.take 12 (.take 13 (.go 14 [] .done))))))))))))))) (by kernel_rfl) ?_;simp(disch:=omega) only[go_sem,↓reduceIte,hw1,hw2,Cc,g3,hfl,Int.toNat_natCast,gr2,n2,q2];have hs:Sub (upd H r (some (rfO l ⟨k+1,false⟩))) (upd (upd K r (some (rfO l ⟨k+1,false⟩))) r2 (some (.cells [.int .u8 1, .int .u8 0,dI l[k].n, .str [], .nilSlice, .nilSlice,dI (tk l k).line, .int .i64 0, .int .i64 0] 27))):=(hat.set _).own hr2 q2 _;refine Fc.fin hs (Fc.agg (Fc.ex hs (.exs0 hs) (.as0 hs))) ⟨_,⟨k+1,false⟩,rfl,rfl,?_⟩;rw[<-Ah2 hlt];exact Aft.good.2 (by rw[eT,if_pos b1];exact⟨rfl,rfl⟩)
 | false=>
  have e1:s.bad=false-> ¬(tk l s.k).kind=3:=fun hb=>by rw[hb] at b1;simpa using b1
  simp(disch:=omega) only[go_sem,↓reduceIte];refine Ai.monoR (Mi G K Sb (by decide+kernel) hat.get (by omega) (hc.kb hl)) ?_;cases b2:(!s.bad&&isW l s.k [Sb]) with
  | true=>
   obtain⟨k,rfl,hw⟩:=Ey b2;rw[Ew hw];simp(disch:=omega) only[go_sem,↓reduceIte,gr2,n2,q2];have hs:Sub (upd H r (some (rfO l ⟨k+1,false⟩))) (upd (upd K r (some (rfO l ⟨k+1,false⟩))) r2 (some (.cells [.int .u8 2, .int .u8 0, .int .i64 0, .str [], .nilSlice, .nilSlice,dI (tk l k).line, .int .i64 0, .int .i64 0] 27))):=(hat.set _).own hr2 q2 _;refine Fc.fin hs (Fc.agg (Fc.ex hs (.exs0 hs) (.as0 hs))) ⟨_,⟨k+1,false⟩,rfl,rfl,?_⟩;exact Aft.good.2 (by rw[eT,if_neg (e1 rfl),if_pos hw];exact⟨rfl,rfl⟩)
  | false=>
   rw[Fx b2,Be hat.get];simp(disch:=omega) only[go_sem,↓reduceIte];refine Ai.monoR (Dh G K 0 4 Ce hat.get (by omega) (hc.kb hl) (by decide) (by decide)) ?_;rw[Nat.add_zero,Mh (show Ea Ce=4 by decide+kernel)];cases b3:(!s.bad&&isW l s.k [Ce]) with
   | true=>
    obtain⟨k,rfl,hw⟩:=Ey b3;have eK:(Ba l p).primary k=p.paren k:=by rw[eT,if_neg (e1 rfl),Dp (s:=⟨k,false⟩) b2 rfl,if_neg (by simp),if_pos hw]
    simp(disch:=omega) only[go_sem,↓reduceIte];refine(hpar K k hat.get hc.good.1 (by rw[<-eK];exact hc.good.2)).mono ?_;rintro _ K1 ⟨x,s1,rfl,hK1,ha⟩;have hat1:FAt r l s1 H K1:=by rw[hK1];exact hat.set s1
    have g12:K1 r2=some (.cells [.int .u8 0, .int .u8 0, .int .i64 0, .str [], .nilSlice, .nilSlice, .int .i64 0, .int .i64 0, .int .i64 0] 27):=by rw[hK1];exact Ag gr2 q2
    have hlx:=Ah x;have hox:=Al x;simp(disch:=omega) only[go_sem,↓reduceIte,dE,g12,hlx,hox];exact(hat1.own hr2 q2 _).fin ⟨x,s1,rfl,rfl,Aft.at eK ha⟩
   | false=>
    have eK:s.bad=false->(Ba l p).primary s.k=p.name s.k:=fun hb=>by rw[eT,if_neg (e1 hb),Dp b2 hb,if_neg (by simp),Dp b3 hb,if_neg (by simp)]
    simp(disch:=omega) only[go_sem,↓reduceIte];refine(hnm K s hat.get (hc.eq eK)).mono ?_;rintro _ K1 ⟨x,s1,rfl,hK1,ha⟩;have hat1:FAt r l s1 H K1:=by rw[hK1];exact hat.set s1
    have g12:K1 r2=some (.cells [.int .u8 0, .int .u8 0, .int .i64 0, .str [], .nilSlice, .nilSlice, .int .i64 0, .int .i64 0, .int .i64 0] 27):=by rw[hK1];exact Ag gr2 q2
    have hlx:=Ah x;have hox:=Al x;simp(disch:=omega) only[go_sem,↓reduceIte,dE,g12,hlx,hox];exact(hat1.own hr2 q2 _).fin ⟨x,s1,rfl,rfl,ha.eq eK⟩
end
end Go.Dl

-- Chapter 3: the reference's reader: names.
namespace Go.Dl
open Go Go.Proofs
set_option maxRecDepth 100000
section
variable {G:Nat->DVal} {H0 H H':Ac} {r k:Nat} {l:List Tok} {s s':RS}
theorem Aft.name {T:Nat->Res Ex} {V:List UInt8->Nat->Res Ex} {x:Ex} (e:s.bad=false->T s.k=Fp l s.k V) (h:Aft (V (nmV l s)) (nmS l s) x s'):Aft T s x s':=by
 rcases s.cases with c | ⟨k,rfl⟩
 ·obtain⟨k,b⟩:=s;cases c;rw[nmS] at h;rw[Aft,if_pos (by rfl)] at h⊢
  exact h
 ·have e:=e rfl;by_cases c:(tk l k).kind=1
  ·rw[nmS,nmV] at h;simp only[c,Bool.not_false,Bool.true_and,decide_true,if_true] at h;exact Aft.at (by rw[e,Fp,if_pos c]) h
  ·rw[nmS,nmV] at h;simp only[c,Bool.not_false,Bool.true_and,decide_false,if_false,Bool.false_eq_true] at h;rw[Aft,if_pos (by rfl)] at h;rw[Aft.good,e,Fp,if_neg c];exact h
theorem Can.name {T:Nat->Res Ex} {V:List UInt8->Nat->Res Ex} (e:s.bad=false->T s.k=Fp l s.k V) (h:Can l T s):Can l (V (nmV l s)) (nmS l s):=by
 rcases s.cases with c | ⟨k,rfl⟩
 ·rw[nmS,c];exact .bad rfl
 ·have e:=e rfl;by_cases c:(tk l k).kind=1
  ·have hk:k<l.length:=Jj (by rw[c];decide);rw[nmS,nmV];simp only[c,Bool.not_false,Bool.true_and,decide_true,if_true];exact Can.at (by rw[e,Fp,if_pos c]) hk h
  ·rw[nmS,nmV];simp only[c,Bool.not_false,Bool.true_and,decide_false,if_false,Bool.false_eq_true];exact .bad rfl
theorem Aft.must {α:Type} {T V:Nat->Res α} {x:α} {w:List UInt8} (e:s.bad=false->T s.k=must l w s.k V) (h:Aft V (Fs l w s) x s'):Aft T s x s':=by
 rcases s.cases with c | ⟨k,rfl⟩
 ·obtain⟨k,b⟩:=s;cases c;rw[Fs] at h;rw[Aft,if_pos (by rfl)] at h⊢
  exact h
 ·have e:=e rfl;by_cases c:isW l k [w]=true
  ·rw[Fs] at h;simp only[c,Bool.not_false,Bool.true_and,if_true] at h;exact Aft.at (by rw[e,Dl.must,if_pos c]) h
  ·rw[Fs] at h;simp only[c,Bool.not_false,Bool.true_and,if_false,Bool.false_eq_true] at h;rw[Aft,if_pos (by rfl)] at h;rw[Aft.good,e,Dl.must,if_neg c];exact h
theorem Can.must {α:Type} {T V:Nat->Res α} {w:List UInt8} (e:s.bad=false->T s.k=must l w s.k V) (h:Can l T s):Can l V (Fs l w s):=by
 rcases s.cases with c | ⟨k,rfl⟩
 ·rw[Fs,c];exact .bad rfl
 ·have e:=e rfl;by_cases c:isW l k [w]=true
  ·have hk:=Am c h.good.1;rw[Fs];simp only[c,Bool.not_false,Bool.true_and,if_true];exact Can.at (by rw[e,Dl.must,if_pos c]) hk h
  ·rw[Fs];simp only[c,Bool.not_false,Bool.true_and,if_false,Bool.false_eq_true];exact .bad rfl
set_option maxHeartbeats 16000000 in
theorem Cu1 (hl:l.length<=800000) (n:Nat) (hpar: ∀m≤n,RfG Tryz.prog G l 110 r [] (P l m).paren dE) (hargs: ∀m≤n,RfG Tryz.prog G l 67 r [] (fun k=>((P l m).arg k).then fun a k=>(P l m).argsL [a] k) dAl):
  RfC Tryz.prog G l 63 r [] (P l (n+1)).name dE:=by
 intro H s hr hc;have eT: ∀k,(P l (n+1)).name k=Fp l k fun t k1=>(P l n).nameL (tk l k).line (.mk 3 0 0 t [] [] (tk l k).line 0 0) k1:=fun _=>rfl;refine Ad Tryz.func63 Tryz.call63 rfl (by kernel_rfl) ?_;simp(disch:=omega) only[go_sem,↓reduceIte];intro r2 hr2;dsimp only at hr2;obtain⟨Hb,hHb⟩: ∃K,K=upd H r2 (some (.cells [.int .u8 0, .int .u8 0, .int .i64 0, .str [], .nilSlice, .nilSlice, .int .i64 0, .int .i64 0, .int .i64 0] 27)):=⟨_,rfl⟩;rw[<-hHb];have gr2:Hb r2=some (.cells [.int .u8 0, .int .u8 0, .int .i64 0, .str [], .nilSlice, .nilSlice, .int .i64 0, .int .i64 0, .int .i64 0] 27):=by rw[hHb];exact Aa _ _ _
 have h2:=hr2;have n2:r≠r2:=Ae hr2 hr;have q2:=n2.symm;have hat:FAt r l s Hb Hb:=FAt.refl (by rw[hHb];exact Ag hr n2);simp(disch:=omega) only[go_sem,↓reduceIte];refine Ai.monoR (Hl G Hb hat.get (by omega)) ?_;simp(disch:=omega) only[go_sem,↓reduceIte];refine Ai.monoR (Ko G Hb hat.get (by omega) (hc.kb hl)) ?_;obtain⟨line,hline⟩: ∃line,line=(tk l s.k).line:=⟨_,rfl⟩;have hL:Left l (P l (n+1)).name s ((P l n).nameL line (.mk 3 0 0 (nmV l s) [] [] line 0 0)) (nmS l s):=
  ⟨fun x' s' h=>Aft.name (V:=fun t k1=>(P l n).nameL line (.mk 3 0 0 t [] [] line 0 0) k1) (fun _=>by rw[eT,hline]) h,Can.name (V:=fun t k1=>(P l n).nameL line (.mk 3 0 0 t [] [] line 0 0) k1) (fun _=>by rw[eT,hline]) hc⟩
 rw[<-hline];have hat1:FAt r l (nmS l s) Hb (upd Hb r (some (rfO l (nmS l s)))):=hat.set _;obtain⟨s1,hs1⟩: ∃s1,s1=nmS l s:=⟨_,rfl⟩;obtain⟨nm,hnm⟩: ∃nm,nm=nmV l s:=⟨_,rfl⟩;rw[<-hs1,<-hnm] at hL⊢
 rw[<-hs1] at hat1;obtain⟨K1,hK1⟩: ∃K1,K1=upd Hb r (some (rfO l s1)):=⟨_,rfl⟩;rw[<-hK1] at hat1⊢
 simp(disch:=omega) only[go_sem,↓reduceIte];intro r4 hr4;dsimp only at hr4;have n4:r≠r4:=Ae hr4 hat1.get;have q4:=n4.symm;have hb4:Hb r4=none:=hat1.lo hr4;simp(disch:=omega) only[go_sem,↓reduceIte];obtain⟨K2,hK2⟩: ∃K2,K2=upd K1 r4 (some (.cells [.int .u8 3, .int .u8 0, .int .i64 0, .str nm, .nilSlice, .nilSlice, .int .i64 line, .int .i64 0, .int .i64 0] 27)):=⟨_,rfl⟩;rw[<-hK2];have hat2:FAt r l s1 Hb K2:=by rw[hK2];exact hat1.new hr4 _
 have g24:K2 r4=some (.cells [.int .u8 3, .int .u8 0, .int .i64 0, .str nm, .nilSlice, .nilSlice, .int .i64 line, .int .i64 0, .int .i64 0] 27):=by rw[hK2];exact Aa _ _ _
 clear hK2 hK1;have hs0:=Ek.exD (k:=3) (o:=0) (n:=0) (s:=nm) (li:=line) (en:=0) (t:=0) (m:= []) (a:= []) (T:=upd (upd Hb r (some (rfO l s1))) r4 (some (.cells (dEx (.mk 3 0 0 nm [] [] line 0 0)) 27))) (Dx hat2 g24) (Fc.exs0D (Dx hat2 g24)) (Fc.as0D (Dx hat2 g24));have hat3:FAt r l s1 Hb (upd (upd Hb r (some (rfO l s1))) r4 (some (.cells (dEx (.mk 3 0 0 nm [] [] line 0 0)) 27))):=Sub.up (Sub.refl _) (by simp only[upd,if_neg q4];exact hb4) _;have g34:(upd (upd Hb r (some (rfO l s1))) r4 (some (.cells (dEx (.mk 3 0 0 nm [] [] line 0 0)) 27))) r4=some (.cells (dEx (.mk 3 0 0 nm [] [] line 0 0)) 27):=Aa _ _ _;obtain⟨I,hI⟩: ∃I:Nat×Ex×RS->(Nat->DVal)->Ac->Prop,∀i env heap,I i env heap↔(env 0= .optr r 0/\env 2= .optr r2 0/\env 3= .int .i64 line/\env 4= .optr r4 0/\FAt r l i.2.2 Hb heap/\heap r4=some (.cells (dEx i.2.1) 27)/\i.1<=n/\Left l (P l (n+1)).name s ((P l i.1).nameL line i.2.1) i.2.2):=⟨_,fun _ _ _=>Iff.rfl⟩;refine Bt4.runG I (fun i=>i.1) (n, .mk 3 0 0 nm [] [] line 0 0,s1) _ (Ni.cell g24 hat2 hs0) ((hI _ _ _).2 ?_) ?_
 ·simp(disch:=omega) only[go_sem,↓reduceIte];(repeat' apply And.intro)<;>(try first | rfl | assumption | omega)
 ·rintro⟨m,x,s1⟩ E K hi;obtain⟨e0,e2,e3,e4,hat,g4,hm,hL⟩:=(hI _ _ _).1 hi;dsimp only at hat g4 hm hL;have g2:K r2=some (.cells [.int .u8 0, .int .u8 0, .int .i64 0, .str [], .nilSlice, .nilSlice, .int .i64 0, .int .i64 0, .int .i64 0] 27):=hat _ _ (Ag gr2 q2);have hlx:=Ah x;have hox:=Al x;have gr:=hat.get;unfold rfO at gr;rcases s1.cases with hb | ⟨k,rfl⟩
  ·simp(disch:=omega) only[go_sem,↓reduceIte,e0,e2,e3,e4,gr,hb,g2,g4,hlx,hox];exact Nu.sub ((FAt.drop hat hHb h2).own h2 q2 _) (.refl ⟨x,s1,rfl,rfl,hL.done fun h=>by rw[hb] at h;cases h⟩)
  ·have hk:=hL.can.good.1;obtain⟨m,rfl⟩: ∃m',m=m'+1:=by
    cases m with
    | zero=>exact absurd rfl hL.can.good.2
    | succ m=>exact⟨m,rfl⟩
   have eN:(P l (m+1)).nameL line x k=if isW l k [Lb,Wm] then(P l m).nameL line (.mk 5 0 0 [] [x] [] line 0 0) (k+2)
     else if isW l k [Lb] then Fp l (k+1) fun s k=>(P l m).nameL line (.mk 4 0 0 s [x] [] line 0 0) k
     else if isW l k [Ce] then((P l m).arg (k+1)).then fun a k=>((P l m).argsL [a] k).then fun az k=>must l Cp k fun k=>(P l m).nameL line (.mk 7 0 0 [] [x] az line 0 0) k
     else if isW l k [Ga,Ce] then((P l m).paren (k+1)).then fun y k=>(P l m).nameL line (.mk 8 0 0 [] [x,y] [] line 0 0) k
     else if isW l k [Ga] then Fp l (k+1) fun s k=>(P l m).nameL line (.mk 6 0 0 s [x] [] line 0 0) k
     else .ok x k:=rfl
   rw[Ai3,Ai3] at eN;dsimp only at gr;simp(disch:=omega) only[go_sem,↓reduceIte,e0,e2,e3,e4,gr];refine Ai.monoR (Ef G K Lb (by decide+kernel) hat.get (by omega) (hL.can.kb hl)) ?_;simp only[Bool.not_false,Bool.true_and];cases b1:isW l k [Lb] with
   | true=>
    rw[Ew b1];have hk1:=Am b1 hk;rw[List.length_singleton] at hk1;rw[b1] at eN;have hat1:=hat.set ⟨k+1,false⟩;obtain⟨K1,hK1⟩: ∃K1,K1=upd K r (some (rfO l ⟨k+1,false⟩)):=⟨_,rfl⟩;rw[<-hK1] at hat1⊢
    have g14:K1 r4=some (.cells (dEx x) 27):=by rw[hK1];exact Ag g4 q4
    clear hK1;simp(disch:=omega) only[go_sem,↓reduceIte,e0,e2,e3,e4];refine Ai.monoR (Mi G K1 Wm (by decide+kernel) hat1.get (by omega) (fun _=>by show k+1<=_;omega)) ?_;simp only[Bool.not_false,Bool.true_and];cases b2:isW l (k+1) [Wm] with
    | true=>
     rw[Ew b2];have hk2:=Am b2 hk1;rw[b2] at eN;simp only[Bool.and_true,if_true] at eN;have hat2:=hat1.set ⟨k+1+1,false⟩;obtain⟨K2,hK2⟩: ∃K2,K2=upd K1 r (some (rfO l ⟨k+1+1,false⟩)):=⟨_,rfl⟩;rw[<-hK2] at hat2⊢
     have g24:K2 r4=some (.cells (dEx x) 27):=by rw[hK2];exact Ag g14 q4
     clear hK2;obtain⟨s2,hs2⟩: ∃s2,s2=(⟨k+1+1,false⟩:RS):=⟨_,rfl⟩;rw[<-hs2] at hat2;have hL2:Left l (P l (n+1)).name s ((P l m).nameL line (.mk 5 0 0 [] [x] [] line 0 0)) s2:=by
      rw[hs2];exact⟨fun x' s' h=>hL.go x' s' (Aft.at eN h),Can.at eN hk2 hL.can⟩
     simp(disch:=omega) only[go_sem,↓reduceIte,e0,e2,e3,e4,g24];rw[Cy hlx];try simp(disch:=omega) only[go_sem,↓reduceIte]
     intro q hq;dsimp only at hq;have n4q:r4≠q:=Ae hq g24;have nq4:=n4q.symm;have nqr:q≠r:=(Ae hq (hat2).get).symm;have nrq:=nqr.symm;have hbq:Hb q=none:=(hat2).lo hq;simp(disch:=omega) only[go_sem,↓reduceIte,e0,e2,e3,e4,g24,n4q,nq4,hlx,hox];obtain⟨K5,hK5⟩: ∃K5,K5=upd (upd K2 q (some (.cells (dEx x) 27))) r4 (some (.cells [.int .u8 5, .int .u8 0, .int .i64 0, .str [], .oslice 9 q 0 1 1, .nilSlice, .int .i64 line, .int .i64 0, .int .i64 0] 27)):=⟨_,rfl⟩;rw[<-hK5];have hat5:FAt r l s2 Hb K5:=by rw[hK5];exact(hat2.new hq _).own hb4 q4 _
     have g54:K5 r4=some (.cells [.int .u8 5, .int .u8 0, .int .i64 0, .str [], .oslice 9 q 0 1 1, .nilSlice, .int .i64 line, .int .i64 0, .int .i64 0] 27):=by rw[hK5];exact Aa _ _ _
     have g5q:K5 q=some (.cells (dEx x) 27):=by rw[hK5];exact Ag (Aa _ _ _) nq4
     have hs:=Ek.exD (k:=5) (o:=0) (n:=0) (s:= []) (li:=line) (en:=0) (t:=0) (m:= [x]) (a:= []) (vl:= .oslice 9 q 0 1 1) (va:= .nilSlice) (T:=upd (upd Hb r (some (rfO l s2))) r4 (some (.cells (dEx (.mk 5 0 0 [] [x] [] line 0 0)) 27))) (Dx hat5 g54) (by show Fc K5 _ _ (.vslice ([x].flatMap dEx) 1);rw[List.flatMap_singleton];exact Fc.cellsD (size:=9) (n:=1) (by simp only[upd,if_neg nq4,if_neg nqr];exact hbq) g5q (by rw[Ah]) (Ek.keepD (Dx hat5 g54) _)) (.as0D (Dx hat5 g54));refine⟨(m, .mk 5 0 0 [] [x] [] line 0 0,s2),_,Ni.cell g54 hat5 hs,(hI _ _ _).2 ?_,by show m<m+1;omega⟩;have hat6:FAt r l s2 Hb (upd (upd Hb r (some (rfO l s2))) r4 (some (.cells (dEx (.mk 5 0 0 [] [x] [] line 0 0)) 27))):=Sub.up (Sub.refl _) (by simp only[upd,if_neg q4];exact hb4) _;have g64:(upd (upd Hb r (some (rfO l s2))) r4 (some (.cells (dEx (.mk 5 0 0 [] [x] [] line 0 0)) 27))) r4=some (.cells (dEx (.mk 5 0 0 [] [x] [] line 0 0)) 27):=Aa _ _ _;simp(disch:=omega) only[go_sem,↓reduceIte,e0,e2,e3,e4];(repeat' apply And.intro)<;>(try first | rfl | assumption | omega)
    | false=>
     rw[b2] at eN;simp only[Bool.and_false,Bool.false_eq_true,if_false,if_true] at eN;rw[Fx (by simp [b2]),Be hat1.get];simp(disch:=omega) only[go_sem,↓reduceIte,e0,e2,e3,e4];refine Aj (by kernel_rfl) (.take 0 (.take 2 (.take 4 (.alt (.go 3 [0] (.go 1 [] (.take 5 (.go 6 [] .done)))) (.go 1 [] (.go 3 [0] (.take 5 (.go 6 [] .done)))))))) (by kernel_rfl) ?_;obtain⟨s2,hs2⟩: ∃s2,s2=nmS l ⟨k+1,false⟩:=⟨_,rfl⟩;obtain⟨nm2,hnm2⟩: ∃nm2,nm2=nmV l ⟨k+1,false⟩:=⟨_,rfl⟩;have hL2:Left l (P l (n+1)).name s ((P l m).nameL line (.mk 4 0 0 nm2 [x] [] line 0 0)) s2:=by
      rw[hs2,hnm2];exact⟨fun x' s' h=>hL.go x' s' (Aft.at (U:=fun k=>Fp l k fun s k=>(P l m).nameL line (.mk 4 0 0 s [x] [] line 0 0) k) eN (Aft.name (V:=fun s k=>(P l m).nameL line (.mk 4 0 0 s [x] [] line 0 0) k) (fun _=>rfl) h)),Can.name (V:=fun s k=>(P l m).nameL line (.mk 4 0 0 s [x] [] line 0 0) k) (fun _=>rfl) (Can.at (U:=fun k=>Fp l k fun s k=>(P l m).nameL line (.mk 4 0 0 s [x] [] line 0 0) k) eN hk1 hL.can)⟩
     simp(disch:=omega) only[go_sem,↓reduceIte,e0,e2,e3,e4,g14];refine⟨?_,?_⟩
     ·refine Ai.monoR (Ko G K1 hat1.get (by omega) (fun _=>by show k+1<=_;omega)) ?_;rw[<-hs2,<-hnm2];have hat3:=hat1.set s2;obtain⟨K3,hK3⟩: ∃K3,K3=upd K1 r (some (rfO l s2)):=⟨_,rfl⟩;rw[<-hK3] at hat3⊢
      have g34:K3 r4=some (.cells (dEx x) 27):=by rw[hK3];exact Ag g14 q4
      clear hK3;try simp(disch:=omega) only[go_sem,↓reduceIte,e0,e2,e3,e4,g34]
      try refine⟨by first | rw[g34,g14] | rw[g14,g34] | rw[g34] | rw[g14],?_⟩
      rw[Cy hlx];try simp(disch:=omega) only[go_sem,↓reduceIte]
      intro q hq;dsimp only at hq;have n4q:r4≠q:=Ae hq g34;have nq4:=n4q.symm;have nqr:q≠r:=(Ae hq (hat3).get).symm;have nrq:=nqr.symm;have hbq:Hb q=none:=(hat3).lo hq;simp(disch:=omega) only[go_sem,↓reduceIte,e0,e2,e3,e4,g34,n4q,nq4,hlx,hox];obtain⟨K5,hK5⟩: ∃K5,K5=upd (upd K3 q (some (.cells (dEx x) 27))) r4 (some (.cells [.int .u8 4, .int .u8 0, .int .i64 0, .str nm2, .oslice 9 q 0 1 1, .nilSlice, .int .i64 line, .int .i64 0, .int .i64 0] 27)):=⟨_,rfl⟩;rw[<-hK5];have hat5:FAt r l s2 Hb K5:=by rw[hK5];exact(hat3.new hq _).own hb4 q4 _
      have g54:K5 r4=some (.cells [.int .u8 4, .int .u8 0, .int .i64 0, .str nm2, .oslice 9 q 0 1 1, .nilSlice, .int .i64 line, .int .i64 0, .int .i64 0] 27):=by rw[hK5];exact Aa _ _ _
      have g5q:K5 q=some (.cells (dEx x) 27):=by rw[hK5];exact Ag (Aa _ _ _) nq4
      have hs:=Ek.exD (k:=4) (o:=0) (n:=0) (s:=nm2) (li:=line) (en:=0) (t:=0) (m:= [x]) (a:= []) (vl:= .oslice 9 q 0 1 1) (va:= .nilSlice) (T:=upd (upd Hb r (some (rfO l s2))) r4 (some (.cells (dEx (.mk 4 0 0 nm2 [x] [] line 0 0)) 27))) (Dx hat5 g54) (by show Fc K5 _ _ (.vslice ([x].flatMap dEx) 1);rw[List.flatMap_singleton];exact Fc.cellsD (size:=9) (n:=1) (by simp only[upd,if_neg nq4,if_neg nqr];exact hbq) g5q (by rw[Ah]) (Ek.keepD (Dx hat5 g54) _)) (.as0D (Dx hat5 g54));refine⟨(m, .mk 4 0 0 nm2 [x] [] line 0 0,s2),_,Ni.cell g54 hat5 hs,(hI _ _ _).2 ?_,by show m<m+1;omega⟩;have hat6:FAt r l s2 Hb (upd (upd Hb r (some (rfO l s2))) r4 (some (.cells (dEx (.mk 4 0 0 nm2 [x] [] line 0 0)) 27))):=Sub.up (Sub.refl _) (by simp only[upd,if_neg q4];exact hb4) _;have g64:(upd (upd Hb r (some (rfO l s2))) r4 (some (.cells (dEx (.mk 4 0 0 nm2 [x] [] line 0 0)) 27))) r4=some (.cells (dEx (.mk 4 0 0 nm2 [x] [] line 0 0)) 27):=Aa _ _ _;simp(disch:=omega) only[go_sem,↓reduceIte,e0,e2,e3,e4];(repeat' apply And.intro)<;>(try first | rfl | assumption | omega)
     ·try simp(disch:=omega) only[go_sem,↓reduceIte]
      rw[Cy hlx];try simp(disch:=omega) only[go_sem,↓reduceIte]
      intro q hq;dsimp only at hq;have n4q:r4≠q:=Ae hq g14;have nq4:=n4q.symm;have nqr:q≠r:=(Ae hq (hat1).get).symm;have nrq:=nqr.symm;have hbq:Hb q=none:=(hat1).lo hq;simp(disch:=omega) only[go_sem,↓reduceIte,e0,e2,e3,e4,g14,n4q,nq4];obtain⟨K2,hK2⟩: ∃K2,K2=upd K1 q (some (.cells (dEx x) 27)):=⟨_,rfl⟩;rw[<-hK2];have hat2:FAt r l ⟨k+1,false⟩ Hb K2:=by rw[hK2];exact hat1.new hq _
      have g24:K2 r4=some (.cells (dEx x) 27):=by rw[hK2];exact Ag g14 n4q
      have g2q:K2 q=some (.cells (dEx x) 27):=by rw[hK2];exact Aa _ _ _
      clear hK2;refine Ai.monoR (Ko G K2 hat2.get (by omega) (fun _=>by show k+1<=_;omega)) ?_;rw[<-hs2,<-hnm2];have hat3:=hat2.set s2;obtain⟨K3,hK3⟩: ∃K3,K3=upd K2 r (some (rfO l s2)):=⟨_,rfl⟩;rw[<-hK3] at hat3⊢
      have g34:K3 r4=some (.cells (dEx x) 27):=by rw[hK3];exact Ag g24 q4
      have g3q:K3 q=some (.cells (dEx x) 27):=by rw[hK3];exact Ag g2q nqr
      clear hK3;simp(disch:=omega) only[go_sem,↓reduceIte,e0,e2,e3,e4,g34,hlx,hox];try refine⟨by first | rw[g24] | rw[g34,g24] | rw[g34,g14] | rw[g34],?_⟩
      try simp(disch:=omega) only[go_sem,↓reduceIte,e0,e2,e3,e4,g34,hlx,hox]
      obtain⟨K5,hK5⟩: ∃K5,K5=upd K3 r4 (some (.cells [.int .u8 4, .int .u8 0, .int .i64 0, .str nm2, .oslice 9 q 0 1 1, .nilSlice, .int .i64 line, .int .i64 0, .int .i64 0] 27)):=⟨_,rfl⟩;rw[<-hK5];have hat5:FAt r l s2 Hb K5:=by rw[hK5];exact(hat3).own hb4 q4 _
      have g54:K5 r4=some (.cells [.int .u8 4, .int .u8 0, .int .i64 0, .str nm2, .oslice 9 q 0 1 1, .nilSlice, .int .i64 line, .int .i64 0, .int .i64 0] 27):=by rw[hK5];exact Aa _ _ _
      have g5q:K5 q=some (.cells (dEx x) 27):=by rw[hK5];exact Ag (g3q) nq4
      have hs:=Ek.exD (k:=4) (o:=0) (n:=0) (s:=nm2) (li:=line) (en:=0) (t:=0) (m:= [x]) (a:= []) (vl:= .oslice 9 q 0 1 1) (va:= .nilSlice) (T:=upd (upd Hb r (some (rfO l s2))) r4 (some (.cells (dEx (.mk 4 0 0 nm2 [x] [] line 0 0)) 27))) (Dx hat5 g54) (by show Fc K5 _ _ (.vslice ([x].flatMap dEx) 1);rw[List.flatMap_singleton];exact Fc.cellsD (size:=9) (n:=1) (by simp only[upd,if_neg nq4,if_neg nqr];exact hbq) g5q (by rw[Ah]) (Ek.keepD (Dx hat5 g54) _)) (.as0D (Dx hat5 g54));refine⟨(m, .mk 4 0 0 nm2 [x] [] line 0 0,s2),_,Ni.cell g54 hat5 hs,(hI _ _ _).2 ?_,by show m<m+1;omega⟩;have hat6:FAt r l s2 Hb (upd (upd Hb r (some (rfO l s2))) r4 (some (.cells (dEx (.mk 4 0 0 nm2 [x] [] line 0 0)) 27))):=Sub.up (Sub.refl _) (by simp only[upd,if_neg q4];exact hb4) _;have g64:(upd (upd Hb r (some (rfO l s2))) r4 (some (.cells (dEx (.mk 4 0 0 nm2 [x] [] line 0 0)) 27))) r4=some (.cells (dEx (.mk 4 0 0 nm2 [x] [] line 0 0)) 27):=Aa _ _ _;simp(disch:=omega) only[go_sem,↓reduceIte,e0,e2,e3,e4];(repeat' apply And.intro)<;>(try first | rfl | assumption | omega)
   | false=>
    rw[Fx (by simp [b1]),Be hat.get];rw[b1] at eN;simp only[Bool.false_and,Bool.false_eq_true,if_false] at eN;simp(disch:=omega) only[go_sem,↓reduceIte,e0,e2,e3,e4];refine Ai.monoR (Ef G K Ce (by decide+kernel) hat.get (by omega) (hL.can.kb hl)) ?_;simp only[Bool.not_false,Bool.true_and];cases b2:isW l k [Ce] with
    | true=>
     rw[Ew b2];have hk1:=Am b2 hk;rw[List.length_singleton] at hk1;rw[b2] at eN;simp only[if_true] at eN;have eN':(P l (m+1)).nameL line x k=(((P l m).arg (k+1)).then fun a k=>(P l m).argsL [a] k).then fun az k=>must l Cp k fun k=>(P l m).nameL line (.mk 7 0 0 [] [x] az line 0 0) k:=by rw[eN,Me]
     have hat1:=hat.set ⟨k+1,false⟩;obtain⟨K1,hK1⟩: ∃K1,K1=upd K r (some (rfO l ⟨k+1,false⟩)):=⟨_,rfl⟩;rw[<-hK1] at hat1⊢
     have g14:K1 r4=some (.cells (dEx x) 27):=by rw[hK1];exact Ag g4 q4
     clear hK1;have hcA:Can l (fun k=>(((P l m).arg k).then fun a k=>(P l m).argsL [a] k).then fun az k=>must l Cp k fun k=>(P l m).nameL line (.mk 7 0 0 [] [x] az line 0 0) k) ⟨k+1,false⟩:=Can.at eN' hk1 hL.can;have hcB:Can l (fun k=>((P l m).arg k).then fun a k=>(P l m).argsL [a] k) ⟨k+1,false⟩:=Can.then1 hcA;simp(disch:=omega) only[go_sem,↓reduceIte,e0,e2,e3,e4];refine Aj (by kernel_rfl) (.take 0 (.take 2 (.take 4 (.alt (.go 3 [0] (.go 1 [] (.take 5 (.go 6 [] .done)))) (.go 1 [] (.go 3 [0] (.take 5 (.go 6 [] .done)))))))) (by kernel_rfl) ?_;simp(disch:=omega) only[go_sem,↓reduceIte,e0,e2,e3,e4,g14];have had:Adv l 0 (((P l m).arg (k+1)).then fun a k=>(P l m).argsL [a] k):=Bh ((Bn m).arg _ hk1) fun a j _ hj=>Cs ((Bn m).argsL _ _ hj) (Nat.zero_le _);refine⟨?_,?_⟩
     ·refine(hargs m (by omega) K1 (k+1) hat1.get hk1 hcB.good.2).mono ?_;rintro _ K3 ⟨az,s3,rfl,hK3,ha⟩;have hat3:FAt r l s3 Hb K3:=by rw[hK3];exact hat1.set s3
      have g34:K3 r4=some (.cells (dEx x) 27):=by rw[hK3];exact Ag g14 q4
      clear hK3;have hcz:(dAl az).cells= [dAl az]:=rfl;have hoz:(dAl az).one=true:=rfl;have hcC:=Can.then2 hcA ha fun _=>had;obtain⟨s2,hs2⟩: ∃s2,s2=Fs l Cp s3:=⟨_,rfl⟩;have hL2:Left l (P l (n+1)).name s ((P l m).nameL line (.mk 7 0 0 [] [x] az line 0 0)) s2:=by
       rw[hs2];exact⟨fun x' s' h=>hL.go x' s' (Aft.at (U:=fun k=>(((P l m).arg k).then fun a k=>(P l m).argsL [a] k).then fun az k=>must l Cp k fun k=>(P l m).nameL line (.mk 7 0 0 [] [x] az line 0 0) k) eN' (ha.then (Aft.must (V:=fun k=>(P l m).nameL line (.mk 7 0 0 [] [x] az line 0 0) k) (fun _=>rfl) h))),Can.must (V:=fun k=>(P l m).nameL line (.mk 7 0 0 [] [x] az line 0 0) k) (fun _=>rfl) hcC⟩
      try simp(disch:=omega) only[go_sem,↓reduceIte,e0,e2,e3,e4,g34]
      try refine⟨by first | rw[g34,g14] | rw[g14,g34] | rw[g34] | rw[g14],?_⟩
      rw[Cy hlx];try simp(disch:=omega) only[go_sem,↓reduceIte]
      intro q hq;dsimp only at hq;have n4q:r4≠q:=Ae hq g34;have nq4:=n4q.symm;have nqr:q≠r:=(Ae hq (hat3).get).symm;have nrq:=nqr.symm;have hbq:Hb q=none:=(hat3).lo hq;simp(disch:=omega) only[go_sem,↓reduceIte,e0,e2,e3,e4,g34,n4q,nq4,hlx,hox,hcz,hoz,List.length_cons,List.length_nil,List.cons_append,List.nil_append,List.drop_succ_cons,List.drop_zero,List.all_cons,List.all_nil];obtain⟨K4,hK4⟩: ∃K4,K4=upd (upd K3 q (some (.cells (dEx x) 27))) r4 (some (.cells [.int .u8 7, .int .u8 0, .int .i64 0, .str [], .oslice 9 q 0 1 1,dAl az, .int .i64 line, .int .i64 0, .int .i64 0] 27)):=⟨_,rfl⟩;rw[<-hK4];have hat4:FAt r l s3 Hb K4:=by rw[hK4];exact(hat3.new hq _).own hb4 q4 _
      have g44:K4 r4=some (.cells [.int .u8 7, .int .u8 0, .int .i64 0, .str [], .oslice 9 q 0 1 1,dAl az, .int .i64 line, .int .i64 0, .int .i64 0] 27):=by rw[hK4];exact Aa _ _ _
      have g4q:K4 q=some (.cells (dEx x) 27):=by rw[hK4];exact Ag (Aa _ _ _) nq4
      refine Ai.monoR (Ft G K4 Cp (by decide+kernel) hat4.get (by omega) (hcC.kb hl)) ?_;rw[<-hs2];have hat5:=hat4.set s2;obtain⟨K5,hK5⟩: ∃K5,K5=upd K4 r (some (rfO l s2)):=⟨_,rfl⟩;rw[<-hK5] at hat5⊢
      have g54:K5 r4=some (.cells [.int .u8 7, .int .u8 0, .int .i64 0, .str [], .oslice 9 q 0 1 1,dAl az, .int .i64 line, .int .i64 0, .int .i64 0] 27):=by rw[hK5];exact Ag g44 q4
      have g5q:K5 q=some (.cells (dEx x) 27):=by rw[hK5];exact Ag g4q nqr
      clear hK5;try simp(disch:=omega) only[go_sem,↓reduceIte,e0,e2,e3,e4]
      have hs:=Ek.exD (k:=7) (o:=0) (n:=0) (s:= []) (li:=line) (en:=0) (t:=0) (m:= [x]) (a:=az) (vl:= .oslice 9 q 0 1 1) (va:=dAl az) (T:=upd (upd Hb r (some (rfO l s2))) r4 (some (.cells (dEx (.mk 7 0 0 [] [x] az line 0 0)) 27))) (Dx hat5 g54) (by show Fc K5 _ _ (.vslice ([x].flatMap dEx) 1);rw[List.flatMap_singleton];exact Fc.cellsD (size:=9) (n:=1) (by simp only[upd,if_neg nq4,if_neg nqr];exact hbq) g5q (by rw[Ah]) (Ek.keepD (Dx hat5 g54) _)) (Fc.keepD (Dx hat5 g54) _);refine⟨(m, .mk 7 0 0 [] [x] az line 0 0,s2),_,Ni.cell g54 hat5 hs,(hI _ _ _).2 ?_,by show m<m+1;omega⟩;have hat6:FAt r l s2 Hb (upd (upd Hb r (some (rfO l s2))) r4 (some (.cells (dEx (.mk 7 0 0 [] [x] az line 0 0)) 27))):=Sub.up (Sub.refl _) (by simp only[upd,if_neg q4];exact hb4) _;have g64:(upd (upd Hb r (some (rfO l s2))) r4 (some (.cells (dEx (.mk 7 0 0 [] [x] az line 0 0)) 27))) r4=some (.cells (dEx (.mk 7 0 0 [] [x] az line 0 0)) 27):=Aa _ _ _;simp(disch:=omega) only[go_sem,↓reduceIte,e0,e2,e3,e4];(repeat' apply And.intro)<;>(try first | rfl | assumption | omega)
     ·try simp(disch:=omega) only[go_sem,↓reduceIte]
      rw[Cy hlx];try simp(disch:=omega) only[go_sem,↓reduceIte]
      intro q hq;dsimp only at hq;have n4q:r4≠q:=Ae hq g14;have nq4:=n4q.symm;have nqr:q≠r:=(Ae hq (hat1).get).symm;have nrq:=nqr.symm;have hbq:Hb q=none:=(hat1).lo hq;simp(disch:=omega) only[go_sem,↓reduceIte,e0,e2,e3,e4,g14,n4q,nq4];obtain⟨K2,hK2⟩: ∃K2,K2=upd K1 q (some (.cells (dEx x) 27)):=⟨_,rfl⟩;rw[<-hK2];have hat2:FAt r l ⟨k+1,false⟩ Hb K2:=by rw[hK2];exact hat1.new hq _
      have g24:K2 r4=some (.cells (dEx x) 27):=by rw[hK2];exact Ag g14 n4q
      have g2q:K2 q=some (.cells (dEx x) 27):=by rw[hK2];exact Aa _ _ _
      clear hK2;refine(hargs m (by omega) K2 (k+1) hat2.get hk1 hcB.good.2).mono ?_;rintro _ K3 ⟨az,s3,rfl,hK3,ha⟩;have hat3:FAt r l s3 Hb K3:=by rw[hK3];exact hat2.set s3
      have g34:K3 r4=some (.cells (dEx x) 27):=by rw[hK3];exact Ag g24 q4
      have g3q:K3 q=some (.cells (dEx x) 27):=by rw[hK3];exact Ag g2q nqr
      clear hK3;have hcz:(dAl az).cells= [dAl az]:=rfl;have hoz:(dAl az).one=true:=rfl;have hcC:=Can.then2 hcA ha fun _=>had;obtain⟨s2,hs2⟩: ∃s2,s2=Fs l Cp s3:=⟨_,rfl⟩;have hL2:Left l (P l (n+1)).name s ((P l m).nameL line (.mk 7 0 0 [] [x] az line 0 0)) s2:=by
       rw[hs2];exact⟨fun x' s' h=>hL.go x' s' (Aft.at (U:=fun k=>(((P l m).arg k).then fun a k=>(P l m).argsL [a] k).then fun az k=>must l Cp k fun k=>(P l m).nameL line (.mk 7 0 0 [] [x] az line 0 0) k) eN' (ha.then (Aft.must (V:=fun k=>(P l m).nameL line (.mk 7 0 0 [] [x] az line 0 0) k) (fun _=>rfl) h))),Can.must (V:=fun k=>(P l m).nameL line (.mk 7 0 0 [] [x] az line 0 0) k) (fun _=>rfl) hcC⟩
      simp(disch:=omega) only[go_sem,↓reduceIte,e0,e2,e3,e4,g34,hlx,hox];try refine⟨by first | rw[g24] | rw[g34,g24] | rw[g34,g14] | rw[g34],?_⟩
      try simp(disch:=omega) only[go_sem,↓reduceIte,e0,e2,e3,e4,g34,hlx,hox,hcz,hoz,List.length_cons,List.length_nil,List.cons_append,List.nil_append,List.drop_succ_cons,List.drop_zero,List.all_cons,List.all_nil]
      obtain⟨K4,hK4⟩: ∃K4,K4=upd K3 r4 (some (.cells [.int .u8 7, .int .u8 0, .int .i64 0, .str [], .oslice 9 q 0 1 1,dAl az, .int .i64 line, .int .i64 0, .int .i64 0] 27)):=⟨_,rfl⟩;rw[<-hK4];have hat4:FAt r l s3 Hb K4:=by rw[hK4];exact(hat3).own hb4 q4 _
      have g44:K4 r4=some (.cells [.int .u8 7, .int .u8 0, .int .i64 0, .str [], .oslice 9 q 0 1 1,dAl az, .int .i64 line, .int .i64 0, .int .i64 0] 27):=by rw[hK4];exact Aa _ _ _
      have g4q:K4 q=some (.cells (dEx x) 27):=by rw[hK4];exact Ag (g3q) nq4
      refine Ai.monoR (Ft G K4 Cp (by decide+kernel) hat4.get (by omega) (hcC.kb hl)) ?_;rw[<-hs2];have hat5:=hat4.set s2;obtain⟨K5,hK5⟩: ∃K5,K5=upd K4 r (some (rfO l s2)):=⟨_,rfl⟩;rw[<-hK5] at hat5⊢
      have g54:K5 r4=some (.cells [.int .u8 7, .int .u8 0, .int .i64 0, .str [], .oslice 9 q 0 1 1,dAl az, .int .i64 line, .int .i64 0, .int .i64 0] 27):=by rw[hK5];exact Ag g44 q4
      have g5q:K5 q=some (.cells (dEx x) 27):=by rw[hK5];exact Ag g4q nqr
      clear hK5;try simp(disch:=omega) only[go_sem,↓reduceIte,e0,e2,e3,e4]
      have hs:=Ek.exD (k:=7) (o:=0) (n:=0) (s:= []) (li:=line) (en:=0) (t:=0) (m:= [x]) (a:=az) (vl:= .oslice 9 q 0 1 1) (va:=dAl az) (T:=upd (upd Hb r (some (rfO l s2))) r4 (some (.cells (dEx (.mk 7 0 0 [] [x] az line 0 0)) 27))) (Dx hat5 g54) (by show Fc K5 _ _ (.vslice ([x].flatMap dEx) 1);rw[List.flatMap_singleton];exact Fc.cellsD (size:=9) (n:=1) (by simp only[upd,if_neg nq4,if_neg nqr];exact hbq) g5q (by rw[Ah]) (Ek.keepD (Dx hat5 g54) _)) (Fc.keepD (Dx hat5 g54) _);refine⟨(m, .mk 7 0 0 [] [x] az line 0 0,s2),_,Ni.cell g54 hat5 hs,(hI _ _ _).2 ?_,by show m<m+1;omega⟩;have hat6:FAt r l s2 Hb (upd (upd Hb r (some (rfO l s2))) r4 (some (.cells (dEx (.mk 7 0 0 [] [x] az line 0 0)) 27))):=Sub.up (Sub.refl _) (by simp only[upd,if_neg q4];exact hb4) _;have g64:(upd (upd Hb r (some (rfO l s2))) r4 (some (.cells (dEx (.mk 7 0 0 [] [x] az line 0 0)) 27))) r4=some (.cells (dEx (.mk 7 0 0 [] [x] az line 0 0)) 27):=Aa _ _ _;simp(disch:=omega) only[go_sem,↓reduceIte,e0,e2,e3,e4];(repeat' apply And.intro)<;>(try first | rfl | assumption | omega)
    | false=>
     rw[Fx (by simp [b2]),Be hat.get];rw[b2] at eN;simp only[Bool.false_eq_true,if_false] at eN;simp(disch:=omega) only[go_sem,↓reduceIte,e0,e2,e3,e4];refine Ai.monoR (Ef G K Ga (by decide+kernel) hat.get (by omega) (hL.can.kb hl)) ?_;simp only[Bool.not_false,Bool.true_and];cases b3:isW l k [Ga] with
     | true=>
      rw[Ew b3];have hk1:=Am b3 hk;rw[List.length_singleton] at hk1;rw[b3] at eN;simp only[Bool.true_and] at eN;have hat1:=hat.set ⟨k+1,false⟩;obtain⟨K1,hK1⟩: ∃K1,K1=upd K r (some (rfO l ⟨k+1,false⟩)):=⟨_,rfl⟩;rw[<-hK1] at hat1⊢
      have g14:K1 r4=some (.cells (dEx x) 27):=by rw[hK1];exact Ag g4 q4
      clear hK1;simp(disch:=omega) only[go_sem,↓reduceIte,e0,e2,e3,e4];refine Ai.monoR (Dh G K1 0 4 Ce hat1.get (by omega) (fun _=>by show k+1<=_;omega) (by decide) (by decide)) ?_;rw[Nat.add_zero,Mh (show Ea Ce=4 by decide+kernel)];simp only[Bool.not_false,Bool.true_and];cases b4:isW l (k+1) [Ce] with
      | true=>
       rw[b4] at eN;simp only[if_true] at eN;have hcA:Can l (fun k=>((P l m).paren k).then fun y k=>(P l m).nameL line (.mk 8 0 0 [] [x,y] [] line 0 0) k) ⟨k+1,false⟩:=Can.at eN hk1 hL.can;simp(disch:=omega) only[go_sem,↓reduceIte,e0,e2,e3,e4];refine Aj (by kernel_rfl) (.take 0 (.take 1 (.take 4 (.go 2 [0] (.go 3 [] (.take 5 (.go 6 [] .done))))))) (by kernel_rfl) ?_;simp(disch:=omega) only[go_sem,↓reduceIte,e0,e2,e3,e4,g14];refine(hpar m (by omega) K1 (k+1) hat1.get hk1 (Can.then1 hcA).good.2).mono ?_;rintro _ K3 ⟨y,s2,rfl,hK3,ha⟩;have hat3:FAt r l s2 Hb K3:=by rw[hK3];exact hat1.set s2
       have g34:K3 r4=some (.cells (dEx x) 27):=by rw[hK3];exact Ag g14 q4
       clear hK3;have hly:=Ah y;have hL2:Left l (P l (n+1)).name s ((P l m).nameL line (.mk 8 0 0 [] [x,y] [] line 0 0)) s2:=
        ⟨fun x' s' h=>hL.go x' s' (Aft.at (U:=fun k=>((P l m).paren k).then fun y k=>(P l m).nameL line (.mk 8 0 0 [] [x,y] [] line 0 0) k) eN (ha.then h)),Can.then2 (T:=(P l m).paren) (V:=fun y k=>(P l m).nameL line (.mk 8 0 0 [] [x,y] [] line 0 0) k) hcA ha fun _=>(Bn m).paren (k+1) hk1⟩
       simp(disch:=omega) only[go_sem,↓reduceIte,e0,e2,e3,e4,g34,dE];try refine⟨by first | rw[g34,g14] | rw[g14,g34] | rw[g34] | rw[g14],?_⟩
       rw[Gk hlx hly];try simp(disch:=omega) only[go_sem,↓reduceIte]
       intro q hq;dsimp only at hq;have n4q:r4≠q:=Ae hq g34;have nq4:=n4q.symm;have nqr:q≠r:=(Ae hq (hat3).get).symm;have nrq:=nqr.symm;have hbq:Hb q=none:=(hat3).lo hq;simp(disch:=omega) only[go_sem,↓reduceIte,e0,e2,e3,e4,g34,n4q,nq4,hlx,hox];obtain⟨K5,hK5⟩: ∃K5,K5=upd (upd K3 q (some (.cells (dEx x++dEx y) 27))) r4 (some (.cells [.int .u8 8, .int .u8 0, .int .i64 0, .str [], .oslice 9 q 0 2 2, .nilSlice, .int .i64 line, .int .i64 0, .int .i64 0] 27)):=⟨_,rfl⟩;rw[<-hK5];have hat5:FAt r l s2 Hb K5:=by rw[hK5];exact(hat3.new hq _).own hb4 q4 _
       have g54:K5 r4=some (.cells [.int .u8 8, .int .u8 0, .int .i64 0, .str [], .oslice 9 q 0 2 2, .nilSlice, .int .i64 line, .int .i64 0, .int .i64 0] 27):=by rw[hK5];exact Aa _ _ _
       have g5q:K5 q=some (.cells (dEx x++dEx y) 27):=by rw[hK5];exact Ag (Aa _ _ _) nq4
       have hs:=Ek.exD (k:=8) (o:=0) (n:=0) (s:= []) (li:=line) (en:=0) (t:=0) (m:= [x,y]) (a:= []) (vl:= .oslice 9 q 0 2 2) (va:= .nilSlice) (T:=upd (upd Hb r (some (rfO l s2))) r4 (some (.cells (dEx (.mk 8 0 0 [] [x,y] [] line 0 0)) 27))) (Dx hat5 g54) (by show Fc K5 _ _ (.vslice ([x,y].flatMap dEx) 2);rw[show [x,y].flatMap dEx=dEx x++dEx y by simp];exact Fc.cellsD (size:=9) (n:=2) (by simp only[upd,if_neg nq4,if_neg nqr];exact hbq) g5q (by rw[List.length_append,Ah,Ah]) (Ek.keepD (Dx hat5 g54) _)) (.as0D (Dx hat5 g54));refine⟨(m, .mk 8 0 0 [] [x,y] [] line 0 0,s2),_,Ni.cell g54 hat5 hs,(hI _ _ _).2 ?_,by show m<m+1;omega⟩;have hat6:FAt r l s2 Hb (upd (upd Hb r (some (rfO l s2))) r4 (some (.cells (dEx (.mk 8 0 0 [] [x,y] [] line 0 0)) 27))):=Sub.up (Sub.refl _) (by simp only[upd,if_neg q4];exact hb4) _;have g64:(upd (upd Hb r (some (rfO l s2))) r4 (some (.cells (dEx (.mk 8 0 0 [] [x,y] [] line 0 0)) 27))) r4=some (.cells (dEx (.mk 8 0 0 [] [x,y] [] line 0 0)) 27):=Aa _ _ _;simp(disch:=omega) only[go_sem,↓reduceIte,e0,e2,e3,e4];(repeat' apply And.intro)<;>(try first | rfl | assumption | omega)
      | false=>
       rw[b4] at eN;simp only[Bool.false_eq_true,if_false,if_true] at eN;simp(disch:=omega) only[go_sem,↓reduceIte,e0,e2,e3,e4];refine Aj (by kernel_rfl) (.take 0 (.take 2 (.take 4 (.alt (.go 3 [0] (.go 1 [] (.take 5 (.go 6 [] .done)))) (.go 1 [] (.go 3 [0] (.take 5 (.go 6 [] .done)))))))) (by kernel_rfl) ?_;obtain⟨s2,hs2⟩: ∃s2,s2=nmS l ⟨k+1,false⟩:=⟨_,rfl⟩;obtain⟨nm2,hnm2⟩: ∃nm2,nm2=nmV l ⟨k+1,false⟩:=⟨_,rfl⟩;have hL2:Left l (P l (n+1)).name s ((P l m).nameL line (.mk 6 0 0 nm2 [x] [] line 0 0)) s2:=by
        rw[hs2,hnm2];exact⟨fun x' s' h=>hL.go x' s' (Aft.at (U:=fun k=>Fp l k fun s k=>(P l m).nameL line (.mk 6 0 0 s [x] [] line 0 0) k) eN (Aft.name (V:=fun s k=>(P l m).nameL line (.mk 6 0 0 s [x] [] line 0 0) k) (fun _=>rfl) h)),Can.name (V:=fun s k=>(P l m).nameL line (.mk 6 0 0 s [x] [] line 0 0) k) (fun _=>rfl) (Can.at (U:=fun k=>Fp l k fun s k=>(P l m).nameL line (.mk 6 0 0 s [x] [] line 0 0) k) eN hk1 hL.can)⟩
       simp(disch:=omega) only[go_sem,↓reduceIte,e0,e2,e3,e4,g14];refine⟨?_,?_⟩
       ·refine Ai.monoR (Ko G K1 hat1.get (by omega) (fun _=>by show k+1<=_;omega)) ?_;rw[<-hs2,<-hnm2];have hat3:=hat1.set s2;obtain⟨K3,hK3⟩: ∃K3,K3=upd K1 r (some (rfO l s2)):=⟨_,rfl⟩;rw[<-hK3] at hat3⊢
        have g34:K3 r4=some (.cells (dEx x) 27):=by rw[hK3];exact Ag g14 q4
        clear hK3;try simp(disch:=omega) only[go_sem,↓reduceIte,e0,e2,e3,e4,g34]
        try refine⟨by first | rw[g34,g14] | rw[g14,g34] | rw[g34] | rw[g14],?_⟩
        rw[Cy hlx];try simp(disch:=omega) only[go_sem,↓reduceIte]
        intro q hq;dsimp only at hq;have n4q:r4≠q:=Ae hq g34;have nq4:=n4q.symm;have nqr:q≠r:=(Ae hq (hat3).get).symm;have nrq:=nqr.symm;have hbq:Hb q=none:=(hat3).lo hq;simp(disch:=omega) only[go_sem,↓reduceIte,e0,e2,e3,e4,g34,n4q,nq4,hlx,hox];obtain⟨K5,hK5⟩: ∃K5,K5=upd (upd K3 q (some (.cells (dEx x) 27))) r4 (some (.cells [.int .u8 6, .int .u8 0, .int .i64 0, .str nm2, .oslice 9 q 0 1 1, .nilSlice, .int .i64 line, .int .i64 0, .int .i64 0] 27)):=⟨_,rfl⟩;rw[<-hK5];have hat5:FAt r l s2 Hb K5:=by rw[hK5];exact(hat3.new hq _).own hb4 q4 _
        have g54:K5 r4=some (.cells [.int .u8 6, .int .u8 0, .int .i64 0, .str nm2, .oslice 9 q 0 1 1, .nilSlice, .int .i64 line, .int .i64 0, .int .i64 0] 27):=by rw[hK5];exact Aa _ _ _
        have g5q:K5 q=some (.cells (dEx x) 27):=by rw[hK5];exact Ag (Aa _ _ _) nq4
        have hs:=Ek.exD (k:=6) (o:=0) (n:=0) (s:=nm2) (li:=line) (en:=0) (t:=0) (m:= [x]) (a:= []) (vl:= .oslice 9 q 0 1 1) (va:= .nilSlice) (T:=upd (upd Hb r (some (rfO l s2))) r4 (some (.cells (dEx (.mk 6 0 0 nm2 [x] [] line 0 0)) 27))) (Dx hat5 g54) (by show Fc K5 _ _ (.vslice ([x].flatMap dEx) 1);rw[List.flatMap_singleton];exact Fc.cellsD (size:=9) (n:=1) (by simp only[upd,if_neg nq4,if_neg nqr];exact hbq) g5q (by rw[Ah]) (Ek.keepD (Dx hat5 g54) _)) (.as0D (Dx hat5 g54));refine⟨(m, .mk 6 0 0 nm2 [x] [] line 0 0,s2),_,Ni.cell g54 hat5 hs,(hI _ _ _).2 ?_,by show m<m+1;omega⟩;have hat6:FAt r l s2 Hb (upd (upd Hb r (some (rfO l s2))) r4 (some (.cells (dEx (.mk 6 0 0 nm2 [x] [] line 0 0)) 27))):=Sub.up (Sub.refl _) (by simp only[upd,if_neg q4];exact hb4) _;have g64:(upd (upd Hb r (some (rfO l s2))) r4 (some (.cells (dEx (.mk 6 0 0 nm2 [x] [] line 0 0)) 27))) r4=some (.cells (dEx (.mk 6 0 0 nm2 [x] [] line 0 0)) 27):=Aa _ _ _;simp(disch:=omega) only[go_sem,↓reduceIte,e0,e2,e3,e4];(repeat' apply And.intro)<;>(try first | rfl | assumption | omega)
       ·try simp(disch:=omega) only[go_sem,↓reduceIte]
        rw[Cy hlx];try simp(disch:=omega) only[go_sem,↓reduceIte]
        intro q hq;dsimp only at hq;have n4q:r4≠q:=Ae hq g14;have nq4:=n4q.symm;have nqr:q≠r:=(Ae hq (hat1).get).symm;have nrq:=nqr.symm;have hbq:Hb q=none:=(hat1).lo hq;simp(disch:=omega) only[go_sem,↓reduceIte,e0,e2,e3,e4,g14,n4q,nq4];obtain⟨K2,hK2⟩: ∃K2,K2=upd K1 q (some (.cells (dEx x) 27)):=⟨_,rfl⟩;rw[<-hK2];have hat2:FAt r l ⟨k+1,false⟩ Hb K2:=by rw[hK2];exact hat1.new hq _
        have g24:K2 r4=some (.cells (dEx x) 27):=by rw[hK2];exact Ag g14 n4q
        have g2q:K2 q=some (.cells (dEx x) 27):=by rw[hK2];exact Aa _ _ _
        clear hK2;refine Ai.monoR (Ko G K2 hat2.get (by omega) (fun _=>by show k+1<=_;omega)) ?_;rw[<-hs2,<-hnm2];have hat3:=hat2.set s2;obtain⟨K3,hK3⟩: ∃K3,K3=upd K2 r (some (rfO l s2)):=⟨_,rfl⟩;rw[<-hK3] at hat3⊢
        have g34:K3 r4=some (.cells (dEx x) 27):=by rw[hK3];exact Ag g24 q4
        have g3q:K3 q=some (.cells (dEx x) 27):=by rw[hK3];exact Ag g2q nqr
        clear hK3;simp(disch:=omega) only[go_sem,↓reduceIte,e0,e2,e3,e4,g34,hlx,hox];try refine⟨by first | rw[g24] | rw[g34,g24] | rw[g34,g14] | rw[g34],?_⟩
        try simp(disch:=omega) only[go_sem,↓reduceIte,e0,e2,e3,e4,g34,hlx,hox]
        obtain⟨K5,hK5⟩: ∃K5,K5=upd K3 r4 (some (.cells [.int .u8 6, .int .u8 0, .int .i64 0, .str nm2, .oslice 9 q 0 1 1, .nilSlice, .int .i64 line, .int .i64 0, .int .i64 0] 27)):=⟨_,rfl⟩;rw[<-hK5];have hat5:FAt r l s2 Hb K5:=by rw[hK5];exact(hat3).own hb4 q4 _
        have g54:K5 r4=some (.cells [.int .u8 6, .int .u8 0, .int .i64 0, .str nm2, .oslice 9 q 0 1 1, .nilSlice, .int .i64 line, .int .i64 0, .int .i64 0] 27):=by rw[hK5];exact Aa _ _ _
        have g5q:K5 q=some (.cells (dEx x) 27):=by rw[hK5];exact Ag (g3q) nq4
        have hs:=Ek.exD (k:=6) (o:=0) (n:=0) (s:=nm2) (li:=line) (en:=0) (t:=0) (m:= [x]) (a:= []) (vl:= .oslice 9 q 0 1 1) (va:= .nilSlice) (T:=upd (upd Hb r (some (rfO l s2))) r4 (some (.cells (dEx (.mk 6 0 0 nm2 [x] [] line 0 0)) 27))) (Dx hat5 g54) (by show Fc K5 _ _ (.vslice ([x].flatMap dEx) 1);rw[List.flatMap_singleton];exact Fc.cellsD (size:=9) (n:=1) (by simp only[upd,if_neg nq4,if_neg nqr];exact hbq) g5q (by rw[Ah]) (Ek.keepD (Dx hat5 g54) _)) (.as0D (Dx hat5 g54));refine⟨(m, .mk 6 0 0 nm2 [x] [] line 0 0,s2),_,Ni.cell g54 hat5 hs,(hI _ _ _).2 ?_,by show m<m+1;omega⟩;have hat6:FAt r l s2 Hb (upd (upd Hb r (some (rfO l s2))) r4 (some (.cells (dEx (.mk 6 0 0 nm2 [x] [] line 0 0)) 27))):=Sub.up (Sub.refl _) (by simp only[upd,if_neg q4];exact hb4) _;have g64:(upd (upd Hb r (some (rfO l s2))) r4 (some (.cells (dEx (.mk 6 0 0 nm2 [x] [] line 0 0)) 27))) r4=some (.cells (dEx (.mk 6 0 0 nm2 [x] [] line 0 0)) 27):=Aa _ _ _;simp(disch:=omega) only[go_sem,↓reduceIte,e0,e2,e3,e4];(repeat' apply And.intro)<;>(try first | rfl | assumption | omega)
     | false=>
      rw[Fx (by simp [b3]),Be hat.get];rw[b3] at eN;simp only[Bool.false_and,Bool.false_eq_true,if_false] at eN;simp(disch:=omega) only[go_sem,↓reduceIte,e0,e2,e3,e4,g2,g4,hlx,hox];exact Nu.sub ((FAt.drop hat hHb h2).own h2 q2 _) (.refl ⟨x,⟨k,false⟩,rfl,rfl,hL.done fun h=>eN⟩)
end
end Go.Dl
