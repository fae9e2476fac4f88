/- The data level and the contracts of the functions that are reached (part 12). -/
import Derived.Test.YtpcbhialfjiaaaaGreatDoorPfk
set_option linter.unusedSimpArgs false
set_option linter.unusedVariables false
set_option linter.unusedSectionVars false
-- Chapter 3: the reference's reader: choices, arguments.
namespace Go.Dl
open Go Go.Proofs
set_option maxRecDepth 100000
section
variable {G:Nat->DVal} {H0 H H':Ac} {r k:Nat} {l:List Tok} {s s':RS}
def RfS (P:Program) (G:Nat->DVal) (l:List Tok) {α:Type} (f:FuncId) (r:Nat) (more:List DVal) (T:Nat->Res α) (D:α->DVal) (S:α->Prop):Prop:=
 ∀H s,H r=some (rfO l s)->Can l T s->Ai P G f (.optr r 0::more) H fun e H'=> ∃x s',e= .ret (D x)/\H'=upd H r (some (rfO l s'))/\Aft T s x s'/\S x
def ChS (c:Ch):Prop:=c.kind=1-> ∃x,c.l= [x]
section
variable {P:Program} {α:Type} {f:FuncId} {more:List DVal} {T:Nat->Res α} {D:α->DVal} {S:α->Prop}
theorem RfS.c (h:RfS P G l f r more T D S):RfC P G l f r more T D:=fun H s hr hc=>(h H s hr hc).mono fun _ _ ⟨x,s',a,b,c,_⟩=>⟨x,s',a,b,c⟩
theorem RfS.bot (h:RfS P G l f r more T D S):RfS P G l f r more (fun _=>(.bot:Res α)) D S:=fun H s hr hc=>by
 rcases s.cases with c | ⟨k,rfl⟩
 ·refine(h H s hr (.bad c)).mono ?_;rintro e H' ⟨x,s',a,b,d,g⟩;refine⟨x,s',a,b,?_,g⟩;rw[Aft,if_pos c] at d⊢;exact d
 ·exact absurd rfl hc.good.2
end
set_option maxHeartbeats 8000000 in
theorem Bh7 (hl:l.length<=800000) (p:PS) (hA:p.Adv l) (hp:RfC Tryz.prog G l 59 r [] p.simple dE) (hrs: ∀x,RfC Tryz.prog G l 101 r [.agg (dEx x)] (p.rest x) dE):RfS Tryz.prog G l 121 r [] (Ba l p).choice dC ChS:=by
 intro H s hr hc;have eT: ∀k,(Ba l p).choice k=if isW l k [Ff] then .ok (.mk 3 []) (k+1) else(p.simple k).then fun x k=>if isW l k [Dz] then(p.simple (k+1)).then fun y k=> .ok (.mk 2 [x,y]) k else(p.rest x k).then fun x k=> .ok (.mk 1 [x]) k:=fun _=>rfl
 refine Ad Tryz.func121 Tryz.call121 rfl (by kernel_rfl) ?_;simp(disch:=omega) only[go_sem,↓reduceIte];intro r2 hr2;dsimp only at hr2;obtain⟨K,hK⟩: ∃K,K=upd H r2 (some (.cells [.int .u8 0, .nilSlice] 47)):=⟨_,rfl⟩;rw[<-hK];have gr2:K r2=some (.cells [.int .u8 0, .nilSlice] 47):=by rw[hK];exact Aa _ _ _
 have n2:r≠r2:=Ae hr2 hr;have q2:=n2.symm;have hat:FAt r l s H K:=by rw[hK];exact(FAt.refl hr).new hr2 _
 simp(disch:=omega) only[go_sem,↓reduceIte];refine Ai.monoR (Mi G K Ff (by decide+kernel) hat.get (by omega) (hc.kb hl)) ?_;cases b1:(!s.bad&&isW l s.k [Ff]) with
 | true=>
  obtain⟨k,rfl,hw⟩:=Ey b1;rw[Ew hw];simp(disch:=omega) only[go_sem,↓reduceIte,gr2,n2,q2];have hs:Sub (upd H r (some (rfO l ⟨k+1,false⟩))) (upd (upd K r (some (rfO l ⟨k+1,false⟩))) r2 (some (.cells [.int .u8 3, .nilSlice] 47))):=(hat.set _).own hr2 q2 _;refine Fc.fin hs (Fc.agg (Fc.choice hs (.exs0 hs))) ⟨_,⟨k+1,false⟩,rfl,rfl,?_,fun h=> ?_⟩
  ·exact Aft.good.2 (by rw[eT,if_pos hw];exact⟨rfl,rfl⟩)
  ·cases h
 | false=>
  rw[Fx b1,Be hat.get];have eK:s.bad=false->(Ba l p).choice s.k=(p.simple s.k).then fun x k=>if isW l k [Dz] then(p.simple (k+1)).then fun y k=> .ok (.mk 2 [x,y]) k else(p.rest x k).then fun x k=> .ok (.mk 1 [x]) k:=fun hb=>by rw[eT,Dp b1 hb,if_neg (by simp)]
  have hc1:Can l (fun k=>(p.simple k).then fun x k=>if isW l k [Dz] then(p.simple (k+1)).then fun y k=>Res.ok (Ch.mk 2 [x,y]) k else(p.rest x k).then fun x k=> .ok (.mk 1 [x]) k) s:=Can.eq eK hc;simp(disch:=omega) only[go_sem,↓reduceIte];refine(hp K s hat.get (Can.then1 hc1)).mono ?_;rintro _ K1 ⟨x,s1,rfl,hK1,ha⟩;have hat1:FAt r l s1 H K1:=by rw[hK1];exact hat.set s1
  have g12:K1 r2=some (.cells [.int .u8 0, .nilSlice] 47):=by rw[hK1];exact Ag gr2 q2
  have hc2:=Can.then2 hc1 ha fun hb=>hA.simple _ (hc hb).1;clear hK1;have hlx:=Ah x;have hox:=Al x;simp(disch:=omega) only[go_sem,↓reduceIte,dE];intro r3 hr3;dsimp only at hr3;have n3:r≠r3:=Ae hr3 hat1.get;have q3:=n3.symm;have n23:r2≠r3:=Ae hr3 g12;have q23:=n23.symm;simp(disch:=omega) only[go_sem,↓reduceIte,hlx,hox];obtain⟨K2,hK2⟩: ∃K2,K2=upd K1 r3 (some (.cells (dEx x) 27)):=⟨_,rfl⟩;rw[<-hK2];have h3:H r3=none:=hat1.lo hr3;have hat2:FAt r l s1 H K2:=by rw[hK2];exact hat1.new hr3 _
  have g22:K2 r2=some (.cells [.int .u8 0, .nilSlice] 47):=by rw[hK2];exact Ag g12 n23
  have g23:K2 r3=some (.cells (dEx x) 27):=by rw[hK2];exact Aa _ _ _
  clear hK2;refine Ai.monoR (Ef G K2 Dz (by decide+kernel) hat2.get (by omega) (hc2.kb hl)) ?_;cases b2:(!s1.bad&&isW l s1.k [Dz]) with
  | true=>
   obtain⟨k,rfl,hw⟩:=Ey b2;rw[Ew hw];have hk1:=Am hw hc2.good.1;rw[List.length_singleton] at hk1;have hV:Can l (fun k=>(p.simple k).then fun y k=>Res.ok (Ch.mk 2 [x,y]) k) ⟨k+1,false⟩:=Can.at (by rw[hw];rfl) hk1 hc2;simp(disch:=omega) only[go_sem,↓reduceIte];refine Aj (by kernel_rfl) (.take 0 (.take 1 (.go 2 [0] (.go 3 [] (.take 4 (.go 5 [] .done)))))) (by kernel_rfl) ?_;simp(disch:=omega) only[go_sem,↓reduceIte,g23,n3,q3];refine(hp _ ⟨k+1,false⟩ (Aa _ _ _) (Can.then1 hV)).mono ?_;rintro _ K3 ⟨y,s2,rfl,hK3,ha2⟩;rw[Da] at hK3;have hat3:FAt r l s2 H K3:=by rw[hK3];exact hat2.set s2
   have g32:K3 r2=some (.cells [.int .u8 0, .nilSlice] 47):=by rw[hK3];exact Ag g22 q2
   have g33:K3 r3=some (.cells (dEx x) 27):=by rw[hK3];exact Ag g23 q3
   have hly:=Ah y;simp(disch:=omega) only[go_sem,↓reduceIte,dE,g33];refine⟨by rw[if_neg q3,g23],?_⟩;rw[Gk hlx hly];try simp(disch:=omega) only[go_sem,↓reduceIte]
   intro q hq;dsimp only at hq;have n2q:r2≠q:=Ae hq g32;have nq2:=n2q.symm;simp(disch:=omega) only[go_sem,↓reduceIte,g32,n2q,nq2];have hs:=(hat3.new hq (some (.cells (dEx x++dEx y) 27))).own hr2 q2 (some (.cells [.int .u8 2, .oslice 9 q 0 2 2] 47));refine Fc.fin hs (Fc.agg (Fc.choice (m:= [x,y]) hs (Fc.block (e:=27) hs (Sub.lo hat3 hq) ?_ ?_))) ⟨_,s2,rfl,rfl,?_,fun h=> ?_⟩
   ·rw[show [x,y].flatMap dEx=dEx x++dEx y by simp];simp [upd,n2q,nq2]
   ·rw[show [x,y].flatMap dEx=dEx x++dEx y by simp,List.length_append,hlx,hly]
   ·exact Aft.eq (U:=fun k=>(p.simple k).then fun x k=>if isW l k [Dz] then(p.simple (k+1)).then fun y k=>Res.ok (Ch.mk 2 [x,y]) k else(p.rest x k).then fun x k=> .ok (.mk 1 [x]) k) eK (ha.then (Aft.at (U:=fun k=>(p.simple k).then fun y k=>Res.ok (Ch.mk 2 [x,y]) k) (by rw[hw];rfl) (ha2.then .pure)))
   ·cases h
  | false=>
   rw[Fx b2,Be hat2.get];simp(disch:=omega) only[go_sem,↓reduceIte,g23,hlx,hox];have eV:s1.bad=false->(if isW l s1.k [Dz]=true then(p.simple (s1.k+1)).then fun y k=>Res.ok (Ch.mk 2 [x,y]) k else(p.rest x s1.k).then fun x k=> .ok (.mk 1 [x]) k)=(p.rest x s1.k).then fun x k=> .ok (.mk 1 [x]) k:=fun hb=>by rw[Dp b2 hb];rfl
   have hV:Can l (fun k=>(p.rest x k).then fun x k=>Res.ok (Ch.mk 1 [x]) k) s1:=Can.eq eV hc2;refine(hrs x K2 s1 hat2.get (Can.then1 hV)).mono ?_;rintro _ K3 ⟨y,s2,rfl,hK3,ha2⟩;have hat3:FAt r l s2 H K3:=by rw[hK3];exact hat2.set s2
   have g32:K3 r2=some (.cells [.int .u8 0, .nilSlice] 47):=by rw[hK3];exact Ag g22 q2
   have hly:=Ah y;simp(disch:=omega) only[go_sem,↓reduceIte,dE];rw[Cy hly];try simp(disch:=omega) only[go_sem,↓reduceIte]
   intro q hq;dsimp only at hq;have n2q:r2≠q:=Ae hq g32;have nq2:=n2q.symm;simp(disch:=omega) only[go_sem,↓reduceIte,g32,n2q,nq2];have hs:=(hat3.new hq (some (.cells (dEx y) 27))).own hr2 q2 (some (.cells [.int .u8 1, .oslice 9 q 0 1 1] 47));refine Fc.fin hs (Fc.agg (Fc.choice (m:= [y]) hs (Fc.block (e:=27) hs (Sub.lo hat3 hq) ?_ ?_))) ⟨_,s2,rfl,rfl,?_,fun h=> ?_⟩
   ·rw[List.flatMap_singleton];simp [upd,n2q,nq2]
   ·rw[List.flatMap_singleton,hly]
   ·exact Aft.eq (U:=fun k=>(p.simple k).then fun x k=>if isW l k [Dz] then(p.simple (k+1)).then fun y k=>Res.ok (Ch.mk 2 [x,y]) k else(p.rest x k).then fun x k=> .ok (.mk 1 [x]) k) eK (ha.then (Aft.eq (U:=fun k=>(p.rest x k).then fun x k=>Res.ok (Ch.mk 1 [x]) k) eV (ha2.then .pure)))
   ·exact⟨_,rfl⟩
set_option maxHeartbeats 8000000 in
theorem Aj6 (hl:l.length<=800000) (p:PS) (hp:RfC Tryz.prog G l 57 r [] p.expr dE):RfC Tryz.prog G l 117 r [] (Ba l p).arg dA:=by
 intro H s hr hc;have eT: ∀k,(Ba l p).arg k=if(tk l k).kind=1/\isW l (k+1) [Ap]=true then(p.expr (k+2)).then fun e k'=> .ok (.mk [.mk 1 [.mk 3 0 0 (tk l k).text [] [] (tk l k).line 0 0]] e) k' else(p.expr k).then fun e k=> .ok (.mk [] e) k:=fun _=>rfl
 refine Ad Tryz.func117 Tryz.call117 rfl (by kernel_rfl) ?_;simp(disch:=omega) only[go_sem,↓reduceIte];intro r2 hr2;dsimp only at hr2;obtain⟨K,hK⟩: ∃K,K=upd H r2 (some (.cells [.nilSlice, .int .u8 0, .int .u8 0, .int .i64 0, .str [], .nilSlice, .nilSlice, .int .i64 0, .int .i64 0, .int .i64 0] 44)):=⟨_,rfl⟩;rw[<-hK];have gr2:K r2=some (.cells [.nilSlice, .int .u8 0, .int .u8 0, .int .i64 0, .str [], .nilSlice, .nilSlice, .int .i64 0, .int .i64 0, .int .i64 0] 44):=by rw[hK];exact Aa _ _ _
 have n2:r≠r2:=Ae hr2 hr;have q2:=n2.symm;have qr2:=n2.symm;have hat:FAt r l s H K:=by rw[hK];exact(FAt.refl hr).new hr2 _
 simp(disch:=omega) only[go_sem,↓reduceIte];refine Ai.monoR (Xo G K 1 hat.get (by omega) (hc.kb hl) (by decide)) ?_;have hplain:(s.bad=false-> ¬((tk l s.k).kind=1/\isW l (s.k+1) [Ap]=true))->(s.bad=false->(Ba l p).arg s.k=(p.expr s.k).then fun e k=> .ok (.mk [] e) k):=fun h hb=>by rw[eT,if_neg (h hb)]
 cases b1:(!s.bad&&decide ((tk l s.k).kind=1)) with
 | true=>
  obtain⟨k,b⟩:=s;simp only[Bool.and_eq_true,Bool.not_eq_true',decide_eq_true_eq] at b1;obtain⟨rfl,b1⟩:=b1;dsimp only at hat hplain⊢
  simp(disch:=omega) only[go_sem,↓reduceIte];refine Ai.monoR (Dh G K 1 4 Ap hat.get (by omega) (hc.kb hl) (by decide) (by decide)) ?_;rw[Mh (show Ea Ap=4 by decide+kernel)];simp only[Bool.not_false,Bool.true_and];cases b2:isW l (k+1) [Ap] with
  | true=>
   have hlt:k<l.length:=Jj (by rw[b1];decide);have hlt':(k:Int)<(l.length:Int):=by omega
   have g2:(l.flatMap Ec)[k*4+2]? =some (.str l[k].text):=Bs Bm l _ hlt 2 (by omega);have hfl:=An Bm l;have gr:=hat.get;unfold rfO at gr;dsimp only at gr;simp(disch:=omega) only[go_sem,↓reduceIte];refine Aj (by kernel_rfl) (.take 0 (.take 1 (.take 2 (.take 3 (.take 4 (.take 5 (.take 6 (.take 7 (.take 8 (.take 9 (.take 10 (.take 11 (.alt (.go 14 [10,7,3] (.go 12 [10,7,3] (.take 13 (.go 15 [] .done)))) (.go 12 [10,7,3] (.take 13 (.go 14 [10,7,3] (.go 15 [] .done))))))))))))))))) (by kernel_rfl) ?_;simp(disch:=omega) only[go_sem,↓reduceIte,gr,hlt',Cc,g2,hfl,Int.toNat_natCast];have hk2:k+2<=l.length:=by have:=Am b2 (by omega);exact this
   have hw:IntKind.i64.wrap ((k:Int)+2)=((k+2:Nat):Int):=by rw[IntKind.wrap_i64];omega
   have eK2:(Ba l p).arg k=(p.expr (k+2)).then fun e k'=>Res.ok (As.mk [.mk 1 [Ex.mk 3 0 0 l[k].text [] [] (tk l k).line 0 0]] e) k':=by rw[eT,if_pos ⟨b1,b2⟩,Ah2 hlt]
   have hcE:Can l (fun k'=>(p.expr k').then fun e k'=>Res.ok (As.mk [.mk 1 [Ex.mk 3 0 0 l[k].text [] [] (tk l k).line 0 0]] e) k') ⟨k+2,false⟩:=Can.at eK2 hk2 hc;refine⟨?_,?_⟩
   ·intro r3 hr3;dsimp only at hr3;have n3:r≠r3:=Ae hr3 hat.get;have q3:=n3.symm;have n23:r2≠r3:=Ae hr3 gr2;have q23:=n23.symm;simp(disch:=omega) only[go_sem,↓reduceIte,gr,n3,q3];refine Ai.monoR (Hl G _ (hat.new hr3 _).get (by omega)) ?_;simp(disch:=omega) only[go_sem,↓reduceIte,n3,q3,n23,q23];obtain⟨K2,hK2⟩: ∃K2,K2=upd K r3 (some (.cells [.int .u8 3, .int .u8 0, .int .i64 0, .str l[k].text, .nilSlice, .nilSlice, .int .i64 (tk l k).line, .int .i64 0, .int .i64 0] 27)):=⟨_,rfl⟩;rw[<-hK2];have hat2:FAt r l ⟨k,false⟩ H K2:=by rw[hK2];exact hat.new hr3 _
    have g22:K2 r2=some (.cells [.nilSlice, .int .u8 0, .int .u8 0, .int .i64 0, .str [], .nilSlice, .nilSlice, .int .i64 0, .int .i64 0, .int .i64 0] 44):=by rw[hK2];exact Ag gr2 n23
    have g23:K2 r3=some (.cells [.int .u8 3, .int .u8 0, .int .i64 0, .str l[k].text, .nilSlice, .nilSlice, .int .i64 (tk l k).line, .int .i64 0, .int .i64 0] 27):=by rw[hK2];exact Aa _ _ _
    clear hK2;have gr2':=hat2.get;unfold rfO at gr2';dsimp only at gr2';simp(disch:=omega) only[go_sem,↓reduceIte,gr,gr2',hw];have hat3:=hat2.set ⟨k+2,false⟩;obtain⟨K3,hK3⟩: ∃K3,K3=upd K2 r (some (rfO l ⟨k+2,false⟩)):=⟨_,rfl⟩;have g32:K3 r2=some (.cells [.nilSlice, .int .u8 0, .int .u8 0, .int .i64 0, .str [], .nilSlice, .nilSlice, .int .i64 0, .int .i64 0, .int .i64 0] 44):=by rw[hK3];exact Ag g22 qr2
    have g33:K3 r3=some (.cells [.int .u8 3, .int .u8 0, .int .i64 0, .str l[k].text, .nilSlice, .nilSlice, .int .i64 (tk l k).line, .int .i64 0, .int .i64 0] 27):=by rw[hK3];exact Ag g23 q3
    rw[<-hK3] at hat3;refine Aj (by kernel_rfl) (.take 0 (.take 4 (.alt (.go 5 [0] (.go 1 [] (.take 2 (.go 3 [] (.take 6 (.go 7 [] .done)))))) (.go 1 [] (.take 2 (.alt (.go 5 [0] (.go 3 [] (.take 6 (.go 7 [] .done)))) (.go 3 [] (.go 5 [0] (.take 6 (.go 7 [] .done)))))))))) (by kernel_rfl) ?_;try rw[show(upd K2 r (some (.cells [Cc l, .int .i64 ((k+2:Nat):Int), .bool false] 89)))=K3 from hK3.symm]
    simp(disch:=omega) only[go_sem,↓reduceIte,g33,g23,n3,q3];refine⟨?_,?_⟩
    ·refine(hp K3 ⟨k+2,false⟩ (hat3).get (Can.then1 hcE)).mono ?_;rintro _ K4 ⟨x,s1,rfl,hK4,ha⟩;have hat4:FAt r l s1 H K4:=by rw[hK4];exact(hat3).set s1
     have g42:K4 r2=some (.cells [.nilSlice, .int .u8 0, .int .u8 0, .int .i64 0, .str [], .nilSlice, .nilSlice, .int .i64 0, .int .i64 0, .int .i64 0] 44):=by rw[hK4];exact Ag g32 qr2
     have g43:K4 r3=some (.cells [.int .u8 3, .int .u8 0, .int .i64 0, .str l[k].text, .nilSlice, .nilSlice, .int .i64 (tk l k).line, .int .i64 0, .int .i64 0] 27):=by rw[hK4];exact Ag g33 q3
     have hlx:=Ah x;have hox:=Al x;simp(disch:=omega) only[go_sem,↓reduceIte,dE];refine⟨by rw[g33];exact g43,?_⟩;try simp(disch:=omega) only[go_sem,↓reduceIte,Cm,List.length_cons,List.length_nil,List.drop_succ_cons,List.drop_zero,List.drop_nil,List.append_nil,List.cons_append,List.nil_append]
     intro q1 hq1;dsimp only at hq1;have p1r:q1≠r:=(Ae hq1 (hat4).get).symm;have p1s:q1≠r2:=(Ae hq1 g42).symm;have s1p:r2≠q1:=p1s.symm;have r1p:r≠q1:=p1r.symm;have hh1:H q1=none:=(hat4).lo hq1;obtain⟨KA,hKA⟩: ∃KA,KA=upd K4 q1 (some (.cells [.int .u8 3, .int .u8 0, .int .i64 0, .str l[k].text, .nilSlice, .nilSlice, .int .i64 (tk l k).line, .int .i64 0, .int .i64 0] 27)):=⟨_,rfl⟩;rw[<-hKA];have hatA:=(hat4).new hq1 (some (.cells [.int .u8 3, .int .u8 0, .int .i64 0, .str l[k].text, .nilSlice, .nilSlice, .int .i64 (tk l k).line, .int .i64 0, .int .i64 0] 27));rw[<-hKA] at hatA;have gA2:KA r2=some (.cells [.nilSlice, .int .u8 0, .int .u8 0, .int .i64 0, .str [], .nilSlice, .nilSlice, .int .i64 0, .int .i64 0, .int .i64 0] 44):=by rw[hKA];exact Ag g42 s1p
     have gA1:KA q1=some (.cells [.int .u8 3, .int .u8 0, .int .i64 0, .str l[k].text, .nilSlice, .nilSlice, .int .i64 (tk l k).line, .int .i64 0, .int .i64 0] 27):=by rw[hKA];exact Aa _ _ _
     have gA3:KA r3=some (.cells [.int .u8 3, .int .u8 0, .int .i64 0, .str l[k].text, .nilSlice, .nilSlice, .int .i64 (tk l k).line, .int .i64 0, .int .i64 0] 27):=by rw[hKA];exact Ag g43 (Ae hq1 g43)
     clear hKA;try simp(disch:=omega) only[go_sem,↓reduceIte,Cm,List.length_cons,List.length_nil,List.drop_succ_cons,List.drop_zero,List.drop_nil,List.append_nil,List.cons_append,List.nil_append]
     intro q2 hq2;dsimp only at hq2;have p2r:q2≠r:=(Ae hq2 (hatA).get).symm;have p2s:q2≠r2:=(Ae hq2 gA2).symm;have s2p:r2≠q2:=p2s.symm;have hh2:H q2=none:=(hatA).lo hq2;have p12:q1≠q2:=Ae hq2 gA1;obtain⟨KB,hKB⟩: ∃KB,KB=upd KA q2 (some (.cells [.int .u8 1, .oslice 9 q1 0 1 1] 47)):=⟨_,rfl⟩;rw[<-hKB];have hatB:=(hatA).new hq2 (some (.cells [.int .u8 1, .oslice 9 q1 0 1 1] 47));rw[<-hKB] at hatB;have gB2:KB r2=some (.cells [.nilSlice, .int .u8 0, .int .u8 0, .int .i64 0, .str [], .nilSlice, .nilSlice, .int .i64 0, .int .i64 0, .int .i64 0] 44):=by rw[hKB];exact Ag gA2 s2p
     have gB1:KB q1=some (.cells [.int .u8 3, .int .u8 0, .int .i64 0, .str l[k].text, .nilSlice, .nilSlice, .int .i64 (tk l k).line, .int .i64 0, .int .i64 0] 27):=by rw[hKB];exact Ag gA1 p12
     have gBq:KB q2=some (.cells [.int .u8 1, .oslice 9 q1 0 1 1] 47):=by rw[hKB];exact Aa _ _ _
     have gB3:KB r3=some (.cells [.int .u8 3, .int .u8 0, .int .i64 0, .str l[k].text, .nilSlice, .nilSlice, .int .i64 (tk l k).line, .int .i64 0, .int .i64 0] 27):=by rw[hKB];exact Ag gA3 (Ae hq2 gA3)
     clear hKB;simp(disch:=omega) only[go_sem,↓reduceIte,gB2,dE,hlx,hox];have hs:=(hatB).own hr2 qr2 (some (.cells (.oslice 2 q2 0 1 1::dEx x) 44));have gf1:=Ag (y:=(some (.cells (.oslice 2 q2 0 1 1::dEx x) 44))) gB1 p1s;have gf2:=Ag (y:=(some (.cells (.oslice 2 q2 0 1 1::dEx x) 44))) gBq p2s;have hB1:(upd H r (some (rfO l s1))) q1=none:=by simp only[upd,if_neg p1r];exact hh1
     have hB2:(upd H r (some (rfO l s1))) q2=none:=by simp only[upd,if_neg p2r];exact hh2
     refine Fc.fin hs (Fc.agg (Fc.assoc (c:= [.mk 1 [Ex.mk 3 0 0 l[k].text [] [] (tk l k).line 0 0]]) hs (Fc.cells (e:=47) (size:=2) (n:=1) (cs':= [Ch.mk 1 [Ex.mk 3 0 0 l[k].text [] [] (tk l k).line 0 0]].flatMap dCh) hs hB2 gf2 rfl ?_))) ⟨_,s1,rfl,rfl,?_⟩
     ·rw[List.flatMap_singleton];refine Fc.choice (m:= [Ex.mk 3 0 0 l[k].text [] [] (tk l k).line 0 0]) hs (Fc.cells (e:=27) (size:=9) (n:=1) (cs':= [Ex.mk 3 0 0 l[k].text [] [] (tk l k).line 0 0].flatMap dEx) hs hB1 gf1 rfl ?_);rw[List.flatMap_singleton];exact Fc.ex hs (.exs0 hs) (.as0 hs)
     ·exact Aft.at (U:=fun k'=>(p.expr k').then fun e k'=>Res.ok (As.mk [.mk 1 [Ex.mk 3 0 0 l[k].text [] [] (tk l k).line 0 0]] e) k') eK2 (ha.then .pure)
    ·try simp(disch:=omega) only[go_sem,↓reduceIte,Cm,List.length_cons,List.length_nil,List.drop_succ_cons,List.drop_zero,List.drop_nil,List.append_nil,List.cons_append,List.nil_append]
     intro q1 hq1;dsimp only at hq1;have p1r:q1≠r:=(Ae hq1 (hat3).get).symm;have p1s:q1≠r2:=(Ae hq1 g32).symm;have s1p:r2≠q1:=p1s.symm;have r1p:r≠q1:=p1r.symm;have hh1:H q1=none:=(hat3).lo hq1;obtain⟨KA,hKA⟩: ∃KA,KA=upd K3 q1 (some (.cells [.int .u8 3, .int .u8 0, .int .i64 0, .str l[k].text, .nilSlice, .nilSlice, .int .i64 (tk l k).line, .int .i64 0, .int .i64 0] 27)):=⟨_,rfl⟩;rw[<-hKA];have hatA:=(hat3).new hq1 (some (.cells [.int .u8 3, .int .u8 0, .int .i64 0, .str l[k].text, .nilSlice, .nilSlice, .int .i64 (tk l k).line, .int .i64 0, .int .i64 0] 27));rw[<-hKA] at hatA;have gA2:KA r2=some (.cells [.nilSlice, .int .u8 0, .int .u8 0, .int .i64 0, .str [], .nilSlice, .nilSlice, .int .i64 0, .int .i64 0, .int .i64 0] 44):=by rw[hKA];exact Ag g32 s1p
     have gA1:KA q1=some (.cells [.int .u8 3, .int .u8 0, .int .i64 0, .str l[k].text, .nilSlice, .nilSlice, .int .i64 (tk l k).line, .int .i64 0, .int .i64 0] 27):=by rw[hKA];exact Aa _ _ _
     have gA3:KA r3=some (.cells [.int .u8 3, .int .u8 0, .int .i64 0, .str l[k].text, .nilSlice, .nilSlice, .int .i64 (tk l k).line, .int .i64 0, .int .i64 0] 27):=by rw[hKA];exact Ag g33 (Ae hq1 g33)
     clear hKA;try simp(disch:=omega) only[go_sem,↓reduceIte,gA3,g33,Cm,List.length_cons,List.length_nil,List.drop_succ_cons,List.drop_zero,List.drop_nil,List.append_nil,List.cons_append,List.nil_append]
     refine⟨?_,?_⟩
     ·refine(hp KA ⟨k+2,false⟩ (hatA).get (Can.then1 hcE)).mono ?_;rintro _ K4 ⟨x,s1,rfl,hK4,ha⟩;have hat4:FAt r l s1 H K4:=by rw[hK4];exact(hatA).set s1
      have g42:K4 r2=some (.cells [.nilSlice, .int .u8 0, .int .u8 0, .int .i64 0, .str [], .nilSlice, .nilSlice, .int .i64 0, .int .i64 0, .int .i64 0] 44):=by rw[hK4];exact Ag gA2 qr2
      have g43:K4 r3=some (.cells [.int .u8 3, .int .u8 0, .int .i64 0, .str l[k].text, .nilSlice, .nilSlice, .int .i64 (tk l k).line, .int .i64 0, .int .i64 0] 27):=by rw[hK4];exact Ag gA3 q3
      have hlx:=Ah x;have hox:=Al x;have g4q:K4 q1=some (.cells [.int .u8 3, .int .u8 0, .int .i64 0, .str l[k].text, .nilSlice, .nilSlice, .int .i64 (tk l k).line, .int .i64 0, .int .i64 0] 27):=by rw[hK4];exact Ag gA1 p1r
      simp(disch:=omega) only[go_sem,↓reduceIte,dE];refine⟨by rw[g43,gA3],?_⟩;try simp(disch:=omega) only[go_sem,↓reduceIte,Cm,List.length_cons,List.length_nil,List.drop_succ_cons,List.drop_zero,List.drop_nil,List.append_nil,List.cons_append,List.nil_append]
      intro q2 hq2;dsimp only at hq2;have p2r:q2≠r:=(Ae hq2 (hat4).get).symm;have p2s:q2≠r2:=(Ae hq2 g42).symm;have s2p:r2≠q2:=p2s.symm;have hh2:H q2=none:=(hat4).lo hq2;have p12:q1≠q2:=Ae hq2 g4q;obtain⟨KB,hKB⟩: ∃KB,KB=upd K4 q2 (some (.cells [.int .u8 1, .oslice 9 q1 0 1 1] 47)):=⟨_,rfl⟩;rw[<-hKB];have hatB:=(hat4).new hq2 (some (.cells [.int .u8 1, .oslice 9 q1 0 1 1] 47));rw[<-hKB] at hatB;have gB2:KB r2=some (.cells [.nilSlice, .int .u8 0, .int .u8 0, .int .i64 0, .str [], .nilSlice, .nilSlice, .int .i64 0, .int .i64 0, .int .i64 0] 44):=by rw[hKB];exact Ag g42 s2p
      have gB1:KB q1=some (.cells [.int .u8 3, .int .u8 0, .int .i64 0, .str l[k].text, .nilSlice, .nilSlice, .int .i64 (tk l k).line, .int .i64 0, .int .i64 0] 27):=by rw[hKB];exact Ag g4q p12
      have gBq:KB q2=some (.cells [.int .u8 1, .oslice 9 q1 0 1 1] 47):=by rw[hKB];exact Aa _ _ _
      have gB3:KB r3=some (.cells [.int .u8 3, .int .u8 0, .int .i64 0, .str l[k].text, .nilSlice, .nilSlice, .int .i64 (tk l k).line, .int .i64 0, .int .i64 0] 27):=by rw[hKB];exact Ag g43 (Ae hq2 g43)
      clear hKB;simp(disch:=omega) only[go_sem,↓reduceIte,gB2,dE,hlx,hox];have hs:=(hatB).own hr2 qr2 (some (.cells (.oslice 2 q2 0 1 1::dEx x) 44));have gf1:=Ag (y:=(some (.cells (.oslice 2 q2 0 1 1::dEx x) 44))) gB1 p1s;have gf2:=Ag (y:=(some (.cells (.oslice 2 q2 0 1 1::dEx x) 44))) gBq p2s;have hB1:(upd H r (some (rfO l s1))) q1=none:=by simp only[upd,if_neg p1r];exact hh1
      have hB2:(upd H r (some (rfO l s1))) q2=none:=by simp only[upd,if_neg p2r];exact hh2
      refine Fc.fin hs (Fc.agg (Fc.assoc (c:= [.mk 1 [Ex.mk 3 0 0 l[k].text [] [] (tk l k).line 0 0]]) hs (Fc.cells (e:=47) (size:=2) (n:=1) (cs':= [Ch.mk 1 [Ex.mk 3 0 0 l[k].text [] [] (tk l k).line 0 0]].flatMap dCh) hs hB2 gf2 rfl ?_))) ⟨_,s1,rfl,rfl,?_⟩
      ·rw[List.flatMap_singleton];refine Fc.choice (m:= [Ex.mk 3 0 0 l[k].text [] [] (tk l k).line 0 0]) hs (Fc.cells (e:=27) (size:=9) (n:=1) (cs':= [Ex.mk 3 0 0 l[k].text [] [] (tk l k).line 0 0].flatMap dEx) hs hB1 gf1 rfl ?_);rw[List.flatMap_singleton];exact Fc.ex hs (.exs0 hs) (.as0 hs)
      ·exact Aft.at (U:=fun k'=>(p.expr k').then fun e k'=>Res.ok (As.mk [.mk 1 [Ex.mk 3 0 0 l[k].text [] [] (tk l k).line 0 0]] e) k') eK2 (ha.then .pure)
     ·try simp(disch:=omega) only[go_sem,↓reduceIte,Cm,List.length_cons,List.length_nil,List.drop_succ_cons,List.drop_zero,List.drop_nil,List.append_nil,List.cons_append,List.nil_append]
      intro q2 hq2;dsimp only at hq2;have p2r:q2≠r:=(Ae hq2 (hatA).get).symm;have p2s:q2≠r2:=(Ae hq2 gA2).symm;have s2p:r2≠q2:=p2s.symm;have hh2:H q2=none:=(hatA).lo hq2;have p12:q1≠q2:=Ae hq2 gA1;obtain⟨KB,hKB⟩: ∃KB,KB=upd KA q2 (some (.cells [.int .u8 1, .oslice 9 q1 0 1 1] 47)):=⟨_,rfl⟩;rw[<-hKB];have hatB:=(hatA).new hq2 (some (.cells [.int .u8 1, .oslice 9 q1 0 1 1] 47));rw[<-hKB] at hatB;have gB2:KB r2=some (.cells [.nilSlice, .int .u8 0, .int .u8 0, .int .i64 0, .str [], .nilSlice, .nilSlice, .int .i64 0, .int .i64 0, .int .i64 0] 44):=by rw[hKB];exact Ag gA2 s2p
      have gB1:KB q1=some (.cells [.int .u8 3, .int .u8 0, .int .i64 0, .str l[k].text, .nilSlice, .nilSlice, .int .i64 (tk l k).line, .int .i64 0, .int .i64 0] 27):=by rw[hKB];exact Ag gA1 p12
      have gBq:KB q2=some (.cells [.int .u8 1, .oslice 9 q1 0 1 1] 47):=by rw[hKB];exact Aa _ _ _
      have gB3:KB r3=some (.cells [.int .u8 3, .int .u8 0, .int .i64 0, .str l[k].text, .nilSlice, .nilSlice, .int .i64 (tk l k).line, .int .i64 0, .int .i64 0] 27):=by rw[hKB];exact Ag gA3 (Ae hq2 gA3)
      clear hKB;try simp(disch:=omega) only[go_sem,↓reduceIte,gA3,gB3,g33,Cm,List.length_cons,List.length_nil,List.drop_succ_cons,List.drop_zero,List.drop_nil,List.append_nil,List.cons_append,List.nil_append]
      refine(hp KB ⟨k+2,false⟩ (hatB).get (Can.then1 hcE)).mono ?_;rintro _ K4 ⟨x,s1,rfl,hK4,ha⟩;have hat4:FAt r l s1 H K4:=by rw[hK4];exact(hatB).set s1
      have g42:K4 r2=some (.cells [.nilSlice, .int .u8 0, .int .u8 0, .int .i64 0, .str [], .nilSlice, .nilSlice, .int .i64 0, .int .i64 0, .int .i64 0] 44):=by rw[hK4];exact Ag gB2 qr2
      have g43:K4 r3=some (.cells [.int .u8 3, .int .u8 0, .int .i64 0, .str l[k].text, .nilSlice, .nilSlice, .int .i64 (tk l k).line, .int .i64 0, .int .i64 0] 27):=by rw[hK4];exact Ag gB3 q3
      have hlx:=Ah x;have hox:=Al x;have g4q:K4 q1=some (.cells [.int .u8 3, .int .u8 0, .int .i64 0, .str l[k].text, .nilSlice, .nilSlice, .int .i64 (tk l k).line, .int .i64 0, .int .i64 0] 27):=by rw[hK4];exact Ag gB1 p1r
      have g4c:K4 q2=some (.cells [.int .u8 1, .oslice 9 q1 0 1 1] 47):=by rw[hK4];exact Ag gBq p2r
      simp(disch:=omega) only[go_sem,↓reduceIte,dE];try refine⟨by rw[g43,gB3],?_⟩
      simp(disch:=omega) only[go_sem,↓reduceIte,g42,dE,hlx,hox];have hs:=(hat4).own hr2 qr2 (some (.cells (.oslice 2 q2 0 1 1::dEx x) 44));have gf1:=Ag (y:=(some (.cells (.oslice 2 q2 0 1 1::dEx x) 44))) g4q p1s;have gf2:=Ag (y:=(some (.cells (.oslice 2 q2 0 1 1::dEx x) 44))) g4c p2s;have hB1:(upd H r (some (rfO l s1))) q1=none:=by simp only[upd,if_neg p1r];exact hh1
      have hB2:(upd H r (some (rfO l s1))) q2=none:=by simp only[upd,if_neg p2r];exact hh2
      refine Fc.fin hs (Fc.agg (Fc.assoc (c:= [.mk 1 [Ex.mk 3 0 0 l[k].text [] [] (tk l k).line 0 0]]) hs (Fc.cells (e:=47) (size:=2) (n:=1) (cs':= [Ch.mk 1 [Ex.mk 3 0 0 l[k].text [] [] (tk l k).line 0 0]].flatMap dCh) hs hB2 gf2 rfl ?_))) ⟨_,s1,rfl,rfl,?_⟩
      ·rw[List.flatMap_singleton];refine Fc.choice (m:= [Ex.mk 3 0 0 l[k].text [] [] (tk l k).line 0 0]) hs (Fc.cells (e:=27) (size:=9) (n:=1) (cs':= [Ex.mk 3 0 0 l[k].text [] [] (tk l k).line 0 0].flatMap dEx) hs hB1 gf1 rfl ?_);rw[List.flatMap_singleton];exact Fc.ex hs (.exs0 hs) (.as0 hs)
      ·exact Aft.at (U:=fun k'=>(p.expr k').then fun e k'=>Res.ok (As.mk [.mk 1 [Ex.mk 3 0 0 l[k].text [] [] (tk l k).line 0 0]] e) k') eK2 (ha.then .pure)
   ·refine Ai.monoR (Hl G K hat.get (by omega)) ?_;simp(disch:=omega) only[go_sem,↓reduceIte];intro r3 hr3;dsimp only at hr3;have n3:r≠r3:=Ae hr3 hat.get;have q3:=n3.symm;have n23:r2≠r3:=Ae hr3 gr2;have q23:=n23.symm;simp(disch:=omega) only[go_sem,↓reduceIte,n3,q3,n23,q23];obtain⟨K2,hK2⟩: ∃K2,K2=upd K r3 (some (.cells [.int .u8 3, .int .u8 0, .int .i64 0, .str l[k].text, .nilSlice, .nilSlice, .int .i64 (tk l k).line, .int .i64 0, .int .i64 0] 27)):=⟨_,rfl⟩;rw[<-hK2];have hat2:FAt r l ⟨k,false⟩ H K2:=by rw[hK2];exact hat.new hr3 _
    have g22:K2 r2=some (.cells [.nilSlice, .int .u8 0, .int .u8 0, .int .i64 0, .str [], .nilSlice, .nilSlice, .int .i64 0, .int .i64 0, .int .i64 0] 44):=by rw[hK2];exact Ag gr2 n23
    have g23:K2 r3=some (.cells [.int .u8 3, .int .u8 0, .int .i64 0, .str l[k].text, .nilSlice, .nilSlice, .int .i64 (tk l k).line, .int .i64 0, .int .i64 0] 27):=by rw[hK2];exact Aa _ _ _
    clear hK2;have gr2':=hat2.get;unfold rfO at gr2';dsimp only at gr2';simp(disch:=omega) only[go_sem,↓reduceIte,gr,gr2',hw];have hat3:=hat2.set ⟨k+2,false⟩;obtain⟨K3,hK3⟩: ∃K3,K3=upd K2 r (some (rfO l ⟨k+2,false⟩)):=⟨_,rfl⟩;have g32:K3 r2=some (.cells [.nilSlice, .int .u8 0, .int .u8 0, .int .i64 0, .str [], .nilSlice, .nilSlice, .int .i64 0, .int .i64 0, .int .i64 0] 44):=by rw[hK3];exact Ag g22 qr2
    have g33:K3 r3=some (.cells [.int .u8 3, .int .u8 0, .int .i64 0, .str l[k].text, .nilSlice, .nilSlice, .int .i64 (tk l k).line, .int .i64 0, .int .i64 0] 27):=by rw[hK3];exact Ag g23 q3
    rw[<-hK3] at hat3;refine Aj (by kernel_rfl) (.take 0 (.take 4 (.alt (.go 5 [0] (.go 1 [] (.take 2 (.go 3 [] (.take 6 (.go 7 [] .done)))))) (.go 1 [] (.take 2 (.alt (.go 5 [0] (.go 3 [] (.take 6 (.go 7 [] .done)))) (.go 3 [] (.go 5 [0] (.take 6 (.go 7 [] .done)))))))))) (by kernel_rfl) ?_;try rw[show(upd K2 r (some (.cells [Cc l, .int .i64 ((k+2:Nat):Int), .bool false] 89)))=K3 from hK3.symm]
    simp(disch:=omega) only[go_sem,↓reduceIte,g33,g23,n3,q3];refine⟨?_,?_⟩
    ·refine(hp K3 ⟨k+2,false⟩ (hat3).get (Can.then1 hcE)).mono ?_;rintro _ K4 ⟨x,s1,rfl,hK4,ha⟩;have hat4:FAt r l s1 H K4:=by rw[hK4];exact(hat3).set s1
     have g42:K4 r2=some (.cells [.nilSlice, .int .u8 0, .int .u8 0, .int .i64 0, .str [], .nilSlice, .nilSlice, .int .i64 0, .int .i64 0, .int .i64 0] 44):=by rw[hK4];exact Ag g32 qr2
     have g43:K4 r3=some (.cells [.int .u8 3, .int .u8 0, .int .i64 0, .str l[k].text, .nilSlice, .nilSlice, .int .i64 (tk l k).line, .int .i64 0, .int .i64 0] 27):=by rw[hK4];exact Ag g33 q3
     have hlx:=Ah x;have hox:=Al x;simp(disch:=omega) only[go_sem,↓reduceIte,dE];refine⟨by rw[g33];exact g43,?_⟩;try simp(disch:=omega) only[go_sem,↓reduceIte,Cm,List.length_cons,List.length_nil,List.drop_succ_cons,List.drop_zero,List.drop_nil,List.append_nil,List.cons_append,List.nil_append]
     intro q1 hq1;dsimp only at hq1;have p1r:q1≠r:=(Ae hq1 (hat4).get).symm;have p1s:q1≠r2:=(Ae hq1 g42).symm;have s1p:r2≠q1:=p1s.symm;have r1p:r≠q1:=p1r.symm;have hh1:H q1=none:=(hat4).lo hq1;obtain⟨KA,hKA⟩: ∃KA,KA=upd K4 q1 (some (.cells [.int .u8 3, .int .u8 0, .int .i64 0, .str l[k].text, .nilSlice, .nilSlice, .int .i64 (tk l k).line, .int .i64 0, .int .i64 0] 27)):=⟨_,rfl⟩;rw[<-hKA];have hatA:=(hat4).new hq1 (some (.cells [.int .u8 3, .int .u8 0, .int .i64 0, .str l[k].text, .nilSlice, .nilSlice, .int .i64 (tk l k).line, .int .i64 0, .int .i64 0] 27));rw[<-hKA] at hatA;have gA2:KA r2=some (.cells [.nilSlice, .int .u8 0, .int .u8 0, .int .i64 0, .str [], .nilSlice, .nilSlice, .int .i64 0, .int .i64 0, .int .i64 0] 44):=by rw[hKA];exact Ag g42 s1p
     have gA1:KA q1=some (.cells [.int .u8 3, .int .u8 0, .int .i64 0, .str l[k].text, .nilSlice, .nilSlice, .int .i64 (tk l k).line, .int .i64 0, .int .i64 0] 27):=by rw[hKA];exact Aa _ _ _
     have gA3:KA r3=some (.cells [.int .u8 3, .int .u8 0, .int .i64 0, .str l[k].text, .nilSlice, .nilSlice, .int .i64 (tk l k).line, .int .i64 0, .int .i64 0] 27):=by rw[hKA];exact Ag g43 (Ae hq1 g43)
     clear hKA;try simp(disch:=omega) only[go_sem,↓reduceIte,Cm,List.length_cons,List.length_nil,List.drop_succ_cons,List.drop_zero,List.drop_nil,List.append_nil,List.cons_append,List.nil_append]
     intro q2 hq2;dsimp only at hq2;have p2r:q2≠r:=(Ae hq2 (hatA).get).symm;have p2s:q2≠r2:=(Ae hq2 gA2).symm;have s2p:r2≠q2:=p2s.symm;have hh2:H q2=none:=(hatA).lo hq2;have p12:q1≠q2:=Ae hq2 gA1;obtain⟨KB,hKB⟩: ∃KB,KB=upd KA q2 (some (.cells [.int .u8 1, .oslice 9 q1 0 1 1] 47)):=⟨_,rfl⟩;rw[<-hKB];have hatB:=(hatA).new hq2 (some (.cells [.int .u8 1, .oslice 9 q1 0 1 1] 47));rw[<-hKB] at hatB;have gB2:KB r2=some (.cells [.nilSlice, .int .u8 0, .int .u8 0, .int .i64 0, .str [], .nilSlice, .nilSlice, .int .i64 0, .int .i64 0, .int .i64 0] 44):=by rw[hKB];exact Ag gA2 s2p
     have gB1:KB q1=some (.cells [.int .u8 3, .int .u8 0, .int .i64 0, .str l[k].text, .nilSlice, .nilSlice, .int .i64 (tk l k).line, .int .i64 0, .int .i64 0] 27):=by rw[hKB];exact Ag gA1 p12
     have gBq:KB q2=some (.cells [.int .u8 1, .oslice 9 q1 0 1 1] 47):=by rw[hKB];exact Aa _ _ _
     have gB3:KB r3=some (.cells [.int .u8 3, .int .u8 0, .int .i64 0, .str l[k].text, .nilSlice, .nilSlice, .int .i64 (tk l k).line, .int .i64 0, .int .i64 0] 27):=by rw[hKB];exact Ag gA3 (Ae hq2 gA3)
     clear hKB;simp(disch:=omega) only[go_sem,↓reduceIte,gB2,dE,hlx,hox];have hs:=(hatB).own hr2 qr2 (some (.cells (.oslice 2 q2 0 1 1::dEx x) 44));have gf1:=Ag (y:=(some (.cells (.oslice 2 q2 0 1 1::dEx x) 44))) gB1 p1s;have gf2:=Ag (y:=(some (.cells (.oslice 2 q2 0 1 1::dEx x) 44))) gBq p2s;have hB1:(upd H r (some (rfO l s1))) q1=none:=by simp only[upd,if_neg p1r];exact hh1
     have hB2:(upd H r (some (rfO l s1))) q2=none:=by simp only[upd,if_neg p2r];exact hh2
     refine Fc.fin hs (Fc.agg (Fc.assoc (c:= [.mk 1 [Ex.mk 3 0 0 l[k].text [] [] (tk l k).line 0 0]]) hs (Fc.cells (e:=47) (size:=2) (n:=1) (cs':= [Ch.mk 1 [Ex.mk 3 0 0 l[k].text [] [] (tk l k).line 0 0]].flatMap dCh) hs hB2 gf2 rfl ?_))) ⟨_,s1,rfl,rfl,?_⟩
     ·rw[List.flatMap_singleton];refine Fc.choice (m:= [Ex.mk 3 0 0 l[k].text [] [] (tk l k).line 0 0]) hs (Fc.cells (e:=27) (size:=9) (n:=1) (cs':= [Ex.mk 3 0 0 l[k].text [] [] (tk l k).line 0 0].flatMap dEx) hs hB1 gf1 rfl ?_);rw[List.flatMap_singleton];exact Fc.ex hs (.exs0 hs) (.as0 hs)
     ·exact Aft.at (U:=fun k'=>(p.expr k').then fun e k'=>Res.ok (As.mk [.mk 1 [Ex.mk 3 0 0 l[k].text [] [] (tk l k).line 0 0]] e) k') eK2 (ha.then .pure)
    ·try simp(disch:=omega) only[go_sem,↓reduceIte,Cm,List.length_cons,List.length_nil,List.drop_succ_cons,List.drop_zero,List.drop_nil,List.append_nil,List.cons_append,List.nil_append]
     intro q1 hq1;dsimp only at hq1;have p1r:q1≠r:=(Ae hq1 (hat3).get).symm;have p1s:q1≠r2:=(Ae hq1 g32).symm;have s1p:r2≠q1:=p1s.symm;have r1p:r≠q1:=p1r.symm;have hh1:H q1=none:=(hat3).lo hq1;obtain⟨KA,hKA⟩: ∃KA,KA=upd K3 q1 (some (.cells [.int .u8 3, .int .u8 0, .int .i64 0, .str l[k].text, .nilSlice, .nilSlice, .int .i64 (tk l k).line, .int .i64 0, .int .i64 0] 27)):=⟨_,rfl⟩;rw[<-hKA];have hatA:=(hat3).new hq1 (some (.cells [.int .u8 3, .int .u8 0, .int .i64 0, .str l[k].text, .nilSlice, .nilSlice, .int .i64 (tk l k).line, .int .i64 0, .int .i64 0] 27));rw[<-hKA] at hatA;have gA2:KA r2=some (.cells [.nilSlice, .int .u8 0, .int .u8 0, .int .i64 0, .str [], .nilSlice, .nilSlice, .int .i64 0, .int .i64 0, .int .i64 0] 44):=by rw[hKA];exact Ag g32 s1p
     have gA1:KA q1=some (.cells [.int .u8 3, .int .u8 0, .int .i64 0, .str l[k].text, .nilSlice, .nilSlice, .int .i64 (tk l k).line, .int .i64 0, .int .i64 0] 27):=by rw[hKA];exact Aa _ _ _
     have gA3:KA r3=some (.cells [.int .u8 3, .int .u8 0, .int .i64 0, .str l[k].text, .nilSlice, .nilSlice, .int .i64 (tk l k).line, .int .i64 0, .int .i64 0] 27):=by rw[hKA];exact Ag g33 (Ae hq1 g33)
     clear hKA;try simp(disch:=omega) only[go_sem,↓reduceIte,gA3,g33,Cm,List.length_cons,List.length_nil,List.drop_succ_cons,List.drop_zero,List.drop_nil,List.append_nil,List.cons_append,List.nil_append]
     refine⟨?_,?_⟩
     ·refine(hp KA ⟨k+2,false⟩ (hatA).get (Can.then1 hcE)).mono ?_;rintro _ K4 ⟨x,s1,rfl,hK4,ha⟩;have hat4:FAt r l s1 H K4:=by rw[hK4];exact(hatA).set s1
      have g42:K4 r2=some (.cells [.nilSlice, .int .u8 0, .int .u8 0, .int .i64 0, .str [], .nilSlice, .nilSlice, .int .i64 0, .int .i64 0, .int .i64 0] 44):=by rw[hK4];exact Ag gA2 qr2
      have g43:K4 r3=some (.cells [.int .u8 3, .int .u8 0, .int .i64 0, .str l[k].text, .nilSlice, .nilSlice, .int .i64 (tk l k).line, .int .i64 0, .int .i64 0] 27):=by rw[hK4];exact Ag gA3 q3
      have hlx:=Ah x;have hox:=Al x;have g4q:K4 q1=some (.cells [.int .u8 3, .int .u8 0, .int .i64 0, .str l[k].text, .nilSlice, .nilSlice, .int .i64 (tk l k).line, .int .i64 0, .int .i64 0] 27):=by rw[hK4];exact Ag gA1 p1r
      simp(disch:=omega) only[go_sem,↓reduceIte,dE];refine⟨by rw[g43,gA3],?_⟩;try simp(disch:=omega) only[go_sem,↓reduceIte,Cm,List.length_cons,List.length_nil,List.drop_succ_cons,List.drop_zero,List.drop_nil,List.append_nil,List.cons_append,List.nil_append]
      intro q2 hq2;dsimp only at hq2;have p2r:q2≠r:=(Ae hq2 (hat4).get).symm;have p2s:q2≠r2:=(Ae hq2 g42).symm;have s2p:r2≠q2:=p2s.symm;have hh2:H q2=none:=(hat4).lo hq2;have p12:q1≠q2:=Ae hq2 g4q;obtain⟨KB,hKB⟩: ∃KB,KB=upd K4 q2 (some (.cells [.int .u8 1, .oslice 9 q1 0 1 1] 47)):=⟨_,rfl⟩;rw[<-hKB];have hatB:=(hat4).new hq2 (some (.cells [.int .u8 1, .oslice 9 q1 0 1 1] 47));rw[<-hKB] at hatB;have gB2:KB r2=some (.cells [.nilSlice, .int .u8 0, .int .u8 0, .int .i64 0, .str [], .nilSlice, .nilSlice, .int .i64 0, .int .i64 0, .int .i64 0] 44):=by rw[hKB];exact Ag g42 s2p
      have gB1:KB q1=some (.cells [.int .u8 3, .int .u8 0, .int .i64 0, .str l[k].text, .nilSlice, .nilSlice, .int .i64 (tk l k).line, .int .i64 0, .int .i64 0] 27):=by rw[hKB];exact Ag g4q p12
      have gBq:KB q2=some (.cells [.int .u8 1, .oslice 9 q1 0 1 1] 47):=by rw[hKB];exact Aa _ _ _
      have gB3:KB r3=some (.cells [.int .u8 3, .int .u8 0, .int .i64 0, .str l[k].text, .nilSlice, .nilSlice, .int .i64 (tk l k).line, .int .i64 0, .int .i64 0] 27):=by rw[hKB];exact Ag g43 (Ae hq2 g43)
      clear hKB;simp(disch:=omega) only[go_sem,↓reduceIte,gB2,dE,hlx,hox];have hs:=(hatB).own hr2 qr2 (some (.cells (.oslice 2 q2 0 1 1::dEx x) 44));have gf1:=Ag (y:=(some (.cells (.oslice 2 q2 0 1 1::dEx x) 44))) gB1 p1s;have gf2:=Ag (y:=(some (.cells (.oslice 2 q2 0 1 1::dEx x) 44))) gBq p2s;have hB1:(upd H r (some (rfO l s1))) q1=none:=by simp only[upd,if_neg p1r];exact hh1
      have hB2:(upd H r (some (rfO l s1))) q2=none:=by simp only[upd,if_neg p2r];exact hh2
      refine Fc.fin hs (Fc.agg (Fc.assoc (c:= [.mk 1 [Ex.mk 3 0 0 l[k].text [] [] (tk l k).line 0 0]]) hs (Fc.cells (e:=47) (size:=2) (n:=1) (cs':= [Ch.mk 1 [Ex.mk 3 0 0 l[k].text [] [] (tk l k).line 0 0]].flatMap dCh) hs hB2 gf2 rfl ?_))) ⟨_,s1,rfl,rfl,?_⟩
      ·rw[List.flatMap_singleton];refine Fc.choice (m:= [Ex.mk 3 0 0 l[k].text [] [] (tk l k).line 0 0]) hs (Fc.cells (e:=27) (size:=9) (n:=1) (cs':= [Ex.mk 3 0 0 l[k].text [] [] (tk l k).line 0 0].flatMap dEx) hs hB1 gf1 rfl ?_);rw[List.flatMap_singleton];exact Fc.ex hs (.exs0 hs) (.as0 hs)
      ·exact Aft.at (U:=fun k'=>(p.expr k').then fun e k'=>Res.ok (As.mk [.mk 1 [Ex.mk 3 0 0 l[k].text [] [] (tk l k).line 0 0]] e) k') eK2 (ha.then .pure)
     ·try simp(disch:=omega) only[go_sem,↓reduceIte,Cm,List.length_cons,List.length_nil,List.drop_succ_cons,List.drop_zero,List.drop_nil,List.append_nil,List.cons_append,List.nil_append]
      intro q2 hq2;dsimp only at hq2;have p2r:q2≠r:=(Ae hq2 (hatA).get).symm;have p2s:q2≠r2:=(Ae hq2 gA2).symm;have s2p:r2≠q2:=p2s.symm;have hh2:H q2=none:=(hatA).lo hq2;have p12:q1≠q2:=Ae hq2 gA1;obtain⟨KB,hKB⟩: ∃KB,KB=upd KA q2 (some (.cells [.int .u8 1, .oslice 9 q1 0 1 1] 47)):=⟨_,rfl⟩;rw[<-hKB];have hatB:=(hatA).new hq2 (some (.cells [.int .u8 1, .oslice 9 q1 0 1 1] 47));rw[<-hKB] at hatB;have gB2:KB r2=some (.cells [.nilSlice, .int .u8 0, .int .u8 0, .int .i64 0, .str [], .nilSlice, .nilSlice, .int .i64 0, .int .i64 0, .int .i64 0] 44):=by rw[hKB];exact Ag gA2 s2p
      have gB1:KB q1=some (.cells [.int .u8 3, .int .u8 0, .int .i64 0, .str l[k].text, .nilSlice, .nilSlice, .int .i64 (tk l k).line, .int .i64 0, .int .i64 0] 27):=by rw[hKB];exact Ag gA1 p12
      have gBq:KB q2=some (.cells [.int .u8 1, .oslice 9 q1 0 1 1] 47):=by rw[hKB];exact Aa _ _ _
      have gB3:KB r3=some (.cells [.int .u8 3, .int .u8 0, .int .i64 0, .str l[k].text, .nilSlice, .nilSlice, .int .i64 (tk l k).line, .int .i64 0, .int .i64 0] 27):=by rw[hKB];exact Ag gA3 (Ae hq2 gA3)
      clear hKB;try simp(disch:=omega) only[go_sem,↓reduceIte,gA3,gB3,g33,Cm,List.length_cons,List.length_nil,List.drop_succ_cons,List.drop_zero,List.drop_nil,List.append_nil,List.cons_append,List.nil_append]
      refine(hp KB ⟨k+2,false⟩ (hatB).get (Can.then1 hcE)).mono ?_;rintro _ K4 ⟨x,s1,rfl,hK4,ha⟩;have hat4:FAt r l s1 H K4:=by rw[hK4];exact(hatB).set s1
      have g42:K4 r2=some (.cells [.nilSlice, .int .u8 0, .int .u8 0, .int .i64 0, .str [], .nilSlice, .nilSlice, .int .i64 0, .int .i64 0, .int .i64 0] 44):=by rw[hK4];exact Ag gB2 qr2
      have g43:K4 r3=some (.cells [.int .u8 3, .int .u8 0, .int .i64 0, .str l[k].text, .nilSlice, .nilSlice, .int .i64 (tk l k).line, .int .i64 0, .int .i64 0] 27):=by rw[hK4];exact Ag gB3 q3
      have hlx:=Ah x;have hox:=Al x;have g4q:K4 q1=some (.cells [.int .u8 3, .int .u8 0, .int .i64 0, .str l[k].text, .nilSlice, .nilSlice, .int .i64 (tk l k).line, .int .i64 0, .int .i64 0] 27):=by rw[hK4];exact Ag gB1 p1r
      have g4c:K4 q2=some (.cells [.int .u8 1, .oslice 9 q1 0 1 1] 47):=by rw[hK4];exact Ag gBq p2r
      simp(disch:=omega) only[go_sem,↓reduceIte,dE];try refine⟨by rw[g43,gB3],?_⟩
      simp(disch:=omega) only[go_sem,↓reduceIte,g42,dE,hlx,hox];have hs:=(hat4).own hr2 qr2 (some (.cells (.oslice 2 q2 0 1 1::dEx x) 44));have gf1:=Ag (y:=(some (.cells (.oslice 2 q2 0 1 1::dEx x) 44))) g4q p1s;have gf2:=Ag (y:=(some (.cells (.oslice 2 q2 0 1 1::dEx x) 44))) g4c p2s;have hB1:(upd H r (some (rfO l s1))) q1=none:=by simp only[upd,if_neg p1r];exact hh1
      have hB2:(upd H r (some (rfO l s1))) q2=none:=by simp only[upd,if_neg p2r];exact hh2
      refine Fc.fin hs (Fc.agg (Fc.assoc (c:= [.mk 1 [Ex.mk 3 0 0 l[k].text [] [] (tk l k).line 0 0]]) hs (Fc.cells (e:=47) (size:=2) (n:=1) (cs':= [Ch.mk 1 [Ex.mk 3 0 0 l[k].text [] [] (tk l k).line 0 0]].flatMap dCh) hs hB2 gf2 rfl ?_))) ⟨_,s1,rfl,rfl,?_⟩
      ·rw[List.flatMap_singleton];refine Fc.choice (m:= [Ex.mk 3 0 0 l[k].text [] [] (tk l k).line 0 0]) hs (Fc.cells (e:=27) (size:=9) (n:=1) (cs':= [Ex.mk 3 0 0 l[k].text [] [] (tk l k).line 0 0].flatMap dEx) hs hB1 gf1 rfl ?_);rw[List.flatMap_singleton];exact Fc.ex hs (.exs0 hs) (.as0 hs)
      ·exact Aft.at (U:=fun k'=>(p.expr k').then fun e k'=>Res.ok (As.mk [.mk 1 [Ex.mk 3 0 0 l[k].text [] [] (tk l k).line 0 0]] e) k') eK2 (ha.then .pure)
  | false=>
   have eK:=hplain fun _ h=>by rw[b2] at h;exact absurd h.2 (by simp)
   simp(disch:=omega) only[go_sem,↓reduceIte,b2];have hV:Can l (fun k=>(p.expr k).then fun e k=>Res.ok (As.mk [] e) k) _:=Can.eq eK hc;refine(hp K _ hat.get (Can.then1 hV)).mono ?_;rintro _ K1 ⟨x,s1,rfl,hK1,ha⟩;have hat1:FAt r l s1 H K1:=by rw[hK1];exact hat.set s1
   have g12:K1 r2=some (.cells [.nilSlice, .int .u8 0, .int .u8 0, .int .i64 0, .str [], .nilSlice, .nilSlice, .int .i64 0, .int .i64 0, .int .i64 0] 44):=by rw[hK1];exact Ag gr2 q2
   have hlx:=Ah x;have hox:=Al x;simp(disch:=omega) only[go_sem,↓reduceIte,dE,g12,hlx,hox];have hs:=hat1.own hr2 q2 (some (.cells (.nilSlice::dEx x) 44));exact Fc.fin hs (Fc.agg (Fc.assoc (c:= []) hs (Fc.nil hs))) ⟨_,s1,rfl,rfl,Aft.eq (U:=fun k=>(p.expr k).then fun e k=>Res.ok (As.mk [] e) k) eK (ha.then .pure)⟩
 | false=>
  have eK:=hplain fun hb h=>by rw[hb,h.1] at b1;simp at b1
  simp(disch:=omega) only[go_sem,↓reduceIte];have hV:Can l (fun k=>(p.expr k).then fun e k=>Res.ok (As.mk [] e) k) _:=Can.eq eK hc;refine(hp K _ hat.get (Can.then1 hV)).mono ?_;rintro _ K1 ⟨x,s1,rfl,hK1,ha⟩;have hat1:FAt r l s1 H K1:=by rw[hK1];exact hat.set s1
  have g12:K1 r2=some (.cells [.nilSlice, .int .u8 0, .int .u8 0, .int .i64 0, .str [], .nilSlice, .nilSlice, .int .i64 0, .int .i64 0, .int .i64 0] 44):=by rw[hK1];exact Ag gr2 q2
  have hlx:=Ah x;have hox:=Al x;simp(disch:=omega) only[go_sem,↓reduceIte,dE,g12,hlx,hox];have hs:=hat1.own hr2 q2 (some (.cells (.nilSlice::dEx x) 44));exact Fc.fin hs (Fc.agg (Fc.assoc (c:= []) hs (Fc.nil hs))) ⟨_,s1,rfl,rfl,Aft.eq (U:=fun k=>(p.expr k).then fun e k=>Res.ok (As.mk [] e) k) eK (ha.then .pure)⟩
end
end Go.Dl

-- Chapter 3: the reference's reader: lists of arguments, of choices.
namespace Go.Dl
open Go Go.Proofs
set_option maxRecDepth 100000
section
variable {G:Nat->DVal} {H0 H H':Ac} {r k:Nat} {l:List Tok} {s s':RS}
theorem Kd {α:Type} {T:Nat->Res α} {j c:Nat} {x:α} (h:Aft T ⟨j,false⟩ x s) (ha:Adv l (j+1) (T j)) (hc:c<=j):s.bad=false->c+1<=s.k:=fun hb=>by
 rw[Aft.good] at h;cases e:T j with
 | bot=>rw[e] at h;exact h.elim
 | fail i=>rw[e] at h;dsimp only at h;rw[h] at hb;cases hb
 | ok z i=>rw[e] at h ha;obtain⟨_,rfl⟩:=h;have:=ha.1;show c+1<=i;omega
set_option maxHeartbeats 4000000 in
theorem Cu2 (hl:l.length<=800000) (n:Nat) (hg: ∀m≤n,RfC Tryz.prog G l 117 r [] (P l m).arg dA):RfC Tryz.prog G l 67 r [] (fun k=>((P l n).arg k).then fun a k=>(P l n).argsL [a] k) dAl:=by
 intro H s hr hc;refine Ad Tryz.func67 Tryz.call67 rfl (by kernel_rfl) ?_;simp(disch:=omega) only[go_sem,↓reduceIte];refine(hg n (Nat.le_refl _) H s hr (Can.then1 (V:=fun a k=>(P l n).argsL [a] k) hc)).mono ?_;rintro _ K1 ⟨a,s1,rfl,hK1,ha⟩;have hL:Left l (fun k=>((P l n).arg k).then fun a k=>(P l n).argsL [a] k) s ((P l n).argsL [a]) s1:=Left.first (V:=fun a k=>(P l n).argsL [a] k) (fun _=>rfl) hc ha fun hb=>(Bn n).arg _ (hc hb).1
 have hcn:s1.bad=false-> [a].length<=s1.k:=by
  rcases s.cases with hb | ⟨j,rfl⟩
  ·rw[Aft,if_pos hb] at ha;subst ha;intro h;rw[hb] at h;cases h
  ·exact Kd (c:=0) ha ((Bn n).arg _ hc.good.1) (Nat.zero_le _)
 clear ha;have hla:=Bi a;simp(disch:=omega) only[go_sem,↓reduceIte,dA];rw[Od hla];try simp(disch:=omega) only[go_sem,↓reduceIte]
 intro q hq;dsimp only at hq;have hv0:Dj (upd H r (some (rfO l s1))) 44 10 [a].length ([a].flatMap dAs) (.oslice 10 q 0 1 1) (upd K1 q (some (.cells (dAs a) 44))):=
  .inr ⟨q,by rw[<-hK1];exact hq,by rw[List.flatMap_singleton,hla];rfl,rfl,by rw[List.flatMap_singleton];exact Aa _ _ _,by rw[hK1] at hq⊢;exact(Sub.refl _).new hq _⟩
 obtain⟨K2,hK2⟩: ∃K2,K2=upd K1 q (some (.cells (dAs a) 44)):=⟨_,rfl⟩;rw[<-hK2] at hv0⊢
 simp(disch:=omega) only[go_sem,↓reduceIte];obtain⟨I,hI⟩: ∃I:Nat×List As×RS->(Nat->DVal)->Ac->Prop,∀i env heap,I i env heap↔(env 0= .optr r 0/\i.1<=n/\(i.2.2.bad=false->i.2.1.length<=i.2.2.k)/\Left l (fun k=>((P l n).arg k).then fun a k=>(P l n).argsL [a] k) s ((P l i.1).argsL i.2.1) i.2.2/\Dj (upd H r (some (rfO l i.2.2))) 44 10 i.2.1.length (i.2.1.flatMap dAs) (env 3) heap):=⟨_,fun _ _ _=>Iff.rfl⟩;refine Bt4.run I (fun i=>i.1) (n,[a],s1) ((hI _ _ _).2 ?_) ?_
 ·simp(disch:=omega) only[go_sem,↓reduceIte];(repeat' apply And.intro)<;>(try first | rfl | assumption | omega)
 ·rintro⟨m,xs,s1⟩ E K hi;obtain⟨e0,hm,hcn,hL,hv⟩:=(hI _ _ _).1 hi;dsimp only at hm hcn hL hv;obtain⟨v,e3⟩: ∃v,E 3=v:=⟨_,rfl⟩;rw[e3] at hv;have gr:K r=some (rfO l s1):=hv.keep (Aa _ _ _);simp(disch:=omega) only[go_sem,↓reduceIte,e0,e3];refine Ai.monoR (Ef G K Gn (by decide+kernel) gr (by omega) (hL.can.kb hl)) ?_;cases b:(!s1.bad&&isW l s1.k [Gn]) with
  | false=>
   rw[Fx b,Be gr];simp(disch:=omega) only[go_sem,↓reduceIte,e0,e3];refine Dj.fin hv ⟨xs,s1,rfl,rfl,hL.done fun hb=> ?_⟩;cases m with
   | zero=>exact absurd rfl (hL.can hb).2
   | succ m=>show(if isW l s1.k [Gn]=true then _ else _)=_;rw[Dp b hb];rfl
  | true=>
   obtain⟨k,rfl,hw⟩:=Ey b;rw[Ew hw];have hk:=hL.can.good.1;have hk1:=Am hw hk;rw[List.length_singleton] at hk1;have hxs:=hcn rfl;dsimp only at hxs;obtain⟨m,rfl⟩: ∃m',m=m'+1:=by
    cases m with
    | zero=>exact absurd rfl hL.can.good.2
    | succ m=>exact⟨m,rfl⟩
   have eK:(P l (m+1)).argsL xs k=((P l m).arg (k+1)).then fun a k=>(P l m).argsL (xs++ [a]) k:=by
    show(if isW l k [Gn]=true then _ else _)=_;rw[if_pos hw]
   have hv1:=hv.at (Aa _ _ _) (some (rfO l ⟨k+1,false⟩));rw[Da] at hv1;simp(disch:=omega) only[go_sem,↓reduceIte,e0,e3];refine(hg m (by omega) _ ⟨k+1,false⟩ (Aa _ _ _) (hL.canT eK hk1)).mono ?_;rintro _ K3 ⟨y,s2,rfl,hK3,ha⟩;have hv2:=hv1.at (Aa _ _ _) (some (rfO l s2));rw[Da,<-hK3] at hv2;have hL2:=hL.round eK hk1 ha ((Bn m).arg _ hk1);have hcn2:=Kd (c:=xs.length) ha ((Bn m).arg _ hk1) (by omega);have hly:=Bi y;simp(disch:=omega) only[go_sem,↓reduceIte,e0,e3,dA];rw[Od hly];try simp(disch:=omega) only[go_sem,↓reduceIte]
   intro q2 hq2;dsimp only at hq2;simp(disch:=omega) only[go_sem,↓reduceIte,e0,e3,Aa];refine Dj.append (m:=1) (hv2.new hq2 _) hly (by omega) fun v2 K4 hv4=> ?_;simp(disch:=omega) only[go_sem,↓reduceIte,e0,e3];refine⟨(m,xs++ [y],s2),_,Ni.refl _,(hI _ _ _).2 ?_,by show m<m+1;omega⟩;simp(disch:=omega) only[go_sem,↓reduceIte,e0];(repeat' apply And.intro)<;>(try first | rfl | assumption | omega)
   ·intro hb;rw[List.length_append,List.length_singleton];exact hcn2 hb
   ·rw[List.length_append,List.length_singleton,List.flatMap_append,List.flatMap_singleton];exact hv4
set_option maxHeartbeats 4000000 in
theorem Aq1 (hl:l.length<=800000) (n:Nat) (hg: ∀m≤n,RfC Tryz.prog G l 121 r [] (P l m).choice dC):RfC Tryz.prog G l 71 r [] (fun k=>((P l n).choice k).then fun a k=>(P l n).choicesL [a] k) dCl:=by
 intro H s hr hc;refine Ad Tryz.func71 Tryz.call71 rfl (by kernel_rfl) ?_;simp(disch:=omega) only[go_sem,↓reduceIte];refine(hg n (Nat.le_refl _) H s hr (Can.then1 (V:=fun a k=>(P l n).choicesL [a] k) hc)).mono ?_;rintro _ K1 ⟨a,s1,rfl,hK1,ha⟩;have hL:Left l (fun k=>((P l n).choice k).then fun a k=>(P l n).choicesL [a] k) s ((P l n).choicesL [a]) s1:=Left.first (V:=fun a k=>(P l n).choicesL [a] k) (fun _=>rfl) hc ha fun hb=>(Bn n).choice _ (hc hb).1
 have hcn:s1.bad=false-> [a].length<=s1.k:=by
  rcases s.cases with hb | ⟨j,rfl⟩
  ·rw[Aft,if_pos hb] at ha;subst ha;intro h;rw[hb] at h;cases h
  ·exact Kd (c:=0) ha ((Bn n).choice _ hc.good.1) (Nat.zero_le _)
 clear ha;have hla:=Bd a;simp(disch:=omega) only[go_sem,↓reduceIte,dC];rw[He hla];try simp(disch:=omega) only[go_sem,↓reduceIte]
 intro q hq;dsimp only at hq;have hv0:Dj (upd H r (some (rfO l s1))) 47 2 [a].length ([a].flatMap dCh) (.oslice 2 q 0 1 1) (upd K1 q (some (.cells (dCh a) 47))):=
  .inr ⟨q,by rw[<-hK1];exact hq,by rw[List.flatMap_singleton,hla];rfl,rfl,by rw[List.flatMap_singleton];exact Aa _ _ _,by rw[hK1] at hq⊢;exact(Sub.refl _).new hq _⟩
 obtain⟨K2,hK2⟩: ∃K2,K2=upd K1 q (some (.cells (dCh a) 47)):=⟨_,rfl⟩;rw[<-hK2] at hv0⊢
 simp(disch:=omega) only[go_sem,↓reduceIte];obtain⟨I,hI⟩: ∃I:Nat×List Ch×RS->(Nat->DVal)->Ac->Prop,∀i env heap,I i env heap↔(env 0= .optr r 0/\i.1<=n/\(i.2.2.bad=false->i.2.1.length<=i.2.2.k)/\Left l (fun k=>((P l n).choice k).then fun a k=>(P l n).choicesL [a] k) s ((P l i.1).choicesL i.2.1) i.2.2/\Dj (upd H r (some (rfO l i.2.2))) 47 2 i.2.1.length (i.2.1.flatMap dCh) (env 3) heap):=⟨_,fun _ _ _=>Iff.rfl⟩;refine Bt4.run I (fun i=>i.1) (n,[a],s1) ((hI _ _ _).2 ?_) ?_
 ·simp(disch:=omega) only[go_sem,↓reduceIte];(repeat' apply And.intro)<;>(try first | rfl | assumption | omega)
 ·rintro⟨m,xs,s1⟩ E K hi;obtain⟨e0,hm,hcn,hL,hv⟩:=(hI _ _ _).1 hi;dsimp only at hm hcn hL hv;obtain⟨v,e3⟩: ∃v,E 3=v:=⟨_,rfl⟩;rw[e3] at hv;have gr:K r=some (rfO l s1):=hv.keep (Aa _ _ _);simp(disch:=omega) only[go_sem,↓reduceIte,e0,e3];refine Ai.monoR (Ef G K Dk (by decide+kernel) gr (by omega) (hL.can.kb hl)) ?_;cases b:(!s1.bad&&isW l s1.k [Dk]) with
  | false=>
   rw[Fx b,Be gr];simp(disch:=omega) only[go_sem,↓reduceIte,e0,e3];refine Dj.fin hv ⟨xs,s1,rfl,rfl,hL.done fun hb=> ?_⟩;cases m with
   | zero=>exact absurd rfl (hL.can hb).2
   | succ m=>show(if isW l s1.k [Dk]=true then _ else _)=_;rw[Dp b hb];rfl
  | true=>
   obtain⟨k,rfl,hw⟩:=Ey b;rw[Ew hw];have hk:=hL.can.good.1;have hk1:=Am hw hk;rw[List.length_singleton] at hk1;have hxs:=hcn rfl;dsimp only at hxs;obtain⟨m,rfl⟩: ∃m',m=m'+1:=by
    cases m with
    | zero=>exact absurd rfl hL.can.good.2
    | succ m=>exact⟨m,rfl⟩
   have eK:(P l (m+1)).choicesL xs k=((P l m).choice (k+1)).then fun a k=>(P l m).choicesL (xs++ [a]) k:=by
    show(if isW l k [Dk]=true then _ else _)=_;rw[if_pos hw]
   have hv1:=hv.at (Aa _ _ _) (some (rfO l ⟨k+1,false⟩));rw[Da] at hv1;simp(disch:=omega) only[go_sem,↓reduceIte,e0,e3];refine(hg m (by omega) _ ⟨k+1,false⟩ (Aa _ _ _) (hL.canT eK hk1)).mono ?_;rintro _ K3 ⟨y,s2,rfl,hK3,ha⟩;have hv2:=hv1.at (Aa _ _ _) (some (rfO l s2));rw[Da,<-hK3] at hv2;have hL2:=hL.round eK hk1 ha ((Bn m).choice _ hk1);have hcn2:=Kd (c:=xs.length) ha ((Bn m).choice _ hk1) (by omega);have hly:=Bd y;simp(disch:=omega) only[go_sem,↓reduceIte,e0,e3,dC];rw[He hly];try simp(disch:=omega) only[go_sem,↓reduceIte]
   intro q2 hq2;dsimp only at hq2;simp(disch:=omega) only[go_sem,↓reduceIte,e0,e3,Aa];refine Dj.append (m:=1) (hv2.new hq2 _) hly (by omega) fun v2 K4 hv4=> ?_;simp(disch:=omega) only[go_sem,↓reduceIte,e0,e3];refine⟨(m,xs++ [y],s2),_,Ni.refl _,(hI _ _ _).2 ?_,by show m<m+1;omega⟩;simp(disch:=omega) only[go_sem,↓reduceIte,e0];(repeat' apply And.intro)<;>(try first | rfl | assumption | omega)
   ·intro hb;rw[List.length_append,List.length_singleton];exact hcn2 hb
   ·rw[List.length_append,List.length_singleton,List.flatMap_append,List.flatMap_singleton];exact hv4
end
end Go.Dl

-- Chapter 3: the reference's reader: associations.
namespace Go.Dl
open Go Go.Proofs
set_option maxRecDepth 100000
section
variable {G:Nat->DVal} {H0 H H':Ac} {r k:Nat} {l:List Tok} {s s':RS}
theorem Left.eq {α:Type} {T0 T U:Nat->Res α} {s0:RS} (h:Left l T0 s0 T s) (e:s.bad=false->T s.k=U s.k):Left l T0 s0 U s:=
 ⟨fun x' s' g=>h.go x' s' (Aft.eq e g),Can.eq e h.can⟩
theorem Bs0 {n k:Nat} {c:Ch} {k':Nat} (hw:isW l k [Ff]=false) (h:(P l n).choice k= .ok c k'):c.kind≠3:=by
 cases n with
 | zero=>cases h
 | succ n=>
  have e:(P l (n+1)).choice k=if isW l k [Ff] then .ok (.mk 3 []) (k+1) else((P l n).simple k).then fun x k=>if isW l k [Dz] then((P l n).simple (k+1)).then fun y k=> .ok (.mk 2 [x,y]) k else((P l n).rest x k).then fun x k=> .ok (.mk 1 [x]) k:=rfl
  rw[e,hw,if_neg (by simp)] at h;cases h1:(P l n).simple k with
  | bot=>rw[h1] at h;cases h
  | fail k=>rw[h1] at h;cases h
  | ok x k1=>
   rw[h1] at h;dsimp only[Res.then] at h;split at h
   ·cases h2:(P l n).simple (k1+1) with
    | bot=>rw[h2] at h;cases h
    | fail k=>rw[h2] at h;cases h
    | ok y k2=>rw[h2] at h;cases h;intro h;cases h
   ·cases h2:(P l n).rest x k1 with
    | bot=>rw[h2] at h;cases h
    | fail k=>rw[h2] at h;cases h
    | ok y k2=>rw[h2] at h;cases h;intro h;cases h
set_option maxHeartbeats 8000000 in
theorem Bx0 (hl:l.length<=800000) (n:Nat) (hch: ∀m≤n,RfS Tryz.prog G l 121 r [] (P l m).choice dC ChS) (hp:RfC Tryz.prog G l 57 r [] (P l n).expr dE):RfC Tryz.prog G l 151 r [] (P l (n+1)).assoc dA:=by
 intro H s hr hc;obtain⟨F,hF⟩: ∃F:Ch->Nat->Res As,∀c k,F c k=if c.kind=1/\isW l k [Dk]=false/\isW l k [Ap]=false then .ok (.mk [] (c.l.getD 0 ex0)) k else if c.kind=3 then must l Ap k fun k=>((P l n).expr k).then fun e k=> .ok (.mk [c] e) k else((P l n).choicesL [c] k).then fun cs k=>must l Ap k fun k=>((P l n).expr k).then fun e k=> .ok (.mk cs e) k:=⟨_,fun _ _=>rfl⟩
 have eT: ∀k,(P l (n+1)).assoc k=((P l n).choice k).then F:=fun k=>by
  have:F=fun c k=>if c.kind=1/\isW l k [Dk]=false/\isW l k [Ap]=false then .ok (.mk [] (c.l.getD 0 ex0)) k else if c.kind=3 then must l Ap k fun k=>((P l n).expr k).then fun e k=> .ok (.mk [c] e) k else((P l n).choicesL [c] k).then fun cs k=>must l Ap k fun k=>((P l n).expr k).then fun e k=> .ok (.mk cs e) k:=funext fun c=>funext fun k=>hF c k
  rw[this];rfl
 refine Ad Tryz.func151 Tryz.call151 rfl (by kernel_rfl) ?_;simp(disch:=omega) only[go_sem,↓reduceIte];intro r2 hr2;dsimp only at hr2;obtain⟨K,hK⟩: ∃K,K=upd H r2 (some (.cells [.nilSlice, .int .u8 0, .int .u8 0, .int .i64 0, .str [], .nilSlice, .nilSlice, .int .i64 0, .int .i64 0, .int .i64 0] 44)):=⟨_,rfl⟩;rw[<-hK];have gr2:K r2=some (.cells [.nilSlice, .int .u8 0, .int .u8 0, .int .i64 0, .str [], .nilSlice, .nilSlice, .int .i64 0, .int .i64 0, .int .i64 0] 44):=by rw[hK];exact Aa _ _ _
 have n2:r≠r2:=Ae hr2 hr;have q2:=n2.symm;have hat:FAt r l s H K:=by rw[hK];exact(FAt.refl hr).new hr2 _
 obtain⟨AB,hAB⟩: ∃AB:RS->Ac,∀s,AB s=upd K r (some (rfO l s)):=⟨_,fun _=>rfl⟩;have hABr: ∀s,AB s r=some (rfO l s):=fun s=>by rw[hAB];exact Aa _ _ _
 have hAB2: ∀s,AB s r2=some (.cells [.nilSlice, .int .u8 0, .int .u8 0, .int .i64 0, .str [], .nilSlice, .nilSlice, .int .i64 0, .int .i64 0, .int .i64 0] 44):=fun s=>by rw[hAB];exact Ag gr2 q2
 have hABk: ∀s s',upd (AB s) r (some (rfO l s'))=AB s':=fun s s'=>by rw[hAB,hAB,Da]
 have hABa: ∀s,FAt r l s H (AB s):=fun s=>by rw[hAB];exact hat.set s
 simp(disch:=omega) only[go_sem,↓reduceIte];refine Ai.monoR (Dh G K 0 2 Ff hat.get (by omega) (hc.kb hl) (by decide) (by decide)) ?_;rw[Mh (show Ea Ff=2 by decide+kernel),Nat.add_zero];cases b1:(!s.bad&&isW l s.k [Ff]) with
 | true=>
  obtain⟨k,rfl,hw⟩:=Ey b1;have hk1:=Am hw hc.good.1;rw[List.length_singleton] at hk1;have hw1:IntKind.i64.wrap ((k:Int)+1)=((k+1:Nat):Int):=by rw[IntKind.wrap_i64];omega
  have gr:=hat.get;unfold rfO at gr;dsimp only at gr;have eK:(P l (n+1)).assoc k=must l Ap (k+1) fun k=>((P l n).expr k).then fun e k=> .ok (.mk [.mk 3 []] e) k:=by
   have hn:=hc.good.2;rw[eT] at hn⊢
   cases n with
   | zero=>exact absurd rfl hn
   | succ m=>
    have e:(P l (m+1)).choice k= .ok (.mk 3 []) (k+1):=by
     show(if isW l k [Ff]=true then _ else _)=_;rw[if_pos hw]
    rw[e];show F _ _=_;rw[hF,if_neg (fun h=>by cases h.1),if_pos (show(Ch.mk 3 []).kind=3 from rfl)]
  have hc1:Can l (fun k=>must l Ap k fun k=>((P l n).expr k).then fun e k=>Res.ok (As.mk [.mk 3 []] e) k) ⟨k+1,false⟩:=Can.at eK hk1 hc;simp(disch:=omega) only[go_sem,↓reduceIte,gr,hw1];rw[show upd K r (some (.cells [Cc l, .int .i64 ((k+1:Nat):Int), .bool false] 89))=AB ⟨k+1,false⟩ from(hAB ⟨k+1,false⟩).symm];refine Ai.monoR (Ft G (AB ⟨k+1,false⟩) Ap (by decide+kernel) (hABr _) (by omega) (hc1.kb hl)) ?_;rw[hABk];have hc2:=Can.must (V:=fun k=>((P l n).expr k).then fun e k=>Res.ok (As.mk [.mk 3 []] e) k) (fun _=>rfl) hc1;obtain⟨s2,hs2⟩: ∃s2,s2=Fs l Ap ⟨k+1,false⟩:=⟨_,rfl⟩;rw[<-hs2] at hc2⊢
  simp(disch:=omega) only[go_sem,↓reduceIte];simp(disch:=omega) only[go_sem,↓reduceIte,Cm,List.length_cons,List.length_nil,List.drop_succ_cons,List.drop_zero,List.drop_nil,List.append_nil,List.cons_append,List.nil_append];intro q hq;dsimp only at hq;have rq:r≠q:=Ae hq (hABr s2);have qr:=rq.symm;have q2q:=Ae hq (hAB2 s2);have qq2:=q2q.symm;have hlo:H q=none:=(hABa s2).lo hq;obtain⟨K1,hK1⟩: ∃K1,K1=upd (AB s2) q (some (.cells [.int .u8 3, .nilSlice] 47)):=⟨_,rfl⟩;rw[<-hK1];have hat1:FAt r l s2 H K1:=by rw[hK1];exact(hABa s2).new hq _
  have g12:K1 r2=some (.cells [.nilSlice, .int .u8 0, .int .u8 0, .int .i64 0, .str [], .nilSlice, .nilSlice, .int .i64 0, .int .i64 0, .int .i64 0] 44):=by rw[hK1];exact Ag (hAB2 s2) q2q
  have g1q:K1 q=some (.cells [.int .u8 3, .nilSlice] 47):=by rw[hK1];exact Aa _ _ _
  clear hK1;simp(disch:=omega) only[go_sem,↓reduceIte];refine(hp _ s2 hat1.get (Can.then1 hc2)).mono ?_;rintro _ K2 ⟨x,s3,rfl,hK2,ha⟩;have hat2:FAt r l s3 H K2:=by rw[hK2];exact hat1.set s3
  have g22:K2 r2=some (.cells [.nilSlice, .int .u8 0, .int .u8 0, .int .i64 0, .str [], .nilSlice, .nilSlice, .int .i64 0, .int .i64 0, .int .i64 0] 44):=by rw[hK2];exact Ag g12 q2
  have g2q:K2 q=some (.cells [.int .u8 3, .nilSlice] 47):=by rw[hK2];exact Ag g1q qr
  clear hK2;have hlx:=Ah x;have hox:=Al x;simp(disch:=omega) only[go_sem,↓reduceIte,dE,g22,hlx,hox];have hs:=hat2.own hr2 q2 (some (.cells (.oslice 2 q 0 1 1::dEx x) 44));have gf2:=Ag (y:=(some (.cells (.oslice 2 q 0 1 1::dEx x) 44))) g2q qq2;have hB2:(upd H r (some (rfO l s3))) q=none:=by simp only[upd,if_neg qr];exact hlo
  refine Fc.fin hs (Fc.agg (Fc.assoc (c:= [.mk 3 []]) hs (Fc.cells (e:=47) (size:=2) (n:=1) (cs':= [Ch.mk 3 []].flatMap dCh) hs hB2 gf2 rfl ?_))) ⟨_,s3,rfl,rfl,?_⟩
  ·rw[List.flatMap_singleton];exact Fc.choice (m:= []) hs (.exs0 hs)
  rw[hs2] at ha;exact Aft.at (U:=fun k=>must l Ap k fun k=>((P l n).expr k).then fun e k=>Res.ok (As.mk [.mk 3 []] e) k) eK (Aft.must (V:=fun k=>((P l n).expr k).then fun e k=>Res.ok (As.mk [.mk 3 []] e) k) (fun _=>rfl) (ha.then .pure))
 | false=>
  have hL0: ∀c s1,Aft (P l n).choice s c s1->Left l (P l (n+1)).assoc s (F c) s1:=fun c s1 ha=>Left.first (V:=F) (fun _=>eT _) hc ha fun hb=>(Bn n).choice _ (hc hb).1
  simp(disch:=omega) only[go_sem,↓reduceIte];refine(hch n (Nat.le_refl _) K s hat.get (Can.then1 (V:=F) (Can.eq (fun _=>eT _) hc))).mono ?_;rintro _ K1 ⟨c,s1,rfl,hK1,ha,hsh⟩;have hL:=hL0 c s1 ha;have h3:s1.bad=false->c.kind≠3:=fun hb=>by
   rcases s.cases with hb' | ⟨j,rfl⟩
   ·rw[Aft,if_pos hb'] at ha;subst ha;rw[hb] at hb';cases hb'
   ·rw[Aft.good] at ha;cases e:(P l n).choice j with
    | bot=>rw[e] at ha;exact ha.elim
    | fail i=>rw[e] at ha;dsimp only at ha;rw[ha] at hb;cases hb
    | ok z i=>rw[e] at ha;obtain⟨rfl,_⟩:=ha;exact Bs0 (Dp b1 rfl) e
  have hcn:s1.bad=false-> [c].length<=s1.k:=by
   rcases s.cases with hb | ⟨j,rfl⟩
   ·rw[Aft,if_pos hb] at ha;subst ha;intro h;rw[hb] at h;cases h
   ·exact Kd (c:=0) ha ((Bn n).choice _ hc.good.1) (Nat.zero_le _)
  clear ha hL0;rw[<-hAB] at hK1;have hlc:=Bd c;simp(disch:=omega) only[go_sem,↓reduceIte,dC];rw[He hlc];try simp(disch:=omega) only[go_sem,↓reduceIte]
  rw[hK1];intro q hq;dsimp only at hq;have hv0:Dj (AB s1) 47 2 [c].length ([c].flatMap dCh) (.oslice 2 q 0 1 1) (upd (AB s1) q (some (.cells (dCh c) 47))):=
   .inr ⟨q,hq,by rw[List.flatMap_singleton,hlc];rfl,rfl,by rw[List.flatMap_singleton];exact Aa _ _ _,(Sub.refl _).new hq _⟩
  obtain⟨K2,hK2⟩: ∃K2,K2=upd (AB s1) q (some (.cells (dCh c) 47)):=⟨_,rfl⟩;rw[<-hK2] at hv0⊢
  have gq:K2 q=some (.cells (dCh c) 47):=by rw[hK2];exact Aa _ _ _
  have gr:=hv0.keep (hABr s1);have g2:=hv0.keep (hAB2 s1);clear hK2;have gk:(dCh c)[0]? =some (.int .u8 c.kind):=by rw[Pd];rfl
  by_cases c1:c.kind=1
  ·simp(disch:=omega) only[go_sem,↓reduceIte,gq,gk,c1];refine Ai.monoR (Dh G K2 0 4 Dk gr (by omega) (hL.can.kb hl) (by decide) (by decide)) ?_;rw[Mh (show Ea Dk=4 by decide+kernel),Nat.add_zero];cases b2:(!s1.bad&&isW l s1.k [Dk]) with
   | true=>
    simp(disch:=omega) only[go_sem,↓reduceIte];have hnc:s1.bad=false-> ¬(c.kind=1/\isW l s1.k [Dk]=false/\isW l s1.k [Ap]=false):=fun hb h=>by rw[hb,h.2.1] at b2;cases b2
    obtain⟨W,hW⟩: ∃W:List Ch->Nat->Res As,∀xs k,W xs k=must l Ap k fun k=>((P l n).expr k).then fun e k=> .ok (.mk xs e) k:=⟨_,fun _ _=>rfl⟩
    have hL1:Left l (P l (n+1)).assoc s (fun k=>((P l n).choicesL [c] k).then W) s1:=hL.eq fun hb=>by
     rw[hF,if_neg (hnc hb),if_neg (h3 hb),show W=fun cs k=>must l Ap k fun k=>((P l n).expr k).then fun e k=> .ok (.mk cs e) k from funext fun cs=>funext fun k=>hW cs k]
    obtain⟨I,hI⟩: ∃I:Nat×List Ch×RS->(Nat->DVal)->Ac->Prop,∀i env heap,I i env heap↔(env 0= .optr r 0/\env 2= .optr r2 0/\i.1<=n/\(i.2.2.bad=false->i.2.1.length<=i.2.2.k)/\Left l (P l (n+1)).assoc s (fun k=>((P l i.1).choicesL i.2.1 k).then W) i.2.2/\Dj (AB i.2.2) 47 2 i.2.1.length (i.2.1.flatMap dCh) (env 3) heap):=⟨_,fun _ _ _=>Iff.rfl⟩;refine Bt4.run I (fun i=>i.1) (n,[c],s1) ((hI _ _ _).2 ?_) ?_
    ·simp(disch:=omega) only[go_sem,↓reduceIte];(repeat' apply And.intro)<;>(try first | rfl | assumption | omega)
    ·rintro⟨m,xs,s1⟩ E heap hi;obtain⟨e0,e2,hm,hcn,hL,hv⟩:=(hI _ _ _).1 hi;dsimp only at hm hcn hL hv;obtain⟨v,e3⟩: ∃v,E 3=v:=⟨_,rfl⟩;rw[e3] at hv;have gr:heap r=some (rfO l s1):=hv.keep (hABr _);simp(disch:=omega) only[go_sem,↓reduceIte,e0,e2,e3];refine Ai.monoR (Ef G heap Dk (by decide+kernel) gr (by omega) (hL.can.kb hl)) ?_;cases b:(!s1.bad&&isW l s1.k [Dk]) with
     | false=>
      rw[Fx b,Be gr];simp(disch:=omega) only[go_sem,↓reduceIte,e0,e2,e3];have hT:Left l (P l (n+1)).assoc s (fun k=>must l Ap k fun k=>((P l n).expr k).then fun e k=> .ok (.mk xs e) k) s1:=hL.eq fun hb=>by
       cases m with
       | zero=>exact absurd rfl (hL.can hb).2
       | succ m=>rw[<-hW];show(if isW l s1.k [Dk]=true then _ else Res.ok xs s1.k).then W=_;rw[Dp b hb];rfl
      have hc1:=Can.must (V:=fun k=>((P l n).expr k).then fun e k=>Res.ok (As.mk xs e) k) (fun _=>rfl) hT.can;refine Ai.monoR (Ft G heap Ap (by decide+kernel) gr (by omega) (hT.can.kb hl)) ?_;have hv1:=hv.at (hABr s1) (some (rfO l (Fs l Ap s1)));rw[hABk] at hv1;simp(disch:=omega) only[go_sem,↓reduceIte,e0,e2,e3];refine(hp _ (Fs l Ap s1) (Aa _ _ _) (Can.then1 hc1)).mono ?_;rintro _ K2 ⟨x,s2,rfl,hK2,ha⟩;have hv2:=hv1.at (hABr _) (some (rfO l s2));rw[hABk,<-hK2] at hv2;clear hK2;have g22:=hv2.keep (hAB2 s2);obtain⟨j1,j2⟩:=Dj.cell1 hv2;have hlx:=Ah x;have hox:=Al x;simp(disch:=omega) only[go_sem,↓reduceIte,e0,e2,e3,dE,g22,hlx,hox,j1,j2];have hs:=fun z=>Dj.less (Dj.at hv2 (hAB2 s2) z) ((hABa s2).own hr2 q2 z);exact Fc.fin (Dj.sub (hs _)) (Fc.agg (Fc.assoc (c:=xs) (Dj.sub (hs _)) (Fc.own (hs _)))) ⟨_,s2,rfl,rfl,hT.go _ _ (Aft.must (V:=fun k=>((P l n).expr k).then fun e k=>Res.ok (As.mk xs e) k) (fun _=>rfl) (ha.then .pure))⟩
     | true=>
      obtain⟨k,rfl,hw⟩:=Ey b;rw[Ew hw];have hk:=hL.can.good.1;have hk1:=Am hw hk;rw[List.length_singleton] at hk1;have hxs:=hcn rfl;dsimp only at hxs;obtain⟨m,rfl⟩: ∃m',m=m'+1:=by
       cases m with
       | zero=>exact absurd rfl hL.can.good.2
       | succ m=>exact⟨m,rfl⟩
      have eK:((P l (m+1)).choicesL xs k).then W=((P l m).choice (k+1)).then fun a k=>((P l m).choicesL (xs++ [a]) k).then W:=by
       rw[<-Me (f:=fun a k=>(P l m).choicesL (xs++ [a]) k)];show Res.then (if isW l k [Dk]=true then _ else _) W=_
       rw[if_pos hw]
      have hv1:=hv.at (hABr _) (some (rfO l ⟨k+1,false⟩));rw[hABk] at hv1;simp(disch:=omega) only[go_sem,↓reduceIte,e0,e2,e3];refine((hch m (by omega)).c _ ⟨k+1,false⟩ (Aa _ _ _) (hL.canT eK hk1)).mono ?_;rintro _ K3 ⟨y,s2,rfl,hK3,ha⟩;have hv2:=hv1.at (hABr _) (some (rfO l s2));rw[hABk,<-hK3] at hv2;have hL2:=hL.round eK hk1 ha ((Bn m).choice _ hk1);have hcn2:=Kd (c:=xs.length) ha ((Bn m).choice _ hk1) (by omega);have hly:=Bd y;simp(disch:=omega) only[go_sem,↓reduceIte,e0,e2,e3,dC];rw[He hly];try simp(disch:=omega) only[go_sem,↓reduceIte]
      intro q2 hq2;dsimp only at hq2;simp(disch:=omega) only[go_sem,↓reduceIte,e0,e2,e3,Aa];refine Dj.append (m:=1) (hv2.new hq2 _) hly (by omega) fun v2 K4 hv4=> ?_;simp(disch:=omega) only[go_sem,↓reduceIte,e0,e2,e3];refine⟨(m,xs++ [y],s2),_,Ni.refl _,(hI _ _ _).2 ?_,by show m<m+1;omega⟩;simp(disch:=omega) only[go_sem,↓reduceIte,e0,e2];(repeat' apply And.intro)<;>(try first | rfl | assumption | omega)
      ·intro hb;rw[List.length_append,List.length_singleton];exact hcn2 hb
      ·rw[List.length_append,List.length_singleton,List.flatMap_append,List.flatMap_singleton];exact hv4
   | false=>
    simp(disch:=omega) only[go_sem,↓reduceIte];refine Ai.monoR (Dh G K2 0 4 Ap gr (by omega) (hL.can.kb hl) (by decide) (by decide)) ?_;rw[Mh (show Ea Ap=4 by decide+kernel),Nat.add_zero];cases b3:(!s1.bad&&isW l s1.k [Ap]) with
    | true=>
     simp(disch:=omega) only[go_sem,↓reduceIte];have hnc:s1.bad=false-> ¬(c.kind=1/\isW l s1.k [Dk]=false/\isW l s1.k [Ap]=false):=fun hb h=>by rw[hb,h.2.2] at b3;cases b3
     obtain⟨W,hW⟩: ∃W:List Ch->Nat->Res As,∀xs k,W xs k=must l Ap k fun k=>((P l n).expr k).then fun e k=> .ok (.mk xs e) k:=⟨_,fun _ _=>rfl⟩
     have hL1:Left l (P l (n+1)).assoc s (fun k=>((P l n).choicesL [c] k).then W) s1:=hL.eq fun hb=>by
      rw[hF,if_neg (hnc hb),if_neg (h3 hb),show W=fun cs k=>must l Ap k fun k=>((P l n).expr k).then fun e k=> .ok (.mk cs e) k from funext fun cs=>funext fun k=>hW cs k]
     obtain⟨I,hI⟩: ∃I:Nat×List Ch×RS->(Nat->DVal)->Ac->Prop,∀i env heap,I i env heap↔(env 0= .optr r 0/\env 2= .optr r2 0/\i.1<=n/\(i.2.2.bad=false->i.2.1.length<=i.2.2.k)/\Left l (P l (n+1)).assoc s (fun k=>((P l i.1).choicesL i.2.1 k).then W) i.2.2/\Dj (AB i.2.2) 47 2 i.2.1.length (i.2.1.flatMap dCh) (env 3) heap):=⟨_,fun _ _ _=>Iff.rfl⟩;refine Bt4.run I (fun i=>i.1) (n,[c],s1) ((hI _ _ _).2 ?_) ?_
     ·simp(disch:=omega) only[go_sem,↓reduceIte];(repeat' apply And.intro)<;>(try first | rfl | assumption | omega)
     ·rintro⟨m,xs,s1⟩ E heap hi;obtain⟨e0,e2,hm,hcn,hL,hv⟩:=(hI _ _ _).1 hi;dsimp only at hm hcn hL hv;obtain⟨v,e3⟩: ∃v,E 3=v:=⟨_,rfl⟩;rw[e3] at hv;have gr:heap r=some (rfO l s1):=hv.keep (hABr _);simp(disch:=omega) only[go_sem,↓reduceIte,e0,e2,e3];refine Ai.monoR (Ef G heap Dk (by decide+kernel) gr (by omega) (hL.can.kb hl)) ?_;cases b:(!s1.bad&&isW l s1.k [Dk]) with
      | false=>
       rw[Fx b,Be gr];simp(disch:=omega) only[go_sem,↓reduceIte,e0,e2,e3];have hT:Left l (P l (n+1)).assoc s (fun k=>must l Ap k fun k=>((P l n).expr k).then fun e k=> .ok (.mk xs e) k) s1:=hL.eq fun hb=>by
        cases m with
        | zero=>exact absurd rfl (hL.can hb).2
        | succ m=>rw[<-hW];show(if isW l s1.k [Dk]=true then _ else Res.ok xs s1.k).then W=_;rw[Dp b hb];rfl
       have hc1:=Can.must (V:=fun k=>((P l n).expr k).then fun e k=>Res.ok (As.mk xs e) k) (fun _=>rfl) hT.can;refine Ai.monoR (Ft G heap Ap (by decide+kernel) gr (by omega) (hT.can.kb hl)) ?_;have hv1:=hv.at (hABr s1) (some (rfO l (Fs l Ap s1)));rw[hABk] at hv1;simp(disch:=omega) only[go_sem,↓reduceIte,e0,e2,e3];refine(hp _ (Fs l Ap s1) (Aa _ _ _) (Can.then1 hc1)).mono ?_;rintro _ K2 ⟨x,s2,rfl,hK2,ha⟩;have hv2:=hv1.at (hABr _) (some (rfO l s2));rw[hABk,<-hK2] at hv2;clear hK2;have g22:=hv2.keep (hAB2 s2);obtain⟨j1,j2⟩:=Dj.cell1 hv2;have hlx:=Ah x;have hox:=Al x;simp(disch:=omega) only[go_sem,↓reduceIte,e0,e2,e3,dE,g22,hlx,hox,j1,j2];have hs:=fun z=>Dj.less (Dj.at hv2 (hAB2 s2) z) ((hABa s2).own hr2 q2 z);exact Fc.fin (Dj.sub (hs _)) (Fc.agg (Fc.assoc (c:=xs) (Dj.sub (hs _)) (Fc.own (hs _)))) ⟨_,s2,rfl,rfl,hT.go _ _ (Aft.must (V:=fun k=>((P l n).expr k).then fun e k=>Res.ok (As.mk xs e) k) (fun _=>rfl) (ha.then .pure))⟩
      | true=>
       obtain⟨k,rfl,hw⟩:=Ey b;rw[Ew hw];have hk:=hL.can.good.1;have hk1:=Am hw hk;rw[List.length_singleton] at hk1;have hxs:=hcn rfl;dsimp only at hxs;obtain⟨m,rfl⟩: ∃m',m=m'+1:=by
        cases m with
        | zero=>exact absurd rfl hL.can.good.2
        | succ m=>exact⟨m,rfl⟩
       have eK:((P l (m+1)).choicesL xs k).then W=((P l m).choice (k+1)).then fun a k=>((P l m).choicesL (xs++ [a]) k).then W:=by
        rw[<-Me (f:=fun a k=>(P l m).choicesL (xs++ [a]) k)];show Res.then (if isW l k [Dk]=true then _ else _) W=_
        rw[if_pos hw]
       have hv1:=hv.at (hABr _) (some (rfO l ⟨k+1,false⟩));rw[hABk] at hv1;simp(disch:=omega) only[go_sem,↓reduceIte,e0,e2,e3];refine((hch m (by omega)).c _ ⟨k+1,false⟩ (Aa _ _ _) (hL.canT eK hk1)).mono ?_;rintro _ K3 ⟨y,s2,rfl,hK3,ha⟩;have hv2:=hv1.at (hABr _) (some (rfO l s2));rw[hABk,<-hK3] at hv2;have hL2:=hL.round eK hk1 ha ((Bn m).choice _ hk1);have hcn2:=Kd (c:=xs.length) ha ((Bn m).choice _ hk1) (by omega);have hly:=Bd y;simp(disch:=omega) only[go_sem,↓reduceIte,e0,e2,e3,dC];rw[He hly];try simp(disch:=omega) only[go_sem,↓reduceIte]
       intro q2 hq2;dsimp only at hq2;simp(disch:=omega) only[go_sem,↓reduceIte,e0,e2,e3,Aa];refine Dj.append (m:=1) (hv2.new hq2 _) hly (by omega) fun v2 K4 hv4=> ?_;simp(disch:=omega) only[go_sem,↓reduceIte,e0,e2,e3];refine⟨(m,xs++ [y],s2),_,Ni.refl _,(hI _ _ _).2 ?_,by show m<m+1;omega⟩;simp(disch:=omega) only[go_sem,↓reduceIte,e0,e2];(repeat' apply And.intro)<;>(try first | rfl | assumption | omega)
       ·intro hb;rw[List.length_append,List.length_singleton];exact hcn2 hb
       ·rw[List.length_append,List.length_singleton,List.flatMap_append,List.flatMap_singleton];exact hv4
    | false=>
     obtain⟨x,hx⟩:=hsh c1;have gl:(dCh c)[1]? =some (.vslice (dEx x) 1):=by rw[Yd,hx,List.flatMap_singleton];rfl
     have hlx:=Ah x;have hox:=Al x;have htx:List.take 9 (List.drop 0 (dEx x))=dEx x:=List.take_of_length_le (by rw[List.drop_zero];omega);simp(disch:=omega) only[go_sem,↓reduceIte,gq,gl,hlx,htx,List.drop_zero,g2,hox];have hs:=fun z=>((hABa s1).more hv0.sub).own hr2 q2 z;exact Fc.fin (hs _) (Fc.agg (Fc.assoc (c:= []) (hs _) (.ch0 (hs _)))) ⟨_,s1,rfl,rfl,hL.done fun hb=>by rw[hF,if_pos ⟨c1,Dp b2 hb,Dp b3 hb⟩,hx];rfl⟩
  ·simp(disch:=omega) only[go_sem,↓reduceIte,gq,gk,c1];have hnc:s1.bad=false-> ¬(c.kind=1/\isW l s1.k [Dk]=false/\isW l s1.k [Ap]=false):=fun _ h=>c1 h.1;obtain⟨W,hW⟩: ∃W:List Ch->Nat->Res As,∀xs k,W xs k=must l Ap k fun k=>((P l n).expr k).then fun e k=> .ok (.mk xs e) k:=⟨_,fun _ _=>rfl⟩
   have hL1:Left l (P l (n+1)).assoc s (fun k=>((P l n).choicesL [c] k).then W) s1:=hL.eq fun hb=>by
    rw[hF,if_neg (hnc hb),if_neg (h3 hb),show W=fun cs k=>must l Ap k fun k=>((P l n).expr k).then fun e k=> .ok (.mk cs e) k from funext fun cs=>funext fun k=>hW cs k]
   obtain⟨I,hI⟩: ∃I:Nat×List Ch×RS->(Nat->DVal)->Ac->Prop,∀i env heap,I i env heap↔(env 0= .optr r 0/\env 2= .optr r2 0/\i.1<=n/\(i.2.2.bad=false->i.2.1.length<=i.2.2.k)/\Left l (P l (n+1)).assoc s (fun k=>((P l i.1).choicesL i.2.1 k).then W) i.2.2/\Dj (AB i.2.2) 47 2 i.2.1.length (i.2.1.flatMap dCh) (env 3) heap):=⟨_,fun _ _ _=>Iff.rfl⟩;refine Bt4.run I (fun i=>i.1) (n,[c],s1) ((hI _ _ _).2 ?_) ?_
   ·simp(disch:=omega) only[go_sem,↓reduceIte];(repeat' apply And.intro)<;>(try first | rfl | assumption | omega)
   ·rintro⟨m,xs,s1⟩ E heap hi;obtain⟨e0,e2,hm,hcn,hL,hv⟩:=(hI _ _ _).1 hi;dsimp only at hm hcn hL hv;obtain⟨v,e3⟩: ∃v,E 3=v:=⟨_,rfl⟩;rw[e3] at hv;have gr:heap r=some (rfO l s1):=hv.keep (hABr _);simp(disch:=omega) only[go_sem,↓reduceIte,e0,e2,e3];refine Ai.monoR (Ef G heap Dk (by decide+kernel) gr (by omega) (hL.can.kb hl)) ?_;cases b:(!s1.bad&&isW l s1.k [Dk]) with
    | false=>
     rw[Fx b,Be gr];simp(disch:=omega) only[go_sem,↓reduceIte,e0,e2,e3];have hT:Left l (P l (n+1)).assoc s (fun k=>must l Ap k fun k=>((P l n).expr k).then fun e k=> .ok (.mk xs e) k) s1:=hL.eq fun hb=>by
      cases m with
      | zero=>exact absurd rfl (hL.can hb).2
      | succ m=>rw[<-hW];show(if isW l s1.k [Dk]=true then _ else Res.ok xs s1.k).then W=_;rw[Dp b hb];rfl
     have hc1:=Can.must (V:=fun k=>((P l n).expr k).then fun e k=>Res.ok (As.mk xs e) k) (fun _=>rfl) hT.can;refine Ai.monoR (Ft G heap Ap (by decide+kernel) gr (by omega) (hT.can.kb hl)) ?_;have hv1:=hv.at (hABr s1) (some (rfO l (Fs l Ap s1)));rw[hABk] at hv1;simp(disch:=omega) only[go_sem,↓reduceIte,e0,e2,e3];refine(hp _ (Fs l Ap s1) (Aa _ _ _) (Can.then1 hc1)).mono ?_;rintro _ K2 ⟨x,s2,rfl,hK2,ha⟩;have hv2:=hv1.at (hABr _) (some (rfO l s2));rw[hABk,<-hK2] at hv2;clear hK2;have g22:=hv2.keep (hAB2 s2);obtain⟨j1,j2⟩:=Dj.cell1 hv2;have hlx:=Ah x;have hox:=Al x;simp(disch:=omega) only[go_sem,↓reduceIte,e0,e2,e3,dE,g22,hlx,hox,j1,j2];have hs:=fun z=>Dj.less (Dj.at hv2 (hAB2 s2) z) ((hABa s2).own hr2 q2 z);exact Fc.fin (Dj.sub (hs _)) (Fc.agg (Fc.assoc (c:=xs) (Dj.sub (hs _)) (Fc.own (hs _)))) ⟨_,s2,rfl,rfl,hT.go _ _ (Aft.must (V:=fun k=>((P l n).expr k).then fun e k=>Res.ok (As.mk xs e) k) (fun _=>rfl) (ha.then .pure))⟩
    | true=>
     obtain⟨k,rfl,hw⟩:=Ey b;rw[Ew hw];have hk:=hL.can.good.1;have hk1:=Am hw hk;rw[List.length_singleton] at hk1;have hxs:=hcn rfl;dsimp only at hxs;obtain⟨m,rfl⟩: ∃m',m=m'+1:=by
      cases m with
      | zero=>exact absurd rfl hL.can.good.2
      | succ m=>exact⟨m,rfl⟩
     have eK:((P l (m+1)).choicesL xs k).then W=((P l m).choice (k+1)).then fun a k=>((P l m).choicesL (xs++ [a]) k).then W:=by
      rw[<-Me (f:=fun a k=>(P l m).choicesL (xs++ [a]) k)];show Res.then (if isW l k [Dk]=true then _ else _) W=_
      rw[if_pos hw]
     have hv1:=hv.at (hABr _) (some (rfO l ⟨k+1,false⟩));rw[hABk] at hv1;simp(disch:=omega) only[go_sem,↓reduceIte,e0,e2,e3];refine((hch m (by omega)).c _ ⟨k+1,false⟩ (Aa _ _ _) (hL.canT eK hk1)).mono ?_;rintro _ K3 ⟨y,s2,rfl,hK3,ha⟩;have hv2:=hv1.at (hABr _) (some (rfO l s2));rw[hABk,<-hK3] at hv2;have hL2:=hL.round eK hk1 ha ((Bn m).choice _ hk1);have hcn2:=Kd (c:=xs.length) ha ((Bn m).choice _ hk1) (by omega);have hly:=Bd y;simp(disch:=omega) only[go_sem,↓reduceIte,e0,e2,e3,dC];rw[He hly];try simp(disch:=omega) only[go_sem,↓reduceIte]
     intro q2 hq2;dsimp only at hq2;simp(disch:=omega) only[go_sem,↓reduceIte,e0,e2,e3,Aa];refine Dj.append (m:=1) (hv2.new hq2 _) hly (by omega) fun v2 K4 hv4=> ?_;simp(disch:=omega) only[go_sem,↓reduceIte,e0,e2,e3];refine⟨(m,xs++ [y],s2),_,Ni.refl _,(hI _ _ _).2 ?_,by show m<m+1;omega⟩;simp(disch:=omega) only[go_sem,↓reduceIte,e0,e2];(repeat' apply And.intro)<;>(try first | rfl | assumption | omega)
     ·intro hb;rw[List.length_append,List.length_singleton];exact hcn2 hb
     ·rw[List.length_append,List.length_singleton,List.flatMap_append,List.flatMap_singleton];exact hv4
end
end Go.Dl

-- Chapter 3: the reference's reader: parentheses. (printed by gen_x3.py)
namespace Go.Dl
open Go Go.Proofs
set_option maxRecDepth 100000
section
variable {G:Nat->DVal} {H0 H H':Ac} {r k:Nat} {l:List Tok} {s s':RS}
section
variable {α β:Type} {T0 T U:Nat->Res α} {s0 s1:RS}
theorem Left.at {j:Nat} (h:Left l T0 s0 T ⟨k,false⟩) (e:T k=U j) (hj:j<=l.length):Left l T0 s0 U ⟨j,false⟩:=
 ⟨fun x' s' g=>h.go x' s' (Aft.at e g),Can.at e hj h.can⟩
theorem Left.thenA {lb:Nat} {T:Nat->Res β} {V:β->Nat->Res α} {x:β} (h:Left l T0 s0 (fun k=>(T k).then V) s) (ha:Aft T s x s1) (had:s.bad=false->Adv l lb (T s.k)):Left l T0 s0 (V x) s1:=
 ⟨fun x' s' g=>h.go x' s' (ha.then g),h.can.then2 ha had⟩
theorem Left.must {w:List UInt8} (h:Left l T0 s0 (fun k=>must l w k U) s):Left l T0 s0 U (Fs l w s):=
 ⟨fun x' s' g=>h.go x' s' (Aft.must (fun _=>rfl) g),Can.must (fun _=>rfl) h.can⟩
end
theorem Bh8 {x y z:List DVal} (hx:x.length=9) (hy:y.length=9) (hz:z.length=9):
  (if 9<=(Cx 3 [DVal.int .u8 0,DVal.int .u8 0,DVal.int .i64 0,DVal.str [],DVal.nilSlice,DVal.nilSlice,DVal.int .i64 0,DVal.int .i64 0,DVal.int .i64 0]).length then
   if 18<=(x++List.drop 9 (Cx 3 [DVal.int .u8 0,DVal.int .u8 0,DVal.int .i64 0,DVal.str [],DVal.nilSlice,DVal.nilSlice,DVal.int .i64 0,DVal.int .i64 0,DVal.int .i64 0])).length then
    if 27<=(List.take 9 (x++List.drop 9 (Cx 3 [DVal.int .u8 0,DVal.int .u8 0,DVal.int .i64 0,DVal.str [],DVal.nilSlice,DVal.nilSlice,DVal.int .i64 0,DVal.int .i64 0,DVal.int .i64 0]))++y++
     List.drop 18 (x++List.drop 9 (Cx 3 [DVal.int .u8 0,DVal.int .u8 0,DVal.int .i64 0,DVal.str [],DVal.nilSlice,DVal.nilSlice,DVal.int .i64 0,DVal.int .i64 0,DVal.int .i64 0]))).length then
     some (List.take 18 (List.take 9 (x++List.drop 9 (Cx 3 [DVal.int .u8 0,DVal.int .u8 0,DVal.int .i64 0,DVal.str [],DVal.nilSlice,DVal.nilSlice,DVal.int .i64 0,DVal.int .i64 0,DVal.int .i64 0]))++y++
     List.drop 18 (x++List.drop 9 (Cx 3 [DVal.int .u8 0,DVal.int .u8 0,DVal.int .i64 0,DVal.str [],DVal.nilSlice,DVal.nilSlice,DVal.int .i64 0,DVal.int .i64 0,DVal.int .i64 0])))++z++
     List.drop 27 (List.take 9 (x++List.drop 9 (Cx 3 [DVal.int .u8 0,DVal.int .u8 0,DVal.int .i64 0,DVal.str [],DVal.nilSlice,DVal.nilSlice,DVal.int .i64 0,DVal.int .i64 0,DVal.int .i64 0]))++y++
     List.drop 18 (x++List.drop 9 (Cx 3 [DVal.int .u8 0,DVal.int .u8 0,DVal.int .i64 0,DVal.str [],DVal.nilSlice,DVal.nilSlice,DVal.int .i64 0,DVal.int .i64 0,DVal.int .i64 0]))))
    else none
   else none
  else none)=some (x++y++z):=by
 have e: ∀u:List DVal,Cx 3 u=u++(u++u):=fun u=>by simp [Cx]
 rw[e,List.drop_left' (by simp),List.take_left' hx,if_pos (by simp),if_pos (by simp [hx]),if_pos (by simp [hx,hy])];have h18:(x++y).length=18:=by rw[List.length_append,hx,hy]
 rw[List.take_left' h18,List.drop_eq_nil_of_le (by simp [hx,hy]),List.append_nil]
set_option maxHeartbeats 8000000 in
theorem Bx1 (hl:l.length<=800000) (n:Nat) (hp:RfC Tryz.prog G l 57 r [] (P l n).expr dE) (hg: ∀m≤n,RfC Tryz.prog G l 151 r [] (P l m).assoc dA):RfC Tryz.prog G l 110 r [] (P l (n+1)).paren dE:=by
 intro H s hr hc
 obtain⟨li,hli⟩: ∃li,li=(tk l s.k).line:=⟨_,rfl⟩
 obtain⟨A,hA⟩: ∃A:Nat->Res Ex,∀k,A k=((P l n).expr k).then fun a k=>must l Ji k fun k=>((P l n).expr k).then fun b k=>must l Kj k fun k=>((P l n).expr k).then fun c k'=>must l Cp k' fun k'=> .ok (.mk 10 0 0 [] [a,b,c] [] li 0 0) k':=⟨_,fun _=>rfl⟩
 obtain⟨W,hW⟩: ∃W:List As->Nat->Res Ex,∀xs k,W xs k=must l Cp k fun k=> .ok (Ut li xs) k:=⟨_,fun _ _=>rfl⟩
 obtain⟨V,hV⟩: ∃V:Nat->Res Ex,∀k,V k=if isW l k [wIf] then A (k+1) else((P l n).assoc k).then fun a k=>((P l n).assocsL [a] k).then W:=⟨_,fun _=>rfl⟩
 have hmc: ∀(k:Nat) (f g:Nat->Res Ex),f (k+1)=g (k+1)->must l Ce k f=must l Ce k g:=fun k f g h=>by unfold must;split;exact h;rfl
 have eT: ∀k,li=(tk l k).line->(P l (n+1)).paren k=must l Ce k V:=fun k h=>by
  refine hmc k (fun k1=>if isW l k1 [wIf] then((P l n).expr (k1+1)).then fun a k=>must l Ji k fun k=>((P l n).expr k).then fun b k=>must l Kj k fun k=>((P l n).expr k).then fun c k'=>must l Cp k' fun k'=> .ok (.mk 10 0 0 [] [a,b,c] [] (tk l (k1-1)).line 0 0) k' else((P l n).assoc k1).then fun a k=>((P l n).assocsL [a] k).then fun az k=>must l Cp k fun k=> .ok (Ut (tk l (k1-1)).line az) k) V ?_
  rw[hV,hA,show W=fun az k=>must l Cp k fun k=> .ok (Ut li az) k from funext fun _=>funext fun _=>hW _ _,h];rfl
 refine Ad Tryz.func110 Tryz.call110 rfl (by kernel_rfl) ?_
 simp(disch:=omega) only[go_sem,↓reduceIte]
 intro r2 hr2;dsimp only at hr2
 obtain⟨K,hK⟩: ∃K,K=upd H r2 (some (.cells [.int .u8 0, .int .u8 0, .int .i64 0, .str [], .nilSlice, .nilSlice, .int .i64 0, .int .i64 0, .int .i64 0] 27)):=⟨_,rfl⟩
 rw[<-hK]
 have gr2:K r2=some (.cells [.int .u8 0, .int .u8 0, .int .i64 0, .str [], .nilSlice, .nilSlice, .int .i64 0, .int .i64 0, .int .i64 0] 27):=by rw[hK];exact Aa _ _ _
 have n2:r≠r2:=Ae hr2 hr
 have q2:=n2.symm
 have hat:FAt r l s H K:=by rw[hK];exact(FAt.refl hr).new hr2 _
 simp(disch:=omega) only[go_sem,↓reduceIte]
 refine Ai.monoR (Hl G K hat.get (by omega)) ?_
 rw[<-hli]
 simp(disch:=omega) only[go_sem,↓reduceIte]
 refine Ai.monoR (Ft G K Ce (by decide+kernel) hat.get (by omega) (hc.kb hl)) ?_
 have hL0:Left l (P l (n+1)).paren s V (Fs l Ce s):=(Left.refl hc).eq (U:=fun k=>must l Ce k V) (fun _=>eT _ hli) |>.must
 obtain⟨s1,hs1⟩: ∃s1,s1=Fs l Ce s:=⟨_,rfl⟩
 rw[<-hs1] at hL0⊢
 have hcn:s1.bad=false->0<s1.k:=fun hb=>by
  rw[hs1,Fs] at hb⊢
  split at hb
  ·rename_i h;rw[if_pos h];exact Nat.succ_pos _
  ·cases hb
 clear hs1
 obtain⟨K1,hK1⟩: ∃K1,K1=upd K r (some (rfO l s1)):=⟨_,rfl⟩
 rw[<-hK1]
 have hat:FAt r l s1 H K1:=by rw[hK1];exact hat.set s1
 have g2:K1 r2=some (.cells [.int .u8 0, .int .u8 0, .int .i64 0, .str [], .nilSlice, .nilSlice, .int .i64 0, .int .i64 0, .int .i64 0] 27):=by rw[hK1];exact Ag gr2 q2
 clear hK1 gr2 hK
 simp(disch:=omega) only[go_sem,↓reduceIte]
 refine Ai.monoR (Mi G K1 wIf (by decide+kernel) hat.get (by omega) (hL0.can.kb hl)) ?_
 cases b1:(!s1.bad&&isW l s1.k [wIf]) with
 | true=>
  obtain⟨k,rfl,hw⟩:=Ey b1
  have hk1:=Am hw hL0.can.good.1
  rw[List.length_singleton] at hk1
  rw[Ew hw]
  have hL:Left l (P l (n+1)).paren s (fun k=>((P l n).expr k).then fun a k=>must l Ji k fun k=>((P l n).expr k).then fun b k=>must l Kj k fun k=>((P l n).expr k).then fun c k'=>must l Cp k' fun k'=> .ok (.mk 10 0 0 [] [a,b,c] [] li 0 0) k') ⟨k+1,false⟩:=(hL0.at (U:=A) (by rw[hV,if_pos hw]) hk1).eq fun _=>hA _
  obtain⟨s2,hs2⟩: ∃s2:RS,s2=⟨k+1,false⟩:=⟨_,rfl⟩
  rw[<-hs2] at hL⊢
  clear hs2 hL0
  obtain⟨J0,hJ0⟩: ∃J,J=upd K1 r (some (rfO l s2)):=⟨_,rfl⟩
  rw[<-hJ0]
  have hat:FAt r l s2 H J0:=by rw[hJ0];exact hat.set s2
  have g2:J0 r2=some (.cells [.int .u8 0, .int .u8 0, .int .i64 0, .str [], .nilSlice, .nilSlice, .int .i64 0, .int .i64 0, .int .i64 0] 27):=by rw[hJ0];exact Ag g2 q2
  clear hJ0
  simp(disch:=omega) only[go_sem,↓reduceIte]
  refine(hp J0 s2 hat.get (Can.then1 hL.can)).mono ?_
  rintro _ X1 ⟨a,u1,rfl,hX1,ha⟩
  have hL:=hL.thenA ha fun hb=>(Bn n).expr _ (hL.can hb).1
  clear ha
  have hat:FAt r l u1 H X1:=by rw[hX1];exact hat.set u1
  have g2:X1 r2=some (.cells [.int .u8 0, .int .u8 0, .int .i64 0, .str [], .nilSlice, .nilSlice, .int .i64 0, .int .i64 0, .int .i64 0] 27):=by rw[hX1];exact Ag g2 q2
  clear hX1
  have hla:=Ah a
  have hoa:=Al a
  simp(disch:=omega) only[go_sem,↓reduceIte,dE]
  intro c1 hc1;dsimp only at hc1
  simp(disch:=omega) only[go_sem,↓reduceIte,hla,hoa]
  obtain⟨Y1,hY1⟩: ∃K2,K2=upd X1 c1 (some (.cells (dEx a) 27)):=⟨_,rfl⟩
  rw[<-hY1]
  have qc1:c1≠r:=(Ae hc1 hat.get).symm
  have hat:FAt r l u1 H Y1:=by rw[hY1];exact hat.new hc1 _
  have g2:Y1 r2=some (.cells [.int .u8 0, .int .u8 0, .int .i64 0, .str [], .nilSlice, .nilSlice, .int .i64 0, .int .i64 0, .int .i64 0] 27):=by rw[hY1];exact Ag g2 (Ae hc1 g2)
  have gc1:Y1 c1=some (.cells (dEx a) 27):=by rw[hY1];exact Aa _ _ _
  clear hY1
  refine Ai.monoR (Yv G Y1 Ji (by decide+kernel) hat.get (by omega) (hL.can.kb hl)) ?_
  have hL:=hL.must
  obtain⟨v1,hv1⟩: ∃s2,s2=Fs l Ji u1:=⟨_,rfl⟩
  rw[<-hv1] at hL⊢
  clear hv1
  obtain⟨J1,hJ1⟩: ∃J,J=upd Y1 r (some (rfO l v1)):=⟨_,rfl⟩
  rw[<-hJ1]
  have hat:FAt r l v1 H J1:=by rw[hJ1];exact hat.set v1
  have g2:J1 r2=some (.cells [.int .u8 0, .int .u8 0, .int .i64 0, .str [], .nilSlice, .nilSlice, .int .i64 0, .int .i64 0, .int .i64 0] 27):=by rw[hJ1];exact Ag g2 q2
  have gc1:J1 c1=some (.cells (dEx a) 27):=by rw[hJ1];exact Ag gc1 qc1
  clear hJ1
  simp(disch:=omega) only[go_sem,↓reduceIte]
  refine(hp J1 v1 hat.get (Can.then1 hL.can)).mono ?_
  rintro _ X2 ⟨b,u2,rfl,hX2,ha⟩
  have hL:=hL.thenA ha fun hb=>(Bn n).expr _ (hL.can hb).1
  clear ha
  have hat:FAt r l u2 H X2:=by rw[hX2];exact hat.set u2
  have g2:X2 r2=some (.cells [.int .u8 0, .int .u8 0, .int .i64 0, .str [], .nilSlice, .nilSlice, .int .i64 0, .int .i64 0, .int .i64 0] 27):=by rw[hX2];exact Ag g2 q2
  have gc1:X2 c1=some (.cells (dEx a) 27):=by rw[hX2];exact Ag gc1 qc1
  clear hX2
  have hlb:=Ah b
  have hob:=Al b
  simp(disch:=omega) only[go_sem,↓reduceIte,dE]
  intro c2 hc2;dsimp only at hc2
  simp(disch:=omega) only[go_sem,↓reduceIte,hlb,hob]
  obtain⟨Y2,hY2⟩: ∃K2,K2=upd X2 c2 (some (.cells (dEx b) 27)):=⟨_,rfl⟩
  rw[<-hY2]
  have qc2:c2≠r:=(Ae hc2 hat.get).symm
  have hat:FAt r l u2 H Y2:=by rw[hY2];exact hat.new hc2 _
  have g2:Y2 r2=some (.cells [.int .u8 0, .int .u8 0, .int .i64 0, .str [], .nilSlice, .nilSlice, .int .i64 0, .int .i64 0, .int .i64 0] 27):=by rw[hY2];exact Ag g2 (Ae hc2 g2)
  have gc1:Y2 c1=some (.cells (dEx a) 27):=by rw[hY2];exact Ag gc1 (Ae hc2 gc1)
  have gc2:Y2 c2=some (.cells (dEx b) 27):=by rw[hY2];exact Aa _ _ _
  clear hY2
  refine Ai.monoR (Yv G Y2 Kj (by decide+kernel) hat.get (by omega) (hL.can.kb hl)) ?_
  have hL:=hL.must
  obtain⟨v2,hv2⟩: ∃s2,s2=Fs l Kj u2:=⟨_,rfl⟩
  rw[<-hv2] at hL⊢
  clear hv2
  obtain⟨J2,hJ2⟩: ∃J,J=upd Y2 r (some (rfO l v2)):=⟨_,rfl⟩
  rw[<-hJ2]
  have hat:FAt r l v2 H J2:=by rw[hJ2];exact hat.set v2
  have g2:J2 r2=some (.cells [.int .u8 0, .int .u8 0, .int .i64 0, .str [], .nilSlice, .nilSlice, .int .i64 0, .int .i64 0, .int .i64 0] 27):=by rw[hJ2];exact Ag g2 q2
  have gc1:J2 c1=some (.cells (dEx a) 27):=by rw[hJ2];exact Ag gc1 qc1
  have gc2:J2 c2=some (.cells (dEx b) 27):=by rw[hJ2];exact Ag gc2 qc2
  clear hJ2
  simp(disch:=omega) only[go_sem,↓reduceIte]
  refine(hp J2 v2 hat.get (Can.then1 hL.can)).mono ?_
  rintro _ X3 ⟨c,u3,rfl,hX3,ha⟩
  have hL:=hL.thenA ha fun hb=>(Bn n).expr _ (hL.can hb).1
  clear ha
  have hat:FAt r l u3 H X3:=by rw[hX3];exact hat.set u3
  have g2:X3 r2=some (.cells [.int .u8 0, .int .u8 0, .int .i64 0, .str [], .nilSlice, .nilSlice, .int .i64 0, .int .i64 0, .int .i64 0] 27):=by rw[hX3];exact Ag g2 q2
  have gc1:X3 c1=some (.cells (dEx a) 27):=by rw[hX3];exact Ag gc1 qc1
  have gc2:X3 c2=some (.cells (dEx b) 27):=by rw[hX3];exact Ag gc2 qc2
  clear hX3
  have hlc:=Ah c
  have hoc:=Al c
  simp(disch:=omega) only[go_sem,↓reduceIte,dE]
  intro c3 hc3;dsimp only at hc3
  simp(disch:=omega) only[go_sem,↓reduceIte,hlc,hoc]
  obtain⟨Y3,hY3⟩: ∃K2,K2=upd X3 c3 (some (.cells (dEx c) 27)):=⟨_,rfl⟩
  rw[<-hY3]
  have qc3:c3≠r:=(Ae hc3 hat.get).symm
  have hat:FAt r l u3 H Y3:=by rw[hY3];exact hat.new hc3 _
  have g2:Y3 r2=some (.cells [.int .u8 0, .int .u8 0, .int .i64 0, .str [], .nilSlice, .nilSlice, .int .i64 0, .int .i64 0, .int .i64 0] 27):=by rw[hY3];exact Ag g2 (Ae hc3 g2)
  have gc1:Y3 c1=some (.cells (dEx a) 27):=by rw[hY3];exact Ag gc1 (Ae hc3 gc1)
  have gc2:Y3 c2=some (.cells (dEx b) 27):=by rw[hY3];exact Ag gc2 (Ae hc3 gc2)
  have gc3:Y3 c3=some (.cells (dEx c) 27):=by rw[hY3];exact Aa _ _ _
  clear hY3
  refine Ai.monoR (Ft G Y3 Cp (by decide+kernel) hat.get (by omega) (hL.can.kb hl)) ?_
  have hL:=hL.must
  obtain⟨v3,hv3⟩: ∃s2,s2=Fs l Cp u3:=⟨_,rfl⟩
  rw[<-hv3] at hL⊢
  clear hv3
  obtain⟨J3,hJ3⟩: ∃J,J=upd Y3 r (some (rfO l v3)):=⟨_,rfl⟩
  rw[<-hJ3]
  have hat:FAt r l v3 H J3:=by rw[hJ3];exact hat.set v3
  have g2:J3 r2=some (.cells [.int .u8 0, .int .u8 0, .int .i64 0, .str [], .nilSlice, .nilSlice, .int .i64 0, .int .i64 0, .int .i64 0] 27):=by rw[hJ3];exact Ag g2 q2
  have gc1:J3 c1=some (.cells (dEx a) 27):=by rw[hJ3];exact Ag gc1 qc1
  have gc2:J3 c2=some (.cells (dEx b) 27):=by rw[hJ3];exact Ag gc2 qc2
  have gc3:J3 c3=some (.cells (dEx c) 27):=by rw[hJ3];exact Ag gc3 qc3
  clear hJ3
  simp(disch:=omega) only[go_sem,↓reduceIte,gc1,gc2,gc3]
  try simp(disch:=omega) only[go_sem,↓reduceIte,hla,hlb,hlc]
  rw[Bh8 hla hlb hlc]
  try simp(disch:=omega) only[go_sem,↓reduceIte]
  intro q hq;dsimp only at hq
  have n2q:r2≠q:=Ae hq g2
  have nq2:=n2q.symm
  simp(disch:=omega) only[go_sem,↓reduceIte,g2,n2q,nq2]
  have hs:=(hat.new hq (some (.cells (dEx a++dEx b++dEx c) 27))).own hr2 q2 (some (.cells [.int .u8 10, .int .u8 0, .int .i64 0, .str [], .oslice 9 q 0 3 3, .nilSlice, .int .i64 li, .int .i64 0, .int .i64 0] 27))
  have hf: [a,b,c].flatMap dEx=dEx a++dEx b++dEx c:=by simp
  refine Fc.fin hs (Fc.agg (Fc.ex (l:= [a,b,c]) hs (Fc.block (e:=27) hs (Sub.lo hat hq) ?_ ?_) (.as0 hs))) ⟨_,v3,rfl,rfl,hL.done fun _=>rfl⟩
  ·rw[hf];simp [upd,n2q,nq2]
  ·rw[hf,List.length_append,List.length_append,hla,hlb,hlc]
 | false=>
  rw[Fx b1,Be hat.get]
  have hL:=hL0.eq (U:=fun k=>((P l n).assoc k).then fun a k=>((P l n).assocsL [a] k).then W) fun hb=>by rw[hV,Dp b1 hb];rfl
  clear hL0
  obtain⟨AB,hAB⟩: ∃AB:RS->Ac,∀s,AB s=upd K1 r (some (rfO l s)):=⟨_,fun _=>rfl⟩
  have hABr: ∀s,AB s r=some (rfO l s):=fun s=>by rw[hAB];exact Aa _ _ _
  have hAB2: ∀s,AB s r2=some (.cells [.int .u8 0, .int .u8 0, .int .i64 0, .str [], .nilSlice, .nilSlice, .int .i64 0, .int .i64 0, .int .i64 0] 27):=fun s=>by rw[hAB];exact Ag g2 q2
  have hABk: ∀s s',upd (AB s) r (some (rfO l s'))=AB s':=fun s s'=>by rw[hAB,hAB,Da]
  have hABa: ∀s,FAt r l s H (AB s):=fun s=>by rw[hAB];exact hat.set s
  simp(disch:=omega) only[go_sem,↓reduceIte]
  refine(hg n (Nat.le_refl _) K1 s1 hat.get (Can.then1 hL.can)).mono ?_
  rintro _ K2 ⟨a,s2,rfl,hK2,ha⟩
  rw[<-hAB] at hK2
  have hcn:s2.bad=false-> [a].length<=s2.k:=by
   rcases s1.cases with hb | ⟨j,rfl⟩
   ·rw[Aft,if_pos hb] at ha;subst ha;intro h;rw[hb] at h;cases h
   ·exact Kd (c:=0) ha ((Bn n).assoc _ hL.can.good.1) (Nat.zero_le _)
  have hL:=hL.thenA ha fun hb=>(Bn n).assoc _ (hL.can hb).1
  clear ha
  have hla:=Bi a
  simp(disch:=omega) only[go_sem,↓reduceIte,dA]
  rw[Od hla,hK2]
  try simp(disch:=omega) only[go_sem,↓reduceIte]
  intro q hq;dsimp only at hq
  have hv0:Dj (AB s2) 44 10 [a].length ([a].flatMap dAs) (.oslice 10 q 0 1 1) (upd (AB s2) q (some (.cells (dAs a) 44))):=
   .inr ⟨q,hq,by rw[List.flatMap_singleton,hla];rfl,rfl,by rw[List.flatMap_singleton];exact Aa _ _ _,(Sub.refl _).new hq _⟩
  obtain⟨K3,hK3⟩: ∃K3,K3=upd (AB s2) q (some (.cells (dAs a) 44)):=⟨_,rfl⟩
  rw[<-hK3] at hv0⊢
  simp(disch:=omega) only[go_sem,↓reduceIte]
  obtain⟨I,hI⟩: ∃I:Nat×List As×RS->(Nat->DVal)->Ac->Prop,∀i env heap,I i env heap↔(env 0= .optr r 0/\env 2= .optr r2 0/\env 3= .int .i64 li/\i.1<=n/\0<i.2.1.length/\(i.2.2.bad=false->i.2.1.length<=i.2.2.k)/\Left l (P l (n+1)).paren s (fun k=>((P l i.1).assocsL i.2.1 k).then W) i.2.2/\Dj (AB i.2.2) 44 10 i.2.1.length (i.2.1.flatMap dAs) (env 7) heap):=⟨_,fun _ _ _=>Iff.rfl⟩
  refine Bt4.run I (fun i=>i.1) (n,[a],s2) ((hI _ _ _).2 ?_) ?_
  ·simp(disch:=omega) only[go_sem,↓reduceIte]
   (repeat' apply And.intro)<;>(try first | rfl | assumption | omega)
  ·rintro⟨m,xs,s3⟩ E heap hi
   obtain⟨e0,e2,e3,hm,hx0,hcn,hL,hv⟩:=(hI _ _ _).1 hi
   dsimp only at hm hx0 hcn hL hv
   obtain⟨v,e7⟩: ∃v,E 7=v:=⟨_,rfl⟩
   rw[e7] at hv
   have gr:heap r=some (rfO l s3):=hv.keep (hABr _)
   simp(disch:=omega) only[go_sem,↓reduceIte,e0,e2,e3,e7]
   refine Ai.monoR (Ef G heap Gn (by decide+kernel) gr (by omega) (hL.can.kb hl)) ?_
   cases b:(!s3.bad&&isW l s3.k [Gn]) with
   | false=>
    rw[Fx b,Be gr]
    simp(disch:=omega) only[go_sem,↓reduceIte,e0,e2,e3,e7]
    have hT:Left l (P l (n+1)).paren s (fun k=>must l Cp k fun k=>Res.ok (Ut li xs) k) s3:=hL.eq fun hb=>by
     cases m with
     | zero=>exact absurd rfl (hL.can hb).2
     | succ m=>rw[<-hW];show(if isW l s3.k [Gn]=true then _ else Res.ok xs s3.k).then W=_;rw[Dp b hb];rfl
    refine Ai.monoR (Ft G heap Cp (by decide+kernel) gr (by omega) (hT.can.kb hl)) ?_
    have hT:=hT.must
    obtain⟨s4,hs4⟩: ∃s2,s2=Fs l Cp s3:=⟨_,rfl⟩
    rw[<-hs4] at hT⊢
    have hv:=hv.at (hABr _) (some (rfO l s4))
    rw[hABk] at hv
    obtain⟨K4,hK4⟩: ∃J,J=upd heap r (some (rfO l s4)):=⟨_,rfl⟩
    rw[<-hK4] at hv⊢
    clear hK4 hs4
    have hend:=hT.done (x:=Ut li xs) fun _=>rfl
    have g2:=hv.keep (hAB2 s4)
    have hvf:=fun z=>Dj.less (Dj.at hv (hAB2 s4) z) ((hABa s4).own hr2 q2 z)
    obtain⟨w,hw0,hwl,rfl,gw,hws⟩: ∃w,AB s4 w=none/\(xs.flatMap dAs).length=xs.length*10/\v= .oslice 10 w 0 xs.length xs.length/\K4 w=some (.cells (xs.flatMap dAs) 44)/\Sub (AB s4) K4:=by
     rcases hv with⟨h,_⟩ | h
     ·omega
     ·exact h
    by_cases c1:xs.length=1
    ·obtain⟨x,rfl⟩:=List.length_eq_one_iff.1 c1
     have hlx:=Bi x
     have hge:=Uv x
     have hle:=Ah x.e
     have hoe:=Al x.e
     have hg0:=Uu x
     rw[List.flatMap_singleton] at gw
     by_cases c2:x.c= []
     ·have c2':x.c.length=0:=by rw[c2];rfl
      simp(disch:=omega) only[go_sem,↓reduceIte,e0,e2,e3,e7,gw,g2,List.length_singleton,List.flatMap_singleton,hlx,hg0,c2']
      try simp(disch:=omega) only[go_sem,↓reduceIte,hge,hle,hoe,g2]
      have hs:=fun z=>(Dj.sub (hvf z))
      have hag:Ut li [x]=x.e:=by show(if x.c= [] then _ else _)=_;rw[if_pos c2]
      rw[hag] at hend
      exact Fc.fin (hs _) (Fc.agg (Ek.keep (hs _) _)) ⟨x.e,s4,rfl,rfl,hend⟩
     ·have c2': ¬(x.c.length:Int)=0:=fun h=>c2 (List.length_eq_zero_iff.1 (by omega))
      simp(disch:=omega) only[go_sem,↓reduceIte,e0,e2,e3,e7,gw,g2,List.length_singleton,List.flatMap_singleton,hlx,hg0,c2']
      have hag:Ut li [x]= .mk 9 0 0 [] [] [x] li 0 0:=by show(if x.c= [] then _ else _)=_;rw[if_neg c2]
      rw[hag] at hend
      exact Fc.fin (Dj.sub (hvf _)) (Fc.agg (Fc.ex (a:= [x]) (Dj.sub (hvf _)) (.exs0 (Dj.sub (hvf _))) (Fc.own (hvf _)))) ⟨_,s4,rfl,rfl,hend⟩
    ·have c1': ¬(xs.length:Int)=1:=by omega
     simp(disch:=omega) only[go_sem,↓reduceIte,e0,e2,e3,e7,gw,g2,c1']
     have hag:Ut li xs= .mk 9 0 0 [] [] xs li 0 0:=by
      match xs,c1 with
      | [],_=>rfl
      | [x],h=>exact absurd rfl h
      | x::y::zs,_=>rfl
     rw[hag] at hend
     exact Fc.fin (Dj.sub (hvf _)) (Fc.agg (Fc.ex (a:=xs) (Dj.sub (hvf _)) (.exs0 (Dj.sub (hvf _))) (Fc.own (hvf _)))) ⟨_,s4,rfl,rfl,hend⟩
   | true=>
    obtain⟨k,rfl,hw⟩:=Ey b
    rw[Ew hw]
    have hk:=hL.can.good.1
    have hk1:=Am hw hk
    rw[List.length_singleton] at hk1
    have hxs:=hcn rfl
    dsimp only at hxs
    obtain⟨m,rfl⟩: ∃m',m=m'+1:=by
     cases m with
     | zero=>exact absurd rfl hL.can.good.2
     | succ m=>exact⟨m,rfl⟩
    have eK:((P l (m+1)).assocsL xs k).then W=((P l m).assoc (k+1)).then fun a k=>((P l m).assocsL (xs++ [a]) k).then W:=by
     rw[<-Me (f:=fun a k=>(P l m).assocsL (xs++ [a]) k)]
     show Res.then (if isW l k [Gn]=true then _ else _) W=_
     rw[if_pos hw]
    have hv1:=hv.at (hABr _) (some (rfO l ⟨k+1,false⟩))
    rw[hABk] at hv1
    simp(disch:=omega) only[go_sem,↓reduceIte,e0,e2,e3,e7]
    refine(hg m (by omega) _ ⟨k+1,false⟩ (Aa _ _ _) (hL.canT eK hk1)).mono ?_
    rintro _ K3 ⟨y,s4,rfl,hK3,ha⟩
    have hv2:=hv1.at (hABr _) (some (rfO l s4))
    rw[hABk,<-hK3] at hv2
    have hL2:=hL.round eK hk1 ha ((Bn m).assoc _ hk1)
    have hcn2:=Kd (c:=xs.length) ha ((Bn m).assoc _ hk1) (by omega)
    have hly:=Bi y
    simp(disch:=omega) only[go_sem,↓reduceIte,e0,e2,e3,e7,dA]
    rw[Od hly]
    try simp(disch:=omega) only[go_sem,↓reduceIte]
    intro q2 hq2;dsimp only at hq2
    simp(disch:=omega) only[go_sem,↓reduceIte,e0,e2,e3,e7,Aa]
    refine Dj.append (m:=1) (hv2.new hq2 _) hly (by omega) fun v2 K4 hv4=> ?_
    simp(disch:=omega) only[go_sem,↓reduceIte,e0,e2,e3,e7]
    refine⟨(m,xs++ [y],s4),_,Ni.refl _,(hI _ _ _).2 ?_,by show m<m+1;omega⟩
    simp(disch:=omega) only[go_sem,↓reduceIte,e0,e2,e3]
    (repeat' apply And.intro)<;>(try first | rfl | assumption | omega)
    ·first | (rw[List.length_append,List.length_singleton];omega) | skip
    ·intro hb;first | (rw[List.length_append,List.length_singleton];exact hcn2 hb) | exact hcn2 hb
    ·rw[List.length_append,List.length_singleton,List.flatMap_append,List.flatMap_singleton];exact hv4
end
end Go.Dl

-- Chapter 3: the reference's reader: all its functions together.
namespace Go.Dl
open Go Go.Proofs
set_option maxRecDepth 100000
section
variable {G:Nat->DVal} {r:Nat} {l:List Tok}
structure RfAll (G:Nat->DVal) (l:List Tok) (r:Nat) (m:Nat):Prop where
 name:RfC Tryz.prog G l 63 r [] (P l m).name dE
 primary:RfC Tryz.prog G l 62 r [] (P l m).primary dE
 factor:RfC Tryz.prog G l 61 r [] (P l m).factor dE
 term:RfC Tryz.prog G l 60 r [] (P l m).term dE
 simple:RfC Tryz.prog G l 59 r [] (P l m).simple dE
 relation: ∀x,RfC Tryz.prog G l 58 r [.agg (dEx x)] ((P l m).relation x) dE
 rest: ∀x,RfC Tryz.prog G l 101 r [.agg (dEx x)] ((P l m).rest x) dE
 expr:RfC Tryz.prog G l 57 r [] (P l m).expr dE
 choice:RfS Tryz.prog G l 121 r [] (P l m).choice dC ChS
 arg:RfC Tryz.prog G l 117 r [] (P l m).arg dA
 assoc:RfC Tryz.prog G l 151 r [] (P l m).assoc dA
 args:RfC Tryz.prog G l 67 r [] (fun k=>((P l m).arg k).then fun a k=>(P l m).argsL [a] k) dAl
 choices:RfC Tryz.prog G l 71 r [] (fun k=>((P l m).choice k).then fun a k=>(P l m).choicesL [a] k) dCl
 paren:RfC Tryz.prog G l 110 r [] (P l m).paren dE
theorem Jf {Q:Nat->Prop} (h:Q 0): ∀m≤0,Q m:=fun m hm=>by rw[show m=0 by omega];exact h
theorem Dm5 (hl:l.length<=800000): ∀n m,m<=n->RfAll G l r m:=by
 intro n
 induction n with
 | zero=>
  refine Jf ?_;have h1:RfC Tryz.prog G l 63 r [] (P l 0).name dE:=(Cu1 hl 0 (Jf (Q:=fun m=>RfG _ G l _ r [] (P l m).paren dE) RfG.bot) (Jf (Q:=fun m=>RfG _ G l _ r [] (fun k=>((P l m).arg k).then fun a k=>(P l m).argsL [a] k) dAl) RfG.bot)).bot;have h2:RfC Tryz.prog G l 62 r [] (P l 0).primary dE:=(Aq0 hl (P l 0) RfG.bot h1).bot;have h3:RfC Tryz.prog G l 61 r [] (P l 0).factor dE:=(Bh5 hl (P l 0) h2).bot;have h4:RfC Tryz.prog G l 60 r [] (P l 0).term dE:=(Ct7 hl 0 (Jf h3)).bot;have h5:RfC Tryz.prog G l 59 r [] (P l 0).simple dE:=(Bh6 hl 0 (Jf h4)).bot;have h6: ∀x,RfC Tryz.prog G l 58 r [.agg (dEx x)] ((P l 0).relation x) dE:=fun x=>(Aj5 hl (P l 0) (Bn 0) h5 x).bot;have h7: ∀x,RfC Tryz.prog G l 101 r [.agg (dEx x)] ((P l 0).rest x) dE:=fun x=>(Ct9 hl 0 (Jf h5) (Jf h6) x).bot;have h8:RfC Tryz.prog G l 57 r [] (P l 0).expr dE:=(Cu0 hl (P l 0) (Bn 0) h5 h7).bot;have h9:RfS Tryz.prog G l 121 r [] (P l 0).choice dC ChS:=(Bh7 hl (P l 0) (Bn 0) h5 h7).bot;have ha:RfC Tryz.prog G l 117 r [] (P l 0).arg dA:=(Aj6 hl (P l 0) h8).bot;have hb:RfC Tryz.prog G l 151 r [] (P l 0).assoc dA:=(Bx0 hl 0 (Jf h9) h8).bot;exact⟨h1,h2,h3,h4,h5,h6,h7,h8,h9,ha,hb,Cu2 hl 0 (Jf ha),Aq1 hl 0 (Jf h9.c),(Bx1 hl 0 h8 (Jf hb)).bot⟩
 | succ n ih=>
  intro m hm;rcases Nat.lt_or_ge m (n+1) with h | h
  ·exact ih m (by omega)
  ·have:m=n+1:=by omega
   subst this;have h0:=ih n (Nat.le_refl _);have up: ∀ {Q:Nat->Prop},(∀m≤n,Q m)->Q (n+1)-> ∀m≤n+1,Q m:=fun {Q} h1 h2 m hm=>by
    rcases Nat.lt_or_ge m (n+1) with h | h
    ·exact h1 m (by omega)
    ·rw[show m=n+1 by omega];exact h2
   have ha:RfC Tryz.prog G l 117 r [] (P l (n+1)).arg dA:=Aj6 hl (P l n) h0.expr;have h9:RfS Tryz.prog G l 121 r [] (P l (n+1)).choice dC ChS:=Bh7 hl (P l n) (Bn n) h0.simple h0.rest;exact⟨Cu1 hl n (fun m hm=>(ih m hm).paren.g) (fun m hm=>(ih m hm).args.g),Aq0 hl (P l n) h0.paren.g h0.name,Bh5 hl (P l n) h0.primary,Ct7 hl n (fun m hm=>(ih m hm).factor),Bh6 hl n (fun m hm=>(ih m hm).term),
    fun x=>Aj5 hl (P l n) (Bn n) h0.simple x,fun x=>Ct9 hl n (fun m hm=>(ih m hm).simple) (fun m hm=>(ih m hm).relation) x,Cu0 hl (P l n) (Bn n) h0.simple h0.rest,h9,ha,
    Bx0 hl n (fun m hm=>(ih m hm).choice) h0.expr,Cu2 hl (n+1) (up (fun m hm=>(ih m hm).arg) ha),Aq1 hl (n+1) (up (fun m hm=>(ih m hm).choice.c) h9.c),Bx1 hl n h0.expr (fun m hm=>(ih m hm).assoc)⟩
theorem Sh (hl:l.length<=800000) (m:Nat):RfAll G l r m:=Dm5 hl m m (Nat.le_refl _)
end
end Go.Dl

-- Chapter 3: the reference's Front, FrontArgs, FrontChoices.
namespace Go.Dl
open Go Go.Proofs
set_option maxRecDepth 100000
section
variable {G:Nat->DVal} {l:List Tok}
set_option maxHeartbeats 4000000 in
theorem Bh9 (H:Ac) (level:Int) (hl:l.length<=800000) (hT:Gq l):Ai Tryz.prog G 17 [Cc l,dI level] H (Au (Xg (Ee l level)) H):=by
 refine Ad Tryz.func17 Tryz.call17 rfl (by kernel_rfl) ?_
 simp(disch:=omega) only[go_sem,↓reduceIte]
 intro r4 h4;dsimp only at h4
 simp(disch:=omega) only[go_sem,↓reduceIte]
 intro r7 hr7;dsimp only at hr7
 simp(disch:=omega) only[go_sem,↓reduceIte]
 intro r8 hr8;dsimp only at hr8
 have n47:r4≠r7:=Ae hr7 (Aa _ _ _)
 have n74:=n47.symm
 have n78:r7≠r8:=Ae hr8 (Aa _ _ _)
 have n87:=n78.symm
 have h7:H r7=none:=by simpa [upd,n74] using hr7
 have n48:r4≠r8:=Ae hr8 (Ag (Aa _ _ _) n47)
 have n84:=n48.symm
 have h8:H r8=none:=by simpa [upd,n87,n84] using hr8
 obtain⟨K0,hK0⟩: ∃K0,K0=upd (upd (upd H r4 (some (.cells [.int .u8 0, .int .u8 0, .int .i64 0, .str [], .nilSlice, .nilSlice, .int .i64 0, .int .i64 0, .int .i64 0] 27))) r7 (some (.cells ((Cc l).cells++List.drop (Cc l).cells.length [DVal.nilSlice, .int .i64 0, .bool false]) 89))) r8 (some (.cells [.int .u8 0, .int .u8 0, .int .i64 0, .str [], .nilSlice, .nilSlice, .int .i64 0, .int .i64 0, .int .i64 0] 27)):=⟨_,rfl⟩
 have hs0:Sub H K0:=by rw[hK0];exact(((Sub.refl H).new h4 _).new hr7 _).new hr8 _
 have g4:K0 r4=some (.cells [.int .u8 0, .int .u8 0, .int .i64 0, .str [], .nilSlice, .nilSlice, .int .i64 0, .int .i64 0, .int .i64 0] 27):=by rw[hK0];exact Ag (Ag (Aa _ _ _) n47) n48
 have g8:K0 r8=some (.cells [.int .u8 0, .int .u8 0, .int .i64 0, .str [], .nilSlice, .nilSlice, .int .i64 0, .int .i64 0, .int .i64 0] 27):=by rw[hK0];exact Aa _ _ _
 have g7:K0 r7=some (rfO l ⟨0,false⟩):=by rw[hK0];exact Ag (Aa _ _ _) n78
 simp(disch:=omega) only[go_sem,↓reduceIte]
 try rw[<-hK0]
 clear hK0
 have hf0: ∀j:Nat,j<7->Ee l j=match Ix l j with
    | .ok x k=>if Ia x then(x,k,0) else(ex0,0,3)
    | .fail k=>(ex0,k,30)
    | .bot=>(ex0,0,0):=fun j hj=>by rw[Ee,if_neg (by omega),Int.toNat_natCast];cases Ix l j<;>rfl
 by_cases c0:level=0
 ·subst c0
  have hf:=hf0 0 (by omega)
  rw[show((0:Nat):Int)=0 from rfl] at hf
  simp(disch:=omega) only[go_sem,↓reduceIte]
  obtain⟨n,hn⟩: ∃n,(P l n).expr 0=Ix l 0:=⟨Ci l,rfl⟩
  have hne:=Md (l:=l) 0
  refine((Sh hl n).expr _ ⟨0,false⟩ g7 fun _=>⟨Nat.zero_le _,by show(P l n).expr 0≠_;rw[hn];exact hne⟩).mono ?_
  rintro _ K1 ⟨x,s,rfl,hK1,ha⟩
  rw[Aft.good,hn] at ha
  have hs1:Sub H K1:=by rw[hK1];exact hs0.up h7 _
  have g14:K1 r4=some (.cells [.int .u8 0, .int .u8 0, .int .i64 0, .str [], .nilSlice, .nilSlice, .int .i64 0, .int .i64 0, .int .i64 0] 27):=by rw[hK1];exact Ag g4 n47
  have g18:K1 r8=some (.cells [.int .u8 0, .int .u8 0, .int .i64 0, .str [], .nilSlice, .nilSlice, .int .i64 0, .int .i64 0, .int .i64 0] 27):=by rw[hK1];exact Ag g8 n87
  have g17:K1 r7=some (rfO l s):=by rw[hK1];exact Aa _ _ _
  clear hK1
  have hox:=Al x
  have hlx:=Ah x
  have had:=Lf (l:=l) (0)
  have hfit:=Jd hT (0)
  have hs2:Sub H (upd K1 r8 (some (.cells (dEx x) 27))):=hs1.up h8 _
  have g24:(upd K1 r8 (some (.cells (dEx x) 27))) r4=some (.cells [.int .u8 0, .int .u8 0, .int .i64 0, .str [], .nilSlice, .nilSlice, .int .i64 0, .int .i64 0, .int .i64 0] 27):=Ag g14 n48
  have g28:(upd K1 r8 (some (.cells (dEx x) 27))) r8=some (.cells (dEx x) 27):=Aa _ _ _
  have g27:(upd K1 r8 (some (.cells (dEx x) 27))) r7=some (rfO l s):=Ag g17 n78
  obtain⟨K2,hK2⟩: ∃K2,K2=upd K1 r8 (some (.cells (dEx x) 27)):=⟨_,rfl⟩
  rw[<-hK2] at hs2 g24 g28 g27
  have hs:=fun z=>hs2.up h4 z
  cases hres:Ix l (0) with
  | bot=>rw[hres] at ha;exact ha.elim
  | fail k=>
   rw[hres] at ha hf
   dsimp only at ha
   subst ha
   rw[hf]
   simp(disch:=omega) only[go_sem,↓reduceIte,dE,g18,hlx,hox,n78,n87,g17]
   rw[<-hK2]
   refine Aj (by kernel_rfl) (.take 0 (.take 1 (.take 2 (.take 3 (.take 4 (.go 5 [4] (.take 6 (.take 7 .done)))))))) (by kernel_rfl) ?_
   simp(disch:=omega) only[go_sem,↓reduceIte,g27,g24]
   refine⟨by rw[if_neg n74],?_⟩
   exact Fc.fin (hs _) (Fc.tuple (.cons (Fc.ex0 (hs _)) (Ek.keep (hs _) _))) ⟨rfl,rfl⟩
  | ok y k=>
   rw[hres] at ha hfit had hf
   obtain⟨rfl,rfl⟩:=ha
   obtain⟨hb,hok⟩:=hfit x k rfl
   have hk:=had.2
   rw[hf]
   simp(disch:=omega) only[go_sem,↓reduceIte,dE,g18,hlx,hox,n78,n87,g17]
   rw[<-hK2]
   refine Ai.monoR (Hu G _ x (by omega)) ?_
   cases hm:Ia x with
   | true=>
    simp(disch:=omega) only[go_sem,↓reduceIte,g27,g28,hlx,hox]
    refine Aj (by kernel_rfl) (.take 0 (.take 1 (.take 2 (.take 3 (.take 4 (.go 5 [4] (.take 6 (.take 7 .done)))))))) (by kernel_rfl) ?_
    simp(disch:=omega) only[go_sem,↓reduceIte,g27,g28,g24,hlx,hox]
    refine⟨by rw[if_neg n74],?_⟩
    exact Nu.sub (hs _) (.refl ⟨rfl,rfl⟩)
   | false=>
    simp(disch:=omega) only[go_sem,↓reduceIte,g24]
    exact Fc.fin (hs _) (Fc.tuple (.cons (Fc.ex0 (hs _)) (Ek.keep (hs _) _))) ⟨rfl,rfl⟩
 by_cases c1:level=1
 ·subst c1
  have hf:=hf0 1 (by omega)
  rw[show((1:Nat):Int)=1 from rfl] at hf
  simp(disch:=omega) only[go_sem,↓reduceIte]
  obtain⟨n,hn⟩: ∃n,((P l n).simple 0).then (fun x k=>(P l n).relation x k)=Ix l 1:=⟨Ci l,rfl⟩
  have hne:=Md (l:=l) 1
  have hc:Can l (fun k=>((P l n).simple k).then fun x k=>(P l n).relation x k) ⟨0,false⟩:=fun _=>⟨Nat.zero_le _,by show((P l n).simple 0).then (fun x k=>(P l n).relation x k)≠_;rw[hn];exact hne⟩
  refine((Sh hl n).simple _ ⟨0,false⟩ g7 (Can.then1 (V:=fun x k=>(P l n).relation x k) hc)).mono ?_
  rintro _ Kx ⟨x0,s0,rfl,hKx,ha0⟩
  have hc2:=Can.then2 hc ha0 fun _=>(Bn n).simple _ (Nat.zero_le _)
  simp(disch:=omega) only[go_sem,↓reduceIte,dE]
  refine((Sh hl n).relation x0 _ s0 (by rw[hKx];exact Aa _ _ _) hc2).mono ?_
  rintro _ K1 ⟨x,s,rfl,hK1,ha⟩
  rw[hKx,Da] at hK1
  clear hKx
  replace ha:=ha0.then (V:=fun x k=>(P l n).relation x k) ha
  rw[Aft.good,hn] at ha
  have hs1:Sub H K1:=by rw[hK1];exact hs0.up h7 _
  have g14:K1 r4=some (.cells [.int .u8 0, .int .u8 0, .int .i64 0, .str [], .nilSlice, .nilSlice, .int .i64 0, .int .i64 0, .int .i64 0] 27):=by rw[hK1];exact Ag g4 n47
  have g18:K1 r8=some (.cells [.int .u8 0, .int .u8 0, .int .i64 0, .str [], .nilSlice, .nilSlice, .int .i64 0, .int .i64 0, .int .i64 0] 27):=by rw[hK1];exact Ag g8 n87
  have g17:K1 r7=some (rfO l s):=by rw[hK1];exact Aa _ _ _
  clear hK1
  have hox:=Al x
  have hlx:=Ah x
  have had:=Lf (l:=l) (1)
  have hfit:=Jd hT (1)
  have hs2:Sub H (upd K1 r8 (some (.cells (dEx x) 27))):=hs1.up h8 _
  have g24:(upd K1 r8 (some (.cells (dEx x) 27))) r4=some (.cells [.int .u8 0, .int .u8 0, .int .i64 0, .str [], .nilSlice, .nilSlice, .int .i64 0, .int .i64 0, .int .i64 0] 27):=Ag g14 n48
  have g28:(upd K1 r8 (some (.cells (dEx x) 27))) r8=some (.cells (dEx x) 27):=Aa _ _ _
  have g27:(upd K1 r8 (some (.cells (dEx x) 27))) r7=some (rfO l s):=Ag g17 n78
  obtain⟨K2,hK2⟩: ∃K2,K2=upd K1 r8 (some (.cells (dEx x) 27)):=⟨_,rfl⟩
  rw[<-hK2] at hs2 g24 g28 g27
  have hs:=fun z=>hs2.up h4 z
  cases hres:Ix l (1) with
  | bot=>rw[hres] at ha;exact ha.elim
  | fail k=>
   rw[hres] at ha hf
   dsimp only at ha
   subst ha
   rw[hf]
   simp(disch:=omega) only[go_sem,↓reduceIte,dE,g18,hlx,hox,n78,n87,g17]
   rw[<-hK2]
   refine Aj (by kernel_rfl) (.take 0 (.take 1 (.take 2 (.take 3 (.take 4 (.go 5 [4] (.take 6 (.take 7 .done)))))))) (by kernel_rfl) ?_
   simp(disch:=omega) only[go_sem,↓reduceIte,g27,g24]
   refine⟨by rw[if_neg n74],?_⟩
   exact Fc.fin (hs _) (Fc.tuple (.cons (Fc.ex0 (hs _)) (Ek.keep (hs _) _))) ⟨rfl,rfl⟩
  | ok y k=>
   rw[hres] at ha hfit had hf
   obtain⟨rfl,rfl⟩:=ha
   obtain⟨hb,hok⟩:=hfit x k rfl
   have hk:=had.2
   rw[hf]
   simp(disch:=omega) only[go_sem,↓reduceIte,dE,g18,hlx,hox,n78,n87,g17]
   rw[<-hK2]
   refine Ai.monoR (Hu G _ x (by omega)) ?_
   cases hm:Ia x with
   | true=>
    simp(disch:=omega) only[go_sem,↓reduceIte,g27,g28,hlx,hox]
    refine Aj (by kernel_rfl) (.take 0 (.take 1 (.take 2 (.take 3 (.take 4 (.go 5 [4] (.take 6 (.take 7 .done)))))))) (by kernel_rfl) ?_
    simp(disch:=omega) only[go_sem,↓reduceIte,g27,g28,g24,hlx,hox]
    refine⟨by rw[if_neg n74],?_⟩
    exact Nu.sub (hs _) (.refl ⟨rfl,rfl⟩)
   | false=>
    simp(disch:=omega) only[go_sem,↓reduceIte,g24]
    exact Fc.fin (hs _) (Fc.tuple (.cons (Fc.ex0 (hs _)) (Ek.keep (hs _) _))) ⟨rfl,rfl⟩
 by_cases c2:level=2
 ·subst c2
  have hf:=hf0 2 (by omega)
  rw[show((2:Nat):Int)=2 from rfl] at hf
  simp(disch:=omega) only[go_sem,↓reduceIte]
  obtain⟨n,hn⟩: ∃n,(P l n).simple 0=Ix l 2:=⟨Ci l,rfl⟩
  have hne:=Md (l:=l) 2
  refine((Sh hl n).simple _ ⟨0,false⟩ g7 fun _=>⟨Nat.zero_le _,by show(P l n).simple 0≠_;rw[hn];exact hne⟩).mono ?_
  rintro _ K1 ⟨x,s,rfl,hK1,ha⟩
  rw[Aft.good,hn] at ha
  have hs1:Sub H K1:=by rw[hK1];exact hs0.up h7 _
  have g14:K1 r4=some (.cells [.int .u8 0, .int .u8 0, .int .i64 0, .str [], .nilSlice, .nilSlice, .int .i64 0, .int .i64 0, .int .i64 0] 27):=by rw[hK1];exact Ag g4 n47
  have g18:K1 r8=some (.cells [.int .u8 0, .int .u8 0, .int .i64 0, .str [], .nilSlice, .nilSlice, .int .i64 0, .int .i64 0, .int .i64 0] 27):=by rw[hK1];exact Ag g8 n87
  have g17:K1 r7=some (rfO l s):=by rw[hK1];exact Aa _ _ _
  clear hK1
  have hox:=Al x
  have hlx:=Ah x
  have had:=Lf (l:=l) (2)
  have hfit:=Jd hT (2)
  have hs2:Sub H (upd K1 r8 (some (.cells (dEx x) 27))):=hs1.up h8 _
  have g24:(upd K1 r8 (some (.cells (dEx x) 27))) r4=some (.cells [.int .u8 0, .int .u8 0, .int .i64 0, .str [], .nilSlice, .nilSlice, .int .i64 0, .int .i64 0, .int .i64 0] 27):=Ag g14 n48
  have g28:(upd K1 r8 (some (.cells (dEx x) 27))) r8=some (.cells (dEx x) 27):=Aa _ _ _
  have g27:(upd K1 r8 (some (.cells (dEx x) 27))) r7=some (rfO l s):=Ag g17 n78
  obtain⟨K2,hK2⟩: ∃K2,K2=upd K1 r8 (some (.cells (dEx x) 27)):=⟨_,rfl⟩
  rw[<-hK2] at hs2 g24 g28 g27
  have hs:=fun z=>hs2.up h4 z
  cases hres:Ix l (2) with
  | bot=>rw[hres] at ha;exact ha.elim
  | fail k=>
   rw[hres] at ha hf
   dsimp only at ha
   subst ha
   rw[hf]
   simp(disch:=omega) only[go_sem,↓reduceIte,dE,g18,hlx,hox,n78,n87,g17]
   rw[<-hK2]
   refine Aj (by kernel_rfl) (.take 0 (.take 1 (.take 2 (.take 3 (.take 4 (.go 5 [4] (.take 6 (.take 7 .done)))))))) (by kernel_rfl) ?_
   simp(disch:=omega) only[go_sem,↓reduceIte,g27,g24]
   refine⟨by rw[if_neg n74],?_⟩
   exact Fc.fin (hs _) (Fc.tuple (.cons (Fc.ex0 (hs _)) (Ek.keep (hs _) _))) ⟨rfl,rfl⟩
  | ok y k=>
   rw[hres] at ha hfit had hf
   obtain⟨rfl,rfl⟩:=ha
   obtain⟨hb,hok⟩:=hfit x k rfl
   have hk:=had.2
   rw[hf]
   simp(disch:=omega) only[go_sem,↓reduceIte,dE,g18,hlx,hox,n78,n87,g17]
   rw[<-hK2]
   refine Ai.monoR (Hu G _ x (by omega)) ?_
   cases hm:Ia x with
   | true=>
    simp(disch:=omega) only[go_sem,↓reduceIte,g27,g28,hlx,hox]
    refine Aj (by kernel_rfl) (.take 0 (.take 1 (.take 2 (.take 3 (.take 4 (.go 5 [4] (.take 6 (.take 7 .done)))))))) (by kernel_rfl) ?_
    simp(disch:=omega) only[go_sem,↓reduceIte,g27,g28,g24,hlx,hox]
    refine⟨by rw[if_neg n74],?_⟩
    exact Nu.sub (hs _) (.refl ⟨rfl,rfl⟩)
   | false=>
    simp(disch:=omega) only[go_sem,↓reduceIte,g24]
    exact Fc.fin (hs _) (Fc.tuple (.cons (Fc.ex0 (hs _)) (Ek.keep (hs _) _))) ⟨rfl,rfl⟩
 by_cases c3:level=3
 ·subst c3
  have hf:=hf0 3 (by omega)
  rw[show((3:Nat):Int)=3 from rfl] at hf
  simp(disch:=omega) only[go_sem,↓reduceIte]
  obtain⟨n,hn⟩: ∃n,(P l n).term 0=Ix l 3:=⟨Ci l,rfl⟩
  have hne:=Md (l:=l) 3
  refine((Sh hl n).term _ ⟨0,false⟩ g7 fun _=>⟨Nat.zero_le _,by show(P l n).term 0≠_;rw[hn];exact hne⟩).mono ?_
  rintro _ K1 ⟨x,s,rfl,hK1,ha⟩
  rw[Aft.good,hn] at ha
  have hs1:Sub H K1:=by rw[hK1];exact hs0.up h7 _
  have g14:K1 r4=some (.cells [.int .u8 0, .int .u8 0, .int .i64 0, .str [], .nilSlice, .nilSlice, .int .i64 0, .int .i64 0, .int .i64 0] 27):=by rw[hK1];exact Ag g4 n47
  have g18:K1 r8=some (.cells [.int .u8 0, .int .u8 0, .int .i64 0, .str [], .nilSlice, .nilSlice, .int .i64 0, .int .i64 0, .int .i64 0] 27):=by rw[hK1];exact Ag g8 n87
  have g17:K1 r7=some (rfO l s):=by rw[hK1];exact Aa _ _ _
  clear hK1
  have hox:=Al x
  have hlx:=Ah x
  have had:=Lf (l:=l) (3)
  have hfit:=Jd hT (3)
  have hs2:Sub H (upd K1 r8 (some (.cells (dEx x) 27))):=hs1.up h8 _
  have g24:(upd K1 r8 (some (.cells (dEx x) 27))) r4=some (.cells [.int .u8 0, .int .u8 0, .int .i64 0, .str [], .nilSlice, .nilSlice, .int .i64 0, .int .i64 0, .int .i64 0] 27):=Ag g14 n48
  have g28:(upd K1 r8 (some (.cells (dEx x) 27))) r8=some (.cells (dEx x) 27):=Aa _ _ _
  have g27:(upd K1 r8 (some (.cells (dEx x) 27))) r7=some (rfO l s):=Ag g17 n78
  obtain⟨K2,hK2⟩: ∃K2,K2=upd K1 r8 (some (.cells (dEx x) 27)):=⟨_,rfl⟩
  rw[<-hK2] at hs2 g24 g28 g27
  have hs:=fun z=>hs2.up h4 z
  cases hres:Ix l (3) with
  | bot=>rw[hres] at ha;exact ha.elim
  | fail k=>
   rw[hres] at ha hf
   dsimp only at ha
   subst ha
   rw[hf]
   simp(disch:=omega) only[go_sem,↓reduceIte,dE,g18,hlx,hox,n78,n87,g17]
   rw[<-hK2]
   refine Aj (by kernel_rfl) (.take 0 (.take 1 (.take 2 (.take 3 (.take 4 (.go 5 [4] (.take 6 (.take 7 .done)))))))) (by kernel_rfl) ?_
   simp(disch:=omega) only[go_sem,↓reduceIte,g27,g24]
   refine⟨by rw[if_neg n74],?_⟩
   exact Fc.fin (hs _) (Fc.tuple (.cons (Fc.ex0 (hs _)) (Ek.keep (hs _) _))) ⟨rfl,rfl⟩
  | ok y k=>
   rw[hres] at ha hfit had hf
   obtain⟨rfl,rfl⟩:=ha
   obtain⟨hb,hok⟩:=hfit x k rfl
   have hk:=had.2
   rw[hf]
   simp(disch:=omega) only[go_sem,↓reduceIte,dE,g18,hlx,hox,n78,n87,g17]
   rw[<-hK2]
   refine Ai.monoR (Hu G _ x (by omega)) ?_
   cases hm:Ia x with
   | true=>
    simp(disch:=omega) only[go_sem,↓reduceIte,g27,g28,hlx,hox]
    refine Aj (by kernel_rfl) (.take 0 (.take 1 (.take 2 (.take 3 (.take 4 (.go 5 [4] (.take 6 (.take 7 .done)))))))) (by kernel_rfl) ?_
    simp(disch:=omega) only[go_sem,↓reduceIte,g27,g28,g24,hlx,hox]
    refine⟨by rw[if_neg n74],?_⟩
    exact Nu.sub (hs _) (.refl ⟨rfl,rfl⟩)
   | false=>
    simp(disch:=omega) only[go_sem,↓reduceIte,g24]
    exact Fc.fin (hs _) (Fc.tuple (.cons (Fc.ex0 (hs _)) (Ek.keep (hs _) _))) ⟨rfl,rfl⟩
 by_cases c4:level=4
 ·subst c4
  have hf:=hf0 4 (by omega)
  rw[show((4:Nat):Int)=4 from rfl] at hf
  simp(disch:=omega) only[go_sem,↓reduceIte]
  obtain⟨n,hn⟩: ∃n,(P l n).factor 0=Ix l 4:=⟨Ci l,rfl⟩
  have hne:=Md (l:=l) 4
  refine((Sh hl n).factor _ ⟨0,false⟩ g7 fun _=>⟨Nat.zero_le _,by show(P l n).factor 0≠_;rw[hn];exact hne⟩).mono ?_
  rintro _ K1 ⟨x,s,rfl,hK1,ha⟩
  rw[Aft.good,hn] at ha
  have hs1:Sub H K1:=by rw[hK1];exact hs0.up h7 _
  have g14:K1 r4=some (.cells [.int .u8 0, .int .u8 0, .int .i64 0, .str [], .nilSlice, .nilSlice, .int .i64 0, .int .i64 0, .int .i64 0] 27):=by rw[hK1];exact Ag g4 n47
  have g18:K1 r8=some (.cells [.int .u8 0, .int .u8 0, .int .i64 0, .str [], .nilSlice, .nilSlice, .int .i64 0, .int .i64 0, .int .i64 0] 27):=by rw[hK1];exact Ag g8 n87
  have g17:K1 r7=some (rfO l s):=by rw[hK1];exact Aa _ _ _
  clear hK1
  have hox:=Al x
  have hlx:=Ah x
  have had:=Lf (l:=l) (4)
  have hfit:=Jd hT (4)
  have hs2:Sub H (upd K1 r8 (some (.cells (dEx x) 27))):=hs1.up h8 _
  have g24:(upd K1 r8 (some (.cells (dEx x) 27))) r4=some (.cells [.int .u8 0, .int .u8 0, .int .i64 0, .str [], .nilSlice, .nilSlice, .int .i64 0, .int .i64 0, .int .i64 0] 27):=Ag g14 n48
  have g28:(upd K1 r8 (some (.cells (dEx x) 27))) r8=some (.cells (dEx x) 27):=Aa _ _ _
  have g27:(upd K1 r8 (some (.cells (dEx x) 27))) r7=some (rfO l s):=Ag g17 n78
  obtain⟨K2,hK2⟩: ∃K2,K2=upd K1 r8 (some (.cells (dEx x) 27)):=⟨_,rfl⟩
  rw[<-hK2] at hs2 g24 g28 g27
  have hs:=fun z=>hs2.up h4 z
  cases hres:Ix l (4) with
  | bot=>rw[hres] at ha;exact ha.elim
  | fail k=>
   rw[hres] at ha hf
   dsimp only at ha
   subst ha
   rw[hf]
   simp(disch:=omega) only[go_sem,↓reduceIte,dE,g18,hlx,hox,n78,n87,g17]
   rw[<-hK2]
   refine Aj (by kernel_rfl) (.take 0 (.take 1 (.take 2 (.take 3 (.take 4 (.go 5 [4] (.take 6 (.take 7 .done)))))))) (by kernel_rfl) ?_
   simp(disch:=omega) only[go_sem,↓reduceIte,g27,g24]
   refine⟨by rw[if_neg n74],?_⟩
   exact Fc.fin (hs _) (Fc.tuple (.cons (Fc.ex0 (hs _)) (Ek.keep (hs _) _))) ⟨rfl,rfl⟩
  | ok y k=>
   rw[hres] at ha hfit had hf
   obtain⟨rfl,rfl⟩:=ha
   obtain⟨hb,hok⟩:=hfit x k rfl
   have hk:=had.2
   rw[hf]
   simp(disch:=omega) only[go_sem,↓reduceIte,dE,g18,hlx,hox,n78,n87,g17]
   rw[<-hK2]
   refine Ai.monoR (Hu G _ x (by omega)) ?_
   cases hm:Ia x with
   | true=>
    simp(disch:=omega) only[go_sem,↓reduceIte,g27,g28,hlx,hox]
    refine Aj (by kernel_rfl) (.take 0 (.take 1 (.take 2 (.take 3 (.take 4 (.go 5 [4] (.take 6 (.take 7 .done)))))))) (by kernel_rfl) ?_
    simp(disch:=omega) only[go_sem,↓reduceIte,g27,g28,g24,hlx,hox]
    refine⟨by rw[if_neg n74],?_⟩
    exact Nu.sub (hs _) (.refl ⟨rfl,rfl⟩)
   | false=>
    simp(disch:=omega) only[go_sem,↓reduceIte,g24]
    exact Fc.fin (hs _) (Fc.tuple (.cons (Fc.ex0 (hs _)) (Ek.keep (hs _) _))) ⟨rfl,rfl⟩
 by_cases c5:level=5
 ·subst c5
  have hf:=hf0 5 (by omega)
  rw[show((5:Nat):Int)=5 from rfl] at hf
  simp(disch:=omega) only[go_sem,↓reduceIte]
  obtain⟨n,hn⟩: ∃n,(P l n).primary 0=Ix l 5:=⟨Ci l,rfl⟩
  have hne:=Md (l:=l) 5
  refine((Sh hl n).primary _ ⟨0,false⟩ g7 fun _=>⟨Nat.zero_le _,by show(P l n).primary 0≠_;rw[hn];exact hne⟩).mono ?_
  rintro _ K1 ⟨x,s,rfl,hK1,ha⟩
  rw[Aft.good,hn] at ha
  have hs1:Sub H K1:=by rw[hK1];exact hs0.up h7 _
  have g14:K1 r4=some (.cells [.int .u8 0, .int .u8 0, .int .i64 0, .str [], .nilSlice, .nilSlice, .int .i64 0, .int .i64 0, .int .i64 0] 27):=by rw[hK1];exact Ag g4 n47
  have g18:K1 r8=some (.cells [.int .u8 0, .int .u8 0, .int .i64 0, .str [], .nilSlice, .nilSlice, .int .i64 0, .int .i64 0, .int .i64 0] 27):=by rw[hK1];exact Ag g8 n87
  have g17:K1 r7=some (rfO l s):=by rw[hK1];exact Aa _ _ _
  clear hK1
  have hox:=Al x
  have hlx:=Ah x
  have had:=Lf (l:=l) (5)
  have hfit:=Jd hT (5)
  have hs2:Sub H (upd K1 r8 (some (.cells (dEx x) 27))):=hs1.up h8 _
  have g24:(upd K1 r8 (some (.cells (dEx x) 27))) r4=some (.cells [.int .u8 0, .int .u8 0, .int .i64 0, .str [], .nilSlice, .nilSlice, .int .i64 0, .int .i64 0, .int .i64 0] 27):=Ag g14 n48
  have g28:(upd K1 r8 (some (.cells (dEx x) 27))) r8=some (.cells (dEx x) 27):=Aa _ _ _
  have g27:(upd K1 r8 (some (.cells (dEx x) 27))) r7=some (rfO l s):=Ag g17 n78
  obtain⟨K2,hK2⟩: ∃K2,K2=upd K1 r8 (some (.cells (dEx x) 27)):=⟨_,rfl⟩
  rw[<-hK2] at hs2 g24 g28 g27
  have hs:=fun z=>hs2.up h4 z
  cases hres:Ix l (5) with
  | bot=>rw[hres] at ha;exact ha.elim
  | fail k=>
   rw[hres] at ha hf
   dsimp only at ha
   subst ha
   rw[hf]
   simp(disch:=omega) only[go_sem,↓reduceIte,dE,g18,hlx,hox,n78,n87,g17]
   rw[<-hK2]
   refine Aj (by kernel_rfl) (.take 0 (.take 1 (.take 2 (.take 3 (.take 4 (.go 5 [4] (.take 6 (.take 7 .done)))))))) (by kernel_rfl) ?_
   simp(disch:=omega) only[go_sem,↓reduceIte,g27,g24]
   refine⟨by rw[if_neg n74],?_⟩
   exact Fc.fin (hs _) (Fc.tuple (.cons (Fc.ex0 (hs _)) (Ek.keep (hs _) _))) ⟨rfl,rfl⟩
  | ok y k=>
   rw[hres] at ha hfit had hf
   obtain⟨rfl,rfl⟩:=ha
   obtain⟨hb,hok⟩:=hfit x k rfl
   have hk:=had.2
   rw[hf]
   simp(disch:=omega) only[go_sem,↓reduceIte,dE,g18,hlx,hox,n78,n87,g17]
   rw[<-hK2]
   refine Ai.monoR (Hu G _ x (by omega)) ?_
   cases hm:Ia x with
   | true=>
    simp(disch:=omega) only[go_sem,↓reduceIte,g27,g28,hlx,hox]
    refine Aj (by kernel_rfl) (.take 0 (.take 1 (.take 2 (.take 3 (.take 4 (.go 5 [4] (.take 6 (.take 7 .done)))))))) (by kernel_rfl) ?_
    simp(disch:=omega) only[go_sem,↓reduceIte,g27,g28,g24,hlx,hox]
    refine⟨by rw[if_neg n74],?_⟩
    exact Nu.sub (hs _) (.refl ⟨rfl,rfl⟩)
   | false=>
    simp(disch:=omega) only[go_sem,↓reduceIte,g24]
    exact Fc.fin (hs _) (Fc.tuple (.cons (Fc.ex0 (hs _)) (Ek.keep (hs _) _))) ⟨rfl,rfl⟩
 by_cases c6:level=6
 ·subst c6
  have hf:=hf0 6 (by omega)
  rw[show((6:Nat):Int)=6 from rfl] at hf
  simp(disch:=omega) only[go_sem,↓reduceIte]
  obtain⟨n,hn⟩: ∃n,(P l n).name 0=Ix l 6:=⟨Ci l,rfl⟩
  have hne:=Md (l:=l) 6
  refine((Sh hl n).name _ ⟨0,false⟩ g7 fun _=>⟨Nat.zero_le _,by show(P l n).name 0≠_;rw[hn];exact hne⟩).mono ?_
  rintro _ K1 ⟨x,s,rfl,hK1,ha⟩
  rw[Aft.good,hn] at ha
  have hs1:Sub H K1:=by rw[hK1];exact hs0.up h7 _
  have g14:K1 r4=some (.cells [.int .u8 0, .int .u8 0, .int .i64 0, .str [], .nilSlice, .nilSlice, .int .i64 0, .int .i64 0, .int .i64 0] 27):=by rw[hK1];exact Ag g4 n47
  have g18:K1 r8=some (.cells [.int .u8 0, .int .u8 0, .int .i64 0, .str [], .nilSlice, .nilSlice, .int .i64 0, .int .i64 0, .int .i64 0] 27):=by rw[hK1];exact Ag g8 n87
  have g17:K1 r7=some (rfO l s):=by rw[hK1];exact Aa _ _ _
  clear hK1
  have hox:=Al x
  have hlx:=Ah x
  have had:=Lf (l:=l) (6)
  have hfit:=Jd hT (6)
  have hs2:Sub H (upd K1 r8 (some (.cells (dEx x) 27))):=hs1.up h8 _
  have g24:(upd K1 r8 (some (.cells (dEx x) 27))) r4=some (.cells [.int .u8 0, .int .u8 0, .int .i64 0, .str [], .nilSlice, .nilSlice, .int .i64 0, .int .i64 0, .int .i64 0] 27):=Ag g14 n48
  have g28:(upd K1 r8 (some (.cells (dEx x) 27))) r8=some (.cells (dEx x) 27):=Aa _ _ _
  have g27:(upd K1 r8 (some (.cells (dEx x) 27))) r7=some (rfO l s):=Ag g17 n78
  obtain⟨K2,hK2⟩: ∃K2,K2=upd K1 r8 (some (.cells (dEx x) 27)):=⟨_,rfl⟩
  rw[<-hK2] at hs2 g24 g28 g27
  have hs:=fun z=>hs2.up h4 z
  cases hres:Ix l (6) with
  | bot=>rw[hres] at ha;exact ha.elim
  | fail k=>
   rw[hres] at ha hf
   dsimp only at ha
   subst ha
   rw[hf]
   simp(disch:=omega) only[go_sem,↓reduceIte,dE,g18,hlx,hox,n78,n87,g17]
   rw[<-hK2]
   refine Aj (by kernel_rfl) (.take 0 (.take 1 (.take 2 (.take 3 (.take 4 (.go 5 [4] (.take 6 (.take 7 .done)))))))) (by kernel_rfl) ?_
   simp(disch:=omega) only[go_sem,↓reduceIte,g27,g24]
   refine⟨by rw[if_neg n74],?_⟩
   exact Fc.fin (hs _) (Fc.tuple (.cons (Fc.ex0 (hs _)) (Ek.keep (hs _) _))) ⟨rfl,rfl⟩
  | ok y k=>
   rw[hres] at ha hfit had hf
   obtain⟨rfl,rfl⟩:=ha
   obtain⟨hb,hok⟩:=hfit x k rfl
   have hk:=had.2
   rw[hf]
   simp(disch:=omega) only[go_sem,↓reduceIte,dE,g18,hlx,hox,n78,n87,g17]
   rw[<-hK2]
   refine Ai.monoR (Hu G _ x (by omega)) ?_
   cases hm:Ia x with
   | true=>
    simp(disch:=omega) only[go_sem,↓reduceIte,g27,g28,hlx,hox]
    refine Aj (by kernel_rfl) (.take 0 (.take 1 (.take 2 (.take 3 (.take 4 (.go 5 [4] (.take 6 (.take 7 .done)))))))) (by kernel_rfl) ?_
    simp(disch:=omega) only[go_sem,↓reduceIte,g27,g28,g24,hlx,hox]
    refine⟨by rw[if_neg n74],?_⟩
    exact Nu.sub (hs _) (.refl ⟨rfl,rfl⟩)
   | false=>
    simp(disch:=omega) only[go_sem,↓reduceIte,g24]
    exact Fc.fin (hs _) (Fc.tuple (.cons (Fc.ex0 (hs _)) (Ek.keep (hs _) _))) ⟨rfl,rfl⟩
 have hf:Ee l level=(ex0,0,2):=by rw[Ee,if_pos (by omega)]
 rw[hf]
 simp(disch:=omega) only[go_sem,↓reduceIte,c0,c1,c2,c3,c4,c5,c6,g4]
 have hs:=fun z=>hs0.up h4 z
 exact Fc.fin (hs _) (Fc.tuple (.cons (Fc.ex0 (hs _)) (Ek.keep (hs _) _))) ⟨rfl,rfl⟩
set_option maxHeartbeats 4000000 in
theorem Al7 (H:Ac) (hl:l.length<=800000) (hT:Gq l):Ai Tryz.prog G 19 [Cc l] H (Au (Vi (Po l)) H):=by
 refine Ad Tryz.func19 Tryz.call19 rfl (by kernel_rfl) ?_;simp(disch:=omega) only[go_sem,↓reduceIte];intro r5 hr5;dsimp only at hr5;simp(disch:=omega) only[go_sem,↓reduceIte];obtain⟨n,hn⟩: ∃n,((P l n).arg 0).then (fun a k=>(P l n).argsL [a] k)=Rc l:=⟨Ci l,rfl⟩
 have hne:Rc l≠ .bot:=Vh;have hc:Can l (fun k=>((P l n).arg k).then fun a k=>(P l n).argsL [a] k) ⟨0,false⟩:=fun _=>⟨Nat.zero_le _,by show((P l n).arg 0).then (fun a k=>(P l n).argsL [a] k)≠_;rw[hn];exact hne⟩;refine((Sh hl n).args _ ⟨0,false⟩ (Aa _ _ _) hc).mono ?_;rintro _ K1 ⟨x,s,rfl,hK1,ha⟩;rw[Aft.good,hn] at ha;have hs1:Sub H K1:=by rw[hK1];exact((Sub.refl H).new hr5 _).up hr5 _
 have g5:K1 r5=some (rfO l s):=by rw[hK1];exact Aa _ _ _
 clear hK1;have had:=Xe (l:=l);have hfit:=Tf hT;unfold Po;cases hres:Rc l with
 | bot=>rw[hres] at ha;exact ha.elim
 | fail k=>
  rw[hres] at ha;dsimp only at ha;subst ha;simp(disch:=omega) only[go_sem,↓reduceIte,g5];refine Aj (by kernel_rfl) (.take 0 (.take 1 (.take 2 (.take 3 (.take 4 (.take 5 (.take 6 .done))))))) (by kernel_rfl) ?_;simp(disch:=omega) only[go_sem,↓reduceIte,g5];exact Fc.fin hs1 (Fc.tuple (.cons (Fc.nil hs1) (Ek.keep hs1 _))) ⟨rfl,rfl⟩
 | ok y k=>
  rw[hres] at ha hfit had;obtain⟨rfl,rfl⟩:=ha;obtain⟨hb,hok⟩:=hfit x k rfl;have hk:=had.2;simp(disch:=omega) only[go_sem,↓reduceIte,g5];refine Ai.monoR (Al2 G _ x (by omega)) ?_;cases hm:Bd0 x with
  | true=>
   simp(disch:=omega) only[go_sem,↓reduceIte,g5];refine Aj (by kernel_rfl) (.take 0 (.take 1 (.take 2 (.take 3 (.take 4 (.take 5 (.take 6 (.take 7 .done)))))))) (by kernel_rfl) ?_;simp(disch:=omega) only[go_sem,↓reduceIte,g5];exact Nu.sub hs1 (.refl ⟨rfl,rfl⟩)
  | false=>
   simp(disch:=omega) only[go_sem,↓reduceIte];exact Fc.fin hs1 (Fc.tuple (.cons (Fc.nil hs1) (Ek.keep hs1 _))) ⟨rfl,rfl⟩
set_option maxHeartbeats 4000000 in
theorem Al8 (H:Ac) (hl:l.length<=800000) (hT:Gq l):Ai Tryz.prog G 21 [Cc l] H (Au (Vj (Pp l)) H):=by
 refine Ad Tryz.func21 Tryz.call21 rfl (by kernel_rfl) ?_;simp(disch:=omega) only[go_sem,↓reduceIte];intro r5 hr5;dsimp only at hr5;simp(disch:=omega) only[go_sem,↓reduceIte];obtain⟨n,hn⟩: ∃n,((P l n).choice 0).then (fun a k=>(P l n).choicesL [a] k)=Ai6 l:=⟨Ci l,rfl⟩
 have hne:Ai6 l≠ .bot:=Zv;have hc:Can l (fun k=>((P l n).choice k).then fun a k=>(P l n).choicesL [a] k) ⟨0,false⟩:=fun _=>⟨Nat.zero_le _,by show((P l n).choice 0).then (fun a k=>(P l n).choicesL [a] k)≠_;rw[hn];exact hne⟩;refine((Sh hl n).choices _ ⟨0,false⟩ (Aa _ _ _) hc).mono ?_;rintro _ K1 ⟨x,s,rfl,hK1,ha⟩;rw[Aft.good,hn] at ha;have hs1:Sub H K1:=by rw[hK1];exact((Sub.refl H).new hr5 _).up hr5 _
 have g5:K1 r5=some (rfO l s):=by rw[hK1];exact Aa _ _ _
 clear hK1;have had:=Ai7 (l:=l);have hfit:=Xf hT;unfold Pp;cases hres:Ai6 l with
 | bot=>rw[hres] at ha;exact ha.elim
 | fail k=>
  rw[hres] at ha;dsimp only at ha;subst ha;simp(disch:=omega) only[go_sem,↓reduceIte,g5];refine Aj (by kernel_rfl) (.take 0 (.take 1 (.take 2 (.take 3 (.take 4 (.take 5 (.take 6 .done))))))) (by kernel_rfl) ?_;simp(disch:=omega) only[go_sem,↓reduceIte,g5];exact Fc.fin hs1 (Fc.tuple (.cons (Fc.nil hs1) (Ek.keep hs1 _))) ⟨rfl,rfl⟩
 | ok y k=>
  rw[hres] at ha hfit had;obtain⟨rfl,rfl⟩:=ha;obtain⟨hb,hok⟩:=hfit x k rfl;have hk:=had.2;simp(disch:=omega) only[go_sem,↓reduceIte,g5];refine Ai.monoR (Ww G _ x (by omega)) ?_;cases hm:Qy x with
  | true=>
   simp(disch:=omega) only[go_sem,↓reduceIte,g5];refine Aj (by kernel_rfl) (.take 0 (.take 1 (.take 2 (.take 3 (.take 4 (.take 5 (.take 6 (.take 7 .done)))))))) (by kernel_rfl) ?_;simp(disch:=omega) only[go_sem,↓reduceIte,g5];exact Nu.sub hs1 (.refl ⟨rfl,rfl⟩)
  | false=>
   simp(disch:=omega) only[go_sem,↓reduceIte];exact Fc.fin hs1 (Fc.tuple (.cons (Fc.nil hs1) (Ek.keep hs1 _))) ⟨rfl,rfl⟩
end
end Go.Dl

-- Chapter 3: ExprFronts (its walk: under way).
namespace Go.Dl
open Go Go.Proofs
set_option maxRecDepth 100000
section
variable {G:Nat->DVal}
theorem Zx:Cv ex0<=1:=by decide+kernel
theorem Bs1 {l:List Tok} (hT:Gq l) (level:Int) (hl:l.length<=600):Cv (Ee l level).1<=1000000:=by
 unfold Ee;split
 ·have:=Zx;show Cv ex0<=_;omega
 ·have had:=Lf (l:=l) level.toNat;have hfit:=Jd hT level.toNat;cases hres:Ix l level.toNat with
  | bot=>have:=Zx;dsimp only;omega
  | fail k=>have:=Zx;dsimp only;omega
  | ok x k=>
   rw[hres] at had hfit;obtain⟨hb,_⟩:=hfit x k rfl;have hk:=had.2;dsimp only;split
   ·dsimp only;omega
   ·have:=Zx;dsimp only;omega
theorem Bi0 {l:List Tok} (hT:Gq l) (hl:l.length<=600):Cw (Po l).1<=1000000:=by
 unfold Po;have had:=Xe (l:=l);have hfit:=Tf hT;have h0:Cw []<=1:=by decide+kernel
 cases hres:Rc l with
 | bot=>dsimp only;omega
 | fail k=>dsimp only;omega
 | ok x k=>
  rw[hres] at had hfit;obtain⟨hb,_⟩:=hfit x k rfl;have hk:=had.2;dsimp only;split
  ·dsimp only;omega
  ·dsimp only;omega
theorem Bi1 {l:List Tok} (hT:Gq l) (hl:l.length<=600):Fd (Pp l).1<=1000000:=by
 unfold Pp;have had:=Ai7 (l:=l);have hfit:=Xf hT;have h0:Fd []<=1:=by decide+kernel
 cases hres:Ai6 l with
 | bot=>dsimp only;omega
 | fail k=>dsimp only;omega
 | ok x k=>
  rw[hres] at had hfit;obtain⟨hb,_⟩:=hfit x k rfl;have hk:=had.2;dsimp only;split
  ·dsimp only;omega
  ·dsimp only;omega
end
end Go.Dl

-- Chapter 3: slices.Equal at ints.
namespace Go.Dl
open Go Go.Proofs
set_option maxRecDepth 100000
theorem Al9 {α:Type} {a b:List α} {i:Nat} (ha:i<a.length) (hb:i<b.length) (h:a.take i=b.take i) (e:a[i]=b[i]):a.take (i+1)=b.take (i+1):=by
 rw[List.take_add_one,List.take_add_one,List.getElem?_eq_getElem ha,List.getElem?_eq_getElem hb,h,e]
theorem Bi2 (G:Nat->DVal) (a b:List Int) (H:Ac) (ha:a.length<=1099511627776) (hb:b.length<=1099511627776):Ai Tryz.prog G 23 [.vslice (a.map dI) a.length, .vslice (b.map dI) b.length] H (Au (.bool (decide (a=b))) H):=by
 refine Ad Tryz.func23 Tryz.call23 rfl (by kernel_rfl) ?_;by_cases hl:a.length=b.length
 ·simp(disch:=omega) only[go_sem,↓reduceIte,hl];obtain⟨I,hI⟩: ∃I:Nat->(Nat->DVal)->Ac->Prop,∀i env heap,I i env heap↔(H=heap/\env 0= .vslice (a.map dI) a.length/\env 1= .vslice (b.map dI) b.length/\env 12=dI b.length/\env 13=dI i/\i<=a.length/\a.take i=b.take i):=⟨_,fun _ _ _=>Iff.rfl⟩;refine Bt4.run I (fun i=>a.length-i) 0 ((hI _ _ _).2 ?_) ?_
  ·simp(disch:=omega) only[go_sem,↓reduceIte];simp [hl]
  ·intro i env heap hi;obtain⟨rfl,h0,h1,h12,h13,hi,ht⟩:=(hI _ _ _).1 hi;by_cases hlt:i<a.length
   ·have hlt':i<b.length:=by omega
    by_cases hx:a[i]=b[i]
    ·simp(disch:=omega) only[go_sem,↓reduceIte,h0,h1,h12,h13,hx];refine Aj (by kernel_rfl) (.take 0 (.take 1 (.take 2 (.take 3 (.take 4 (.take 5 (.take 6 (.take 7 (.take 8 .done))))))))) (by kernel_rfl) ?_;simp(disch:=omega) only[go_sem,↓reduceIte,h0,h1,h12,h13,hx];refine⟨i+1,_,Ni.refl _,(hI _ _ _).2 ?_,by omega⟩;simp(disch:=omega) only[go_sem,↓reduceIte,h0,h1,h12,h13];(repeat' apply And.intro)<;>(try first | rfl | assumption | omega);exact Al9 hlt hlt' ht hx
    ·simp(disch:=omega) only[go_sem,↓reduceIte,h0,h1,h12,h13,hx];refine Aj (by kernel_rfl) (.take 0 (.take 1 (.take 2 (.take 3 (.take 4 (.take 5 (.take 6 (.take 7 (.take 8 .done))))))))) (by kernel_rfl) ?_;simp(disch:=omega) only[go_sem,↓reduceIte,h0,h1,h12,h13,hx];refine Nu.refl ⟨?_,rfl⟩;rw[decide_eq_false (fun e=>hx (by subst e;rfl))]
   ·simp(disch:=omega) only[go_sem,↓reduceIte,h0,h1,h12,h13];refine Nu.refl ⟨?_,rfl⟩;have:a=b:=by
     rw[List.take_of_length_le (by omega),List.take_of_length_le (by omega)] at ht;exact ht
    rw[decide_eq_true this]
 ·simp(disch:=omega) only[go_sem,↓reduceIte,hl];refine Nu.refl ⟨?_,rfl⟩;rw[decide_eq_false (fun e=>hl (by rw[e]))]
end Go.Dl
