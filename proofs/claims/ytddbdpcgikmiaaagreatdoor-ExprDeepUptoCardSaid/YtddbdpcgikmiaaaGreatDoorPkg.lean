/- The data level and the contracts of the functions that are reached (part 7). -/
import Derived.Test.YtddbdpcgikmiaaaGreatDoorPkf
set_option linter.unusedSimpArgs false
set_option linter.unusedVariables false
set_option linter.unusedSectionVars false
-- Chapter 3: the package's reader: names.
namespace Go.Dl
open Go Go.Proofs
set_option maxRecDepth 100000
section
variable {G:Nat->DVal} {H0 H H' K T B:Ab} {r k:Nat} {l:List Tok}
theorem Qp (hd: ∀b,K b=none->T b=none) (w:World):Lasts K w T w:=⟨fun b i x hb hc=>⟨hd b hb,hc⟩,Nat.le_refl _,fun _ _=>rfl⟩
theorem Fc.keepD (hd: ∀b,K b=none->T b=none) (v:DVal):Fc K v T v:=fun w _ x hx=>Rel.lasts (Qp hd w) _ _ hx
theorem Df.keepD (hd: ∀b,K b=none->T b=none) (vs:List DVal):Df K vs T vs:=fun w _ x hx=>An.lasts (Qp hd w) _ _ hx
theorem Fc.cellsD {e:TypeId} {size q n:Nat} {cs cs':List DVal} (hr:T q=none) (hc:K q=some (.cells cs e)) (hl:cs.length=n*size) (hs:Df K cs T cs'):Fc K (.oslice size q 0 n n) T (.vslice cs' n):=fun w hw x hx=>by
 simp only[Rel] at hx⊢
 obtain⟨o,cap,rfl,h1,h2,h3,h4⟩:=hx;refine⟨_,cap,rfl,h2, ?_⟩;by_cases h0:cs= []
 ·subst h0;have:=hs w hw [] (by simp [An]);cases cs' with
  | nil=>exact .inl rfl
  | cons c cs'=>simp [An] at this
 ·obtain⟨zs,hl1,hh⟩:=hw.holds hc;have ho:o=0:=by
   rcases h3 with h3 | h3
   ·exfalso;have:n=0:=by omega
    subst this;rw[Nat.zero_mul] at hl;exact h0 (List.length_eq_zero_iff.1 hl)
   ·exact h3
  subst ho;exact .inr ⟨q,0,zs,rfl, .inr ⟨hr,fun i y hy=>by simpa using hh i y hy⟩,hs w hw zs hl1⟩
theorem Fc.ownD {e:TypeId} {size n:Nat} {cs:List DVal} {v:DVal} (hd: ∀b,K b=none->T b=none) (hT: ∀b,B b=none->T b=none) (hv:Er B e size n cs v K):Fc K v T (.vslice cs n):=by
 rcases hv with⟨rfl,rfl,rfl,_⟩ | ⟨q,h1,h2,rfl,h4,_⟩
 ·exact fun w _ x hx=>Rel.lasts (Qp hd w) _ _ (DLe.nil w K x hx)
 ·exact Fc.cellsD (hT q h1) h4 h2 (Df.keepD hd _)
theorem Df.exD {k o n:Int} {s:List UInt8} {vl va:DVal} {m:List Ex} {a:List As} {li en t:Int} (hd: ∀b,K b=none->T b=none) (hl:Fc K vl T (dXs m)) (ha:Fc K va T (dAl a)):
  Df K [.int .u8 k, .int .u8 o, .int .i64 n, .str s,vl,va, .int .i64 li, .int .i64 en, .int .i64 t] T (dEx (.mk k o n s m a li en t)):=by
 rw[Al];exact .cons (.keepD hd _) (.cons (.keepD hd _) (.cons (.keepD hd _) (.cons (.keepD hd _) (.cons hl (.cons ha (.keepD hd _))))))
theorem Fc.as0D (hd: ∀b,K b=none->T b=none):Fc K .nilSlice T (dAl []):=fun w _ x hx=>Rel.lasts (Qp hd w) _ _ (DLe.nil w K x hx)
theorem Fc.exs0D (hd: ∀b,K b=none->T b=none):Fc K .nilSlice T (dXs []):=fun w _ x hx=>Rel.lasts (Qp hd w) _ _ (DLe.nil w K x hx)
theorem Cu1 {Hb:Ab} {r4 k':Nat} {o z:DObj} {l:List Tok} {r:Nat} (hat:RAt r l k' Hb K) (h4:K r4=some o): ∀b,K b=none->(upd (upd Hb r (some (rdO l k'))) r4 (some z)) b=none:=fun b hb=>by
 simp only[upd];split
 ·rename_i e1;rw[e1,h4] at hb;cases hb
 ·have:=Sub.lo hat hb;simpa only[upd] using this
theorem Lq.cell {env:Nat->DVal} {r4:Nat} {cs cs':List DVal} {e:TypeId} (h4:K r4=some (.cells cs e)) (hB:Sub B K) (hs:Df K cs (upd B r4 (some (.cells cs' e))) cs'):Lq G ⟨env,K⟩ ⟨env,upd B r4 (some (.cells cs' e))⟩:=fun w hH hG=>by
 have hd: ∀b,K b=none->(upd B r4 (some (.cells cs' e))) b=none:=fun b hb=>by
  simp only[upd];split
  ·rename_i e1;rw[e1,h4] at hb;cases hb
  ·exact hB.lo hb
 refine⟨fun b o hb=> ?_,fun b hb h=>hb (hd b h),hG.lasts (Qp hd w),fun i x hx=>Rel.lasts (Qp hd w) _ _ hx⟩;simp only[upd] at hb;split at hb
 ·rename_i e1
  subst e1;cases hb;obtain⟨xs,c,fz,g1,g2,g3,g5⟩:=hH _ _ h4;exact⟨xs,c,fz,g1,g2,hs w hH xs g3,g5⟩
 ·exact(hH b o (hB b o hb)).lasts (Qp hd w)
theorem RAt.up {r k k2:Nat} {l:List Tok} {H Hb K:Ab} (h:RAt r l k Hb K) (hab:RAt r l k2 H Hb):RAt r l k H K:=fun b o hb=>by
 simp only[upd] at hb;by_cases c:b=r
 ·rw[if_pos c] at hb;exact h b o (by simp only[upd];rw[if_pos c];exact hb)
 ·rw[if_neg c] at hb;exact h b o (by simp only[upd];rw[if_neg c];exact hab b o (by simp only[upd];rw[if_neg c];exact hb))
theorem Oq {Hb:Ab} {r4 q k':Nat} {x:Ex} {e:TypeId} {o:DObj} {z:DObj} {l:List Tok} {r:Nat} {va:DVal} {a:List As} {kd li:Int} {s:List UInt8} (hat:RAt r l k' Hb K) (h4:K r4=some o) (hq:Hb q=none) (hqr:q≠r) (hq4:q≠r4) (hK:K q=some (.cells (dEx x) e)) (ha: ∀T,(∀b,K b=none->T b=none)->Fc K va T (dAl a)):
  Df K [.int .u8 kd, .int .u8 0, .int .i64 0, .str s, .oslice 9 q 0 1 1,va, .int .i64 li, .int .i64 0, .int .i64 0] (upd (upd Hb r (some (rdO l k'))) r4 (some z)) (dEx (.mk kd 0 0 s [x] a li 0 0)):=by
 have hd: ∀b,K b=none->(upd (upd Hb r (some (rdO l k'))) r4 (some z)) b=none:=fun b hb=>by
  simp only[upd];split
  ·rename_i e1;rw[e1,h4] at hb;cases hb
  ·have:=Sub.lo hat hb;simpa only[upd] using this
 refine Df.exD hd ?_ (ha _ hd);show Fc K _ _ (.vslice ([x].flatMap dEx) 1);rw[List.flatMap_singleton];exact Fc.cellsD (by simp only[upd];rw[if_neg hq4,if_neg hqr];exact hq) hK (by rw[Ai]) (Df.keepD hd _)
theorem Bp5 {Hb B:Ab} {r4 k':Nat} {x y:Ex} {e:TypeId} {o:DObj} {z:DObj} {l:List Tok} {r:Nat} {v:DVal} {kd li:Int} {s:List UInt8} (hat:RAt r l k' Hb K) (h4:K r4=some o) (hB:RAt r l k' Hb B) (hB4:B r4≠none) (hv:Er B e 9 2 ([x,y].flatMap dEx) v K):
  Df K [.int .u8 kd, .int .u8 0, .int .i64 0, .str s,v, .nilSlice, .int .i64 li, .int .i64 0, .int .i64 0] (upd (upd Hb r (some (rdO l k'))) r4 (some z)) (dEx (.mk kd 0 0 s [x,y] [] li 0 0)):=by
 have key: ∀K':Ab,RAt r l k' Hb K'->K' r4≠none-> ∀b,K' b=none->(upd (upd Hb r (some (rdO l k'))) r4 (some z)) b=none:=fun K' ht h4 b hb=>by
  simp only[upd];split
  ·rename_i e1;rw[e1] at hb;exact absurd hb h4
  ·have:=Sub.lo ht hb;simpa only[upd] using this
 have hd:=key K hat (by rw[h4];simp);exact Df.exD hd (Fc.ownD hd (key B hB hB4) hv) (.as0D hd)
end
section
variable {G:Nat->DVal} {H0 H H':Ab} {r k:Nat} {l:List Tok}
set_option maxHeartbeats 4000000 in
theorem Ch0 (hG:GX G) (hl:l.length<=800000) (n:Nat) (hga: ∀m≤n,RdC Tryz.prog G l 251 r fun k=>((P l m).arg k).mp dA) (hgp: ∀m≤n,RdC Tryz.prog G l 173 r fun k=>((P l m).paren k).mp dE):RdC Tryz.prog G l 65 r fun k=>((P l (n+1)).name k).mp dE:=by
 intro H k hr hk hn;obtain⟨t,ht⟩: ∃t,t=tk l k:=⟨_,rfl⟩;have e:(P l (n+1)).name k=Fs l k fun s k1=>(P l n).nameL (tk l k).line (.mk 3 0 0 s [] [] (tk l k).line 0 0) k1:=rfl;dsimp only at hn⊢
 rw[e,Fs,<-ht] at hn⊢
 refine Ac Tryz.func65 Tryz.call65 rfl (by kernel_rfl) ?_;simp(disch:=omega)only[go_sem];intro r2 hr2;dsimp only at hr2;obtain⟨Ha,hHa⟩: ∃K,K=upd H r2 (some (.cells [.int .u8 0, .int .u8 0, .int .i64 0, .str [], .nilSlice, .nilSlice, .int .i64 0, .int .i64 0, .int .i64 0] 27)):=⟨_,rfl⟩;rw[<-hHa];have gr2:Ha r2=some (.cells [.int .u8 0, .int .u8 0, .int .i64 0, .str [], .nilSlice, .nilSlice, .int .i64 0, .int .i64 0, .int .i64 0] 27):=by rw[hHa];exact Aa _ _ _
 have n2:r≠r2:=Ad hr2 hr;have q2:=n2.symm;have ha:RAt r l k H Ha:=by rw[hHa];exact(RAt.refl hr).new hr2 _
 simp(disch:=omega)only[go_sem];refine(Ws G Ha 1 ha.get (by omega) (by omega)).mono ?_;intro e1 H1 hq;rw[<-ht] at hq;by_cases c:t.kind=1
 ·rw[if_pos c] at hn hq⊢
  obtain⟨rfl,hH1⟩:=hq;have hk1:k+1<=l.length:=Ks (by rw[<-ht,c];decide);have ha1:RAt r l (k+1) H H1:=by rw[hH1];exact ha.set _
  have g12:H1 r2=some (.cells [.int .u8 0, .int .u8 0, .int .i64 0, .str [], .nilSlice, .nilSlice, .int .i64 0, .int .i64 0, .int .i64 0] 27):=by rw[hH1];exact Af gr2 q2
  simp(disch:=omega)only[go_sem,Dw];intro r3 hr3;dsimp only at hr3;have n23:r2≠r3:=Ad hr3 g12;have n3:r≠r3:=Ad hr3 ha1.get;have q3:=n3.symm;have h30:H r3=none:=ha1.lo hr3;simp(disch:=omega)only[go_sem];obtain⟨Hb,hHb⟩: ∃K,K=upd H1 r3 (some (.cells [.int .u8 t.kind,dI t.line, .str t.text,dI t.n] 31)):=⟨_,rfl⟩;rw[<-hHb];have gb3:Hb r3=some (.cells [.int .u8 t.kind,dI t.line, .str t.text,dI t.n] 31):=by rw[hHb];exact Aa _ _ _
  have gb2:Hb r2=some (.cells [.int .u8 0, .int .u8 0, .int .i64 0, .str [], .nilSlice, .nilSlice, .int .i64 0, .int .i64 0, .int .i64 0] 27):=by rw[hHb];exact Af g12 n23
  have hab:RAt r l (k+1) H Hb:=by rw[hHb];exact ha1.new hr3 _
  intro r4 hr4;dsimp only at hr4;have n24:r2≠r4:=Ad hr4 gb2;have n34:r3≠r4:=Ad hr4 gb3;have n4:r≠r4:=Ad hr4 hab.get;have q4:=n4.symm;simp(disch:=omega)only[go_sem,Al,List.flatMap_nil,jB];obtain⟨x0,hx0⟩: ∃x0,x0=Ex.mk 3 0 0 t.text [] [] t.line 0 0:=⟨_,rfl⟩;have hdx0:dEx x0= [.int .u8 3, .int .u8 0, .int .i64 0, .str t.text, .vslice [] 0, .vslice [] 0, .int .i64 t.line, .int .i64 0, .int .i64 0]:=by rw[hx0,Al];rfl
  rw[<-hx0] at hn⊢
  obtain⟨n',rfl⟩: ∃n',n=n'+1:=by
   cases n with
   | zero=>exact absurd rfl hn
   | succ n'=>exact⟨n',rfl⟩
  obtain⟨res,hres⟩: ∃res,res=(P l (n'+1)).nameL t.line x0 (k+1):=⟨_,rfl⟩;rw[<-hres] at hn⊢
  have hT: ∀x k' b o,b≠r4->upd Hb r (some (rdO l k')) b=some o->upd (upd Hb r (some (rdO l k'))) r4 (some (.cells (dEx x) 27)) b=some o:=fun x k' b o hb h=>by rw[Aj _ _ _ _ hb];exact h
  obtain⟨I,hI⟩: ∃I:Nat×Ex×Nat->(Nat->DVal)->Ab->Prop,∀s env heap,I s env heap↔(env 0= .optr r 0/\env 2= .optr r2 0/\env 3= .optr r3 0/\env 4= .optr r4 0/\s.2.2<=l.length/\s.1<=n'/\res=(P l (s.1+1)).nameL t.line s.2.1 s.2.2/\heap=upd (upd Hb r (some (rdO l s.2.2))) r4 (some (.cells (dEx s.2.1) 27))):=⟨_,fun _ _ _=>Iff.rfl⟩;have hat0:RAt r l (k+1) Hb (upd Hb r4 (some (.cells [.int .u8 3, .int .u8 0, .int .i64 0, .str t.text, .nilSlice, .nilSlice, .int .i64 t.line, .int .i64 0, .int .i64 0] 27))):=(RAt.refl hab.get).own hr4 q4 _;refine Bt4.runG I (fun s=>s.1) (n',x0,k+1) ⟨_,upd (upd Hb r (some (rdO l (k+1)))) r4 (some (.cells (dEx x0) 27))⟩ (Lq.cell (Aa _ _ _) hat0 ?_) ((hI _ _ _).2 ?_) ?_
  ·rw[hx0];exact Df.exD (Cu1 hat0 (Aa _ _ _)) (.exs0D (Cu1 hat0 (Aa _ _ _))) (.as0D (Cu1 hat0 (Aa _ _ _)))
  ·simp(disch:=omega)only[go_sem]
  ·rintro⟨m,x,k1⟩ env heap hi';obtain⟨e0,e2,e3,e4,hk1',hm,hr',hh⟩:=(hI _ _ _).1 hi';dsimp only at hk1' hm hr' hh;have eP:(P l (m+1)).nameL t.line x k1=if isW l k1 [Ik,Ql] then(P l m).nameL t.line (.mk 5 0 0 [] [x] [] t.line 0 0) (k1+2) else if isW l k1 [Ik] then Fs l (k1+1) fun s k=>(P l m).nameL t.line (.mk 4 0 0 s [x] [] t.line 0 0) k
     else if isW l k1 [Br] then((P l m).arg (k1+1)).then fun a k=>((P l m).argsL [a] k).then fun xs k=>Cx l Cb k fun k=>(P l m).nameL t.line (.mk 7 0 0 [] [x] xs t.line 0 0) k
     else if isW l k1 [Fm,Br] then((P l m).paren (k1+1)).then fun y k=>(P l m).nameL t.line (.mk 8 0 0 [] [x,y] [] t.line 0 0) k
     else if isW l k1 [Fm] then Fs l (k1+1) fun s k=>(P l m).nameL t.line (.mk 6 0 0 s [x] [] t.line 0 0) k else .ok x k1:=rfl
   rw[eP] at hr';have hat:RAt r l k1 Hb heap:=by rw[hh];exact((RAt.refl hab.get).set k1).own hr4 q4 _
   have h4:heap r4=some (.cells (dEx x) 27):=by rw[hh];exact Aa _ _ _
   have h3:heap r3=some (.cells [.int .u8 t.kind,dI t.line, .str t.text,dI t.n] 31):=hat _ _ (by rw[Aj _ _ _ _ q3];exact gb3);have hlx:=Ai x;simp(disch:=omega)only[go_sem,e0,e2,e3,e4,h4,h3];rw[Ae6 hlx];simp(disch:=omega)only[go_sem,e0,e2,e3,e4,h4,h3];intro q hq0;dsimp only at hq0;have p3:r3≠q:=Ad hq0 h3;have p4:r4≠q:=Ad hq0 h4;have pr:r≠q:=Ad hq0 hat.get;have hbq:Hb q=none:=hat.lo hq0;simp(disch:=omega)only[go_sem,e0,e2,e3,e4,h4,h3,p3,p4];intro r5 hr5;dsimp only at hr5;obtain⟨m5,m5',hr5'⟩:=Dk7.1 hr5;have p54:r4≠r5:=Ad hr5' h4;have p5r:r≠r5:=Ad hr5' hat.get;have hb5:Hb r5=none:=hat.lo hr5';simp(disch:=omega)only[go_sem,e0,e2,e3,e4,h4,h3,p3,p4];have m5q:q≠r5:=by first | exact m5 | exact m5'
   obtain⟨K1,hK1⟩: ∃K,K=upd (upd heap q (some (.cells (dEx x) 27))) r5 (some (.cells [.int .u8 0, .int .u8 0, .int .i64 0, .str [], .oslice 9 q 0 1 1, .nilSlice, .int .i64 t.line, .int .i64 0, .int .i64 0] 27)):=⟨_,rfl⟩;rw[<-hK1];have ha1:RAt r l k1 Hb K1:=by rw[hK1];exact(hat.new hq0 _).new hr5 _
   have g15:K1 r5=some (.cells [.int .u8 0, .int .u8 0, .int .i64 0, .str [], .oslice 9 q 0 1 1, .nilSlice, .int .i64 t.line, .int .i64 0, .int .i64 0] 27):=by rw[hK1];exact Aa _ _ _
   have g1q:K1 q=some (.cells (dEx x) 27):=by rw[hK1];exact Af (Aa _ _ _) m5q
   have g14:K1 r4=some (.cells (dEx x) 27):=by rw[hK1];exact Af (Af h4 p4) p54
   have g12':K1 r2=some (.cells [.int .u8 0, .int .u8 0, .int .i64 0, .str [], .nilSlice, .nilSlice, .int .i64 0, .int .i64 0, .int .i64 0] 27):=ha1 _ _ (by rw[Aj _ _ _ _ q2];exact gb2);intro w1 hw1;dsimp only at hw1;simp(disch:=omega)only[go_sem];refine(Dw7 hG K1 w1 Ik Ql hw1 ha1.get (by omega) (by omega)).mono ?_;rintro _ H2 ⟨rfl,hH2⟩;by_cases b1:isW l k1 [Ik,Ql]=true
   ·rw[if_pos b1] at hH2 hr';have hk2:=Ap b1 hk1';rw[show [Ik,Ql].length=2 from rfl] at hk2;have haK:RAt r l (k1+2) Hb H2:=by rw[hH2];exact ha1.set _
    have hH25:H2 r5=some (.cells [.int .u8 0, .int .u8 0, .int .i64 0, .str [], .oslice 9 q 0 1 1, .nilSlice, .int .i64 t.line, .int .i64 0, .int .i64 0] 27):=by rw[hH2];exact Af g15 p5r.symm
    have hH24:H2 r4=some (.cells (dEx x) 27):=by rw[hH2];exact Af g14 q4
    have hH2q:H2 q=some (.cells (dEx x) 27):=by rw[hH2];exact Af g1q pr.symm
    have hH22:H2 r2=some (.cells [.int .u8 0, .int .u8 0, .int .i64 0, .str [], .nilSlice, .nilSlice, .int .i64 0, .int .i64 0, .int .i64 0] 27):=by rw[hH2];exact Af g12' q2
    obtain⟨m',rfl⟩: ∃m',m=m'+1:=by
     cases m with
     | zero=>rw[hr'] at hn;exact absurd rfl hn
     | succ m'=>exact⟨m',rfl⟩
    simp(disch:=omega)only[go_sem,b1,e0,e2,e3,e4,hH25,hH24,p54];have hatf:=fun z z'=>(haK.own hb5 p5r.symm z).own hr4 q4 z';have hqf:=fun z z'=>Af (y:=z') (Af (y:=z) hH2q m5q) p4.symm;refine⟨(m', .mk 5 0 0 [] [x] [] t.line 0 0,k1+2),_,Lq.cell (Aa _ _ _) (hatf _ _) (Oq (a:= []) (hatf _ _) (Aa _ _ _) hbq pr.symm p4.symm (hqf _ _) (fun T hd=> .as0D hd)),(hI _ _ _).2 ?_,by dsimp only;omega⟩;simp(disch:=omega)only[go_sem,e0,e2,e3,e4]
   ·have b1':isW l k1 [Ik,Ql]=false:=by simpa using b1
    rw[if_neg b1,Co ha1.get] at hH2;rw[if_neg b1] at hr';rw[hH2];simp(disch:=omega)only[go_sem,b1',e0,e2,e3,e4];intro w2 hw2;dsimp only at hw2;simp(disch:=omega)only[go_sem];refine(Sw hG K1 w2 Ik hw2 ha1.get (by omega) (by omega)).mono ?_;rintro _ H3 ⟨rfl,hH3⟩;by_cases b2:isW l k1 [Ik]=true
    ·rw[if_pos b2] at hH3 hr';have hk2:=Ap b2 hk1';rw[jQ] at hk2;have haK:RAt r l (k1+1) Hb H3:=by rw[hH3];exact ha1.set _
     have hH35:H3 r5=some (.cells [.int .u8 0, .int .u8 0, .int .i64 0, .str [], .oslice 9 q 0 1 1, .nilSlice, .int .i64 t.line, .int .i64 0, .int .i64 0] 27):=by rw[hH3];exact Af g15 p5r.symm
     have hH34:H3 r4=some (.cells (dEx x) 27):=by rw[hH3];exact Af g14 q4
     have hH3q:H3 q=some (.cells (dEx x) 27):=by rw[hH3];exact Af g1q pr.symm
     have hH32:H3 r2=some (.cells [.int .u8 0, .int .u8 0, .int .i64 0, .str [], .nilSlice, .nilSlice, .int .i64 0, .int .i64 0, .int .i64 0] 27):=by rw[hH3];exact Af g12' q2
     simp(disch:=omega)only[go_sem,b2,e0,e2,e3,e4];have hbr: ∃t2,t2=tk l (k1+1):=⟨_,rfl⟩;obtain⟨t2,ht2⟩:=hbr;unfold Fs at hr';refine(Ws G H3 1 haK.get (by omega) (by omega)).mono ?_;intro e1 H9 hq9;rw[<-ht2] at hq9 hr';by_cases c9:t2.kind=1
     ·rw[if_pos c9] at hq9 hr';obtain⟨rfl,hH9⟩:=hq9;have hk9:k1+2<=l.length:=Ks (by rw[<-ht2,c9];decide);have haL:RAt r l (k1+2) Hb H9:=by rw[hH9];exact haK.set _
      have hH95:H9 r5=some (.cells [.int .u8 0, .int .u8 0, .int .i64 0, .str [], .oslice 9 q 0 1 1, .nilSlice, .int .i64 t.line, .int .i64 0, .int .i64 0] 27):=by rw[hH9];exact Af hH35 p5r.symm
      have hH94:H9 r4=some (.cells (dEx x) 27):=by rw[hH9];exact Af hH34 q4
      have hH9q:H9 q=some (.cells (dEx x) 27):=by rw[hH9];exact Af hH3q pr.symm
      obtain⟨m',rfl⟩: ∃m',m=m'+1:=by
       cases m with
       | zero=>rw[hr'] at hn;exact absurd rfl hn
       | succ m'=>exact⟨m',rfl⟩
      simp(disch:=omega)only[go_sem,Dw,e0,e2,e3,e4,hH95,hH94,p54];have hatf:=fun z z'=>(haL.own hb5 p5r.symm z).own hr4 q4 z';have hqf:=fun z z'=>Af (y:=z') (Af (y:=z) hH9q m5q) p4.symm;refine⟨(m', .mk 4 0 0 t2.text [x] [] t.line 0 0,k1+2),_,Lq.cell (Aa _ _ _) (hatf _ _) (Oq (a:= []) (hatf _ _) (Aa _ _ _) hbq pr.symm p4.symm (hqf _ _) (fun T hd=> .as0D hd)),(hI _ _ _).2 ?_,by dsimp only;omega⟩;simp(disch:=omega)only[go_sem,e0,e2,e3,e4]
     ·rw[if_neg c9] at hq9 hr';obtain⟨rfl,hH9⟩:=hq9;simp(disch:=omega)only[go_sem];rw[hr'];exact RAt.finP (by rw[hH9];exact RAt.up (haK.set _) hab) ⟨rfl,rfl⟩
    ·have b2':isW l k1 [Ik]=false:=by simpa using b2
     rw[if_neg b2,Co ha1.get] at hH3;rw[if_neg b2] at hr';rw[hH3];simp(disch:=omega)only[go_sem,b2',e0,e2,e3,e4];intro w3 hw3;dsimp only at hw3;simp(disch:=omega)only[go_sem];refine(Sw hG K1 w3 Br hw3 ha1.get (by omega) (by omega)).mono ?_;rintro _ H4 ⟨rfl,hH4⟩;by_cases b3:isW l k1 [Br]=true
     ·rw[if_pos b3] at hH4 hr';have hk2:=Ap b3 hk1';rw[jQ] at hk2;have haK:RAt r l (k1+1) Hb H4:=by rw[hH4];exact ha1.set _
      have hH45:H4 r5=some (.cells [.int .u8 0, .int .u8 0, .int .i64 0, .str [], .oslice 9 q 0 1 1, .nilSlice, .int .i64 t.line, .int .i64 0, .int .i64 0] 27):=by rw[hH4];exact Af g15 p5r.symm
      have hH44:H4 r4=some (.cells (dEx x) 27):=by rw[hH4];exact Af g14 q4
      have hH4q:H4 q=some (.cells (dEx x) 27):=by rw[hH4];exact Af g1q pr.symm
      have hH42:H4 r2=some (.cells [.int .u8 0, .int .u8 0, .int .i64 0, .str [], .nilSlice, .nilSlice, .int .i64 0, .int .i64 0, .int .i64 0] 27):=by rw[hH4];exact Af g12' q2
      simp(disch:=omega)only[go_sem,b3,e0,e2,e3,e4];have hth: ∀(a:Res As) (f:As->Nat->Res (List As)) (g:List As->Nat->Res Ex),(a.then fun x k=>(f x k).then g)=(a.then f).then g:=fun a f g=>by cases a<;>rfl
      rw[hth] at hr';have hargs:=Cg9 hG hl m (fun i hi=>hga i (by omega)) H4 (k1+1) haK.get hk2;dsimp only at hargs;cases hcc:(((P l m).arg (k1+1)).then fun a k=>(P l m).argsL [a] k) with
      | bot=>rw[hcc,Dx] at hr';rw[hr'] at hn;exact absurd rfl hn
      | fail k3=>
       rw[hcc] at hargs;rw[hcc,Dj] at hr';refine(hargs (Az (by simp))).mono ?_;rintro e H7 ⟨rfl,hH7⟩;simp(disch:=omega)only[go_sem];rw[hr'];exact RAt.finP (by rw[hH7];exact RAt.up (haK.set _) hab) ⟨rfl,rfl⟩
      | ok xs k3=>
       rw[hcc] at hargs;rw[hcc,Da] at hr';have hk3:k3<=l.length:=by
        have:=Bn ((Fw (l:=l) m).arg (k1+1) hk2) (fun a j h1 h2=>Cy ((Fw (l:=l) m).argsL [a] j h2) h1);rw[hcc] at this;exact this.2
       refine(hargs (Az (by simp))).mono ?_;rintro e H7 ⟨rfl,hH7⟩;have ha7:RAt r l k3 Hb H7:=by rw[hH7];exact haK.set _
       have hH75:H7 r5=some (.cells [.int .u8 0, .int .u8 0, .int .i64 0, .str [], .oslice 9 q 0 1 1, .nilSlice, .int .i64 t.line, .int .i64 0, .int .i64 0] 27):=by rw[hH7];exact Af hH45 p5r.symm
       have hH74:H7 r4=some (.cells (dEx x) 27):=by rw[hH7];exact Af hH44 q4
       have hH7q:H7 q=some (.cells (dEx x) 27):=by rw[hH7];exact Af hH4q pr.symm
       simp(disch:=omega)only[go_sem,dAl,e0,e2,e3,e4,hH75];obtain⟨H8,hH8⟩: ∃K,K=upd H7 r5 (some (.cells [.int .u8 7, .int .u8 0, .int .i64 0, .str [], .oslice 9 q 0 1 1, .vslice (xs.flatMap dAs) xs.length, .int .i64 t.line, .int .i64 0, .int .i64 0] 27)):=⟨_,rfl⟩;rw[<-hH8];have ha8:RAt r l k3 Hb H8:=by rw[hH8];exact ha7.own hb5 p5r.symm _
       have g85:H8 r5=some (.cells [.int .u8 7, .int .u8 0, .int .i64 0, .str [], .oslice 9 q 0 1 1, .vslice (xs.flatMap dAs) xs.length, .int .i64 t.line, .int .i64 0, .int .i64 0] 27):=by rw[hH8];exact Aa _ _ _
       have g84:H8 r4=some (.cells (dEx x) 27):=by rw[hH8];exact Af hH74 p54
       have g8q:H8 q=some (.cells (dEx x) 27):=by rw[hH8];exact Af hH7q m5q
       refine(Gk hG H8 Cb ha8.get (by omega) (by omega)).mono ?_;intro e1 H9 hq9;unfold Cx at hq9 hr';by_cases c9:isW l k3 [Cb]=true
       ·rw[if_pos c9] at hq9 hr';obtain⟨rfl,hH9⟩:=hq9;have hk9:=Ap c9 hk3;rw[jQ] at hk9;have haL:RAt r l (k3+1) Hb H9:=by rw[hH9];exact ha8.set _
        have g95:H9 r5=some (.cells [.int .u8 7, .int .u8 0, .int .i64 0, .str [], .oslice 9 q 0 1 1, .vslice (xs.flatMap dAs) xs.length, .int .i64 t.line, .int .i64 0, .int .i64 0] 27):=by rw[hH9];exact Af g85 p5r.symm
        have g94:H9 r4=some (.cells (dEx x) 27):=by rw[hH9];exact Af g84 q4
        have g9q:H9 q=some (.cells (dEx x) 27):=by rw[hH9];exact Af g8q pr.symm
        dsimp only at hr';obtain⟨m',rfl⟩: ∃m',m=m'+1:=by
         cases m with
         | zero=>rw[hr'] at hn;exact absurd rfl hn
         | succ m'=>exact⟨m',rfl⟩
        simp(disch:=omega)only[go_sem,e0,e2,e3,e4,g95,g94,p54];have hatf:=fun z'=>haL.own hr4 q4 z';have hqf:=fun z'=>Af (y:=z') g9q p4.symm;refine⟨(m', .mk 7 0 0 [] [x] xs t.line 0 0,k3+1),_,Lq.cell (Aa _ _ _) (hatf _) (Oq (a:=xs) (hatf _) (Aa _ _ _) hbq pr.symm p4.symm (hqf _) (fun T hd=>Fc.keepD hd _)),(hI _ _ _).2 ?_,by dsimp only;omega⟩;simp(disch:=omega)only[go_sem,e0,e2,e3,e4]
       ·rw[if_neg c9] at hq9 hr';obtain⟨rfl,hH9⟩:=hq9;simp(disch:=omega)only[go_sem];rw[hr'];exact RAt.finP (by rw[hH9];exact RAt.up (ha8.set _) hab) ⟨rfl,rfl⟩
     ·have b3':isW l k1 [Br]=false:=by simpa using b3
      rw[if_neg b3,Co ha1.get] at hH4;rw[if_neg b3] at hr';rw[hH4];simp(disch:=omega)only[go_sem,b3',e0,e2,e3,e4];intro w4 hw4;dsimp only at hw4;simp(disch:=omega)only[go_sem];refine(is2 hG K1 w4 Fm Br hw4 ha1.get (by omega) (by omega)).mono ?_;rintro _ H5 ⟨rfl,hH5⟩;rw[hH5];by_cases b4:isW l k1 [Fm,Br]=true
      ·rw[if_pos b4] at hr';have hk2:=Ap b4 hk1';rw[show [Fm,Br].length=2 from rfl] at hk2;have gr:=ha1.get;unfold rdO at gr;have hw1':IntKind.i64.wrap ((k1:Int)+1)=((k1+1:Nat):Int):=by rw[IntKind.wrap_i64];omega
       simp(disch:=omega)only[go_sem,b4,e0,e2,e3,e4,gr,hw1'];obtain⟨H6,hH6⟩: ∃H6,H6=upd K1 r (some (rdO l (k1+1))):=⟨_,rfl⟩;have hH6':=hH6;unfold rdO at hH6';rw[<-hH6'];have haK:RAt r l (k1+1) Hb H6:=by rw[hH6];exact ha1.set _
       have hH65:H6 r5=some (.cells [.int .u8 0, .int .u8 0, .int .i64 0, .str [], .oslice 9 q 0 1 1, .nilSlice, .int .i64 t.line, .int .i64 0, .int .i64 0] 27):=by rw[hH6];exact Af g15 p5r.symm
       have hH64:H6 r4=some (.cells (dEx x) 27):=by rw[hH6];exact Af g14 q4
       have hH6q:H6 q=some (.cells (dEx x) 27):=by rw[hH6];exact Af g1q pr.symm
       have hH62:H6 r2=some (.cells [.int .u8 0, .int .u8 0, .int .i64 0, .str [], .nilSlice, .nilSlice, .int .i64 0, .int .i64 0, .int .i64 0] 27):=by rw[hH6];exact Af g12' q2
       refine Am (by kernel_rfl) (.take 0 (.take 1 (.take 2 (.take 6 (.go 3 [1] (.go 4 [1] (.go 5 [] (.go 7 [] (.take 8 (.go 9 [] .done)))))))))) (by kernel_rfl) ?_;simp(disch:=omega)only[go_sem,e0,e2,e3,e4,hH65];have hpp:=hgp m (by omega) H6 (k1+1) haK.get (by omega);have had:=(Fw (l:=l) m).paren (k1+1) (by omega);dsimp only at hpp;cases hcc:(P l m).paren (k1+1) with
       | bot=>rw[hcc,Dx] at hr';rw[hr'] at hn;exact absurd rfl hn
       | fail k3=>
        rw[hcc] at hpp;rw[hcc,Dj] at hr';refine(hpp (Az (by simp))).mono ?_;rintro e H7 ⟨rfl,hH7⟩;simp(disch:=omega)only[go_sem];rw[hr'];exact RAt.finP (by rw[hH7];exact RAt.up (haK.set _) hab) ⟨rfl,rfl⟩
       | ok y k3=>
        rw[hcc] at hpp had;rw[hcc,Da] at hr';dsimp only[Adv] at had;refine(hpp (Az (by simp))).mono ?_;rintro e H7 ⟨rfl,hH7⟩;have ha7:RAt r l k3 Hb H7:=by rw[hH7];exact haK.set _
        have hH75:H7 r5=some (.cells [.int .u8 0, .int .u8 0, .int .i64 0, .str [], .oslice 9 q 0 1 1, .nilSlice, .int .i64 t.line, .int .i64 0, .int .i64 0] 27):=by rw[hH7];exact Af hH65 p5r.symm
        have hH74:H7 r4=some (.cells (dEx x) 27):=by rw[hH7];exact Af hH64 q4
        have hH7q:H7 q=some (.cells (dEx x) 27):=by rw[hH7];exact Af hH6q pr.symm
        have hly:=Ai y;simp(disch:=omega)only[go_sem,dE,e0,e2,e3,e4,hH65,hH75];rw[Ae6 hly];simp(disch:=omega)only[go_sem,e0,e2,e3,e4,hH65,hH75];intro r8 hr8;dsimp only at hr8;have p8:q≠r8:=Ad hr8 hH7q;have p85:r5≠r8:=Ad hr8 hH75;simp(disch:=omega)only[go_sem,e0,e2,e3,e4,hH65,hH75,p85];rw[if_neg p8,hH7q];obtain⟨Bq,hBq⟩: ∃K,K=upd H7 q none:=⟨_,rfl⟩;have hsB:Sub Bq H7:=by
         rw[hBq];intro b o hb;simp only[upd] at hb;split at hb
         ·cases hb
         ·exact hb
        have haB:RAt r l k3 Hb Bq:=by rw[hBq];exact ha7.own hbq pr.symm none
        have hB5:Bq r5=some (.cells [.int .u8 0, .int .u8 0, .int .i64 0, .str [], .oslice 9 q 0 1 1, .nilSlice, .int .i64 t.line, .int .i64 0, .int .i64 0] 27):=by rw[hBq];exact Af hH75 m5q.symm
        have hB4:Bq r4=some (.cells (dEx x) 27):=by rw[hBq];exact Af hH74 p4
        have hv0:Er Bq 27 9 1 (dEx x) (.oslice 9 q 0 1 1) H7:= .inr ⟨q,by rw[hBq];exact Aa _ _ _,by rw[hlx],rfl,hH7q,hsB⟩;refine Er.appendO (m:=1) (hv0.new hr8 _) hly (by omega) fun v2 H10 hv2=> ?_;have g105:=hv2.keep hB5;have g104:=hv2.keep hB4;obtain⟨j1,j2⟩:=hv2.cell1;obtain⟨m',rfl⟩: ∃m',m=m'+1:=by
         cases m with
         | zero=>rw[hr'] at hn;exact absurd rfl hn
         | succ m'=>exact⟨m',rfl⟩
        simp(disch:=omega)only[go_sem,e0,e2,e3,e4,g105,g104,p54,j1,j2];have hv3:=fun z z'=>(hv2.at hB5 (some z)).at (r:=r4) (by rw[Aj _ _ _ _ p54];exact hB4) (some z');have haf:=fun z z'=>(haB.own hb5 p5r.symm (some z)).own hr4 q4 (some z');refine⟨(m', .mk 8 0 0 [] [x,y] [] t.line 0 0,k3),_,Lq.cell (Aa _ _ _) (Sub.trans (haf _ _) (hv3 _ _).sub) (Bp5 (Sub.trans (haf _ _) (hv3 _ _).sub) (Aa _ _ _) (haf _ _) (by rw[Aa];simp) (by rw[show [x,y].flatMap dEx=dEx x++dEx y by simp];exact hv3 _ _)),(hI _ _ _).2 ?_,by dsimp only;omega⟩;simp(disch:=omega)only[go_sem,e0,e2,e3,e4]
      ·have b4':isW l k1 [Fm,Br]=false:=by simpa using b4
       rw[if_neg b4] at hr';simp(disch:=omega)only[go_sem,b4',e0,e2,e3,e4];intro w5 hw5;dsimp only at hw5;simp(disch:=omega)only[go_sem];refine(Sw hG K1 w5 Fm hw5 ha1.get (by omega) (by omega)).mono ?_;rintro _ H6 ⟨rfl,hH6⟩;by_cases b5:isW l k1 [Fm]=true
       ·rw[if_pos b5] at hH6 hr';have hk2:=Ap b5 hk1';rw[jQ] at hk2;have haK:RAt r l (k1+1) Hb H6:=by rw[hH6];exact ha1.set _
        have hH65:H6 r5=some (.cells [.int .u8 0, .int .u8 0, .int .i64 0, .str [], .oslice 9 q 0 1 1, .nilSlice, .int .i64 t.line, .int .i64 0, .int .i64 0] 27):=by rw[hH6];exact Af g15 p5r.symm
        have hH64:H6 r4=some (.cells (dEx x) 27):=by rw[hH6];exact Af g14 q4
        have hH6q:H6 q=some (.cells (dEx x) 27):=by rw[hH6];exact Af g1q pr.symm
        have hH62:H6 r2=some (.cells [.int .u8 0, .int .u8 0, .int .i64 0, .str [], .nilSlice, .nilSlice, .int .i64 0, .int .i64 0, .int .i64 0] 27):=by rw[hH6];exact Af g12' q2
        simp(disch:=omega)only[go_sem,b5,e0,e2,e3,e4];have hbr: ∃t2,t2=tk l (k1+1):=⟨_,rfl⟩;obtain⟨t2,ht2⟩:=hbr;unfold Fs at hr';refine(Ws G H6 1 haK.get (by omega) (by omega)).mono ?_;intro e1 H9 hq9;rw[<-ht2] at hq9 hr';by_cases c9:t2.kind=1
        ·rw[if_pos c9] at hq9 hr';obtain⟨rfl,hH9⟩:=hq9;have hk9:k1+2<=l.length:=Ks (by rw[<-ht2,c9];decide);have haL:RAt r l (k1+2) Hb H9:=by rw[hH9];exact haK.set _
         have hH95:H9 r5=some (.cells [.int .u8 0, .int .u8 0, .int .i64 0, .str [], .oslice 9 q 0 1 1, .nilSlice, .int .i64 t.line, .int .i64 0, .int .i64 0] 27):=by rw[hH9];exact Af hH65 p5r.symm
         have hH94:H9 r4=some (.cells (dEx x) 27):=by rw[hH9];exact Af hH64 q4
         have hH9q:H9 q=some (.cells (dEx x) 27):=by rw[hH9];exact Af hH6q pr.symm
         obtain⟨m',rfl⟩: ∃m',m=m'+1:=by
          cases m with
          | zero=>rw[hr'] at hn;exact absurd rfl hn
          | succ m'=>exact⟨m',rfl⟩
         simp(disch:=omega)only[go_sem,Dw,e0,e2,e3,e4,hH95,hH94,p54];have hatf:=fun z z'=>(haL.own hb5 p5r.symm z).own hr4 q4 z';have hqf:=fun z z'=>Af (y:=z') (Af (y:=z) hH9q m5q) p4.symm;refine⟨(m', .mk 6 0 0 t2.text [x] [] t.line 0 0,k1+2),_,Lq.cell (Aa _ _ _) (hatf _ _) (Oq (a:= []) (hatf _ _) (Aa _ _ _) hbq pr.symm p4.symm (hqf _ _) (fun T hd=> .as0D hd)),(hI _ _ _).2 ?_,by dsimp only;omega⟩;simp(disch:=omega)only[go_sem,e0,e2,e3,e4]
        ·rw[if_neg c9] at hq9 hr';obtain⟨rfl,hH9⟩:=hq9;simp(disch:=omega)only[go_sem];rw[hr'];exact RAt.finP (by rw[hH9];exact RAt.up (haK.set _) hab) ⟨rfl,rfl⟩
       ·have b5':isW l k1 [Fm]=false:=by simpa using b5
        rw[if_neg b5,Co ha1.get] at hH6;rw[if_neg b5] at hr';rw[hH6];have hox:=Bh x;simp(disch:=omega)only[go_sem,b5',e0,e2,e3,e4,g14,g12',hlx,hox];rw[hr'];exact RAt.fin ((RAt.up ha1 hab).own hr2 q2 _) ⟨rfl,rfl⟩
 ·rw[if_neg c] at hn hq⊢
  obtain⟨rfl,hH1⟩:=hq;simp(disch:=omega)only[go_sem];exact RAt.finP (by rw[hH1];exact ha.set k) ⟨rfl,rfl⟩
end
end Go.Dl

-- Chapter 3: the package's reader: all its functions together.
namespace Go.Dl
open Go Go.Proofs
set_option maxRecDepth 100000
section
variable {G:Nat->DVal} {r:Nat} {l:List Tok}
structure RdAll (G:Nat->DVal) (l:List Tok) (r:Nat) (m:Nat):Prop where
 expr:RdC Tryz.prog G l 58 r fun k=>((P l m).expr k).mp dE
 rest: ∀x,Bp3 Tryz.prog G l 164 r (.agg (dEx x)) fun k=>((P l m).rest x k).mp dE
 relation: ∀x,Bp3 Tryz.prog G l 60 r (.agg (dEx x)) fun k=>((P l m).relation x k).mp dE
 simple:RdC Tryz.prog G l 61 r fun k=>((P l m).simple k).mp dE
 term:RdC Tryz.prog G l 62 r fun k=>((P l m).term k).mp dE
 factor:RdC Tryz.prog G l 63 r fun k=>((P l m).factor k).mp dE
 primary:RdC Tryz.prog G l 64 r fun k=>((P l m).primary k).mp dE
 paren:RdC Tryz.prog G l 173 r fun k=>((P l m).paren k).mp dE
 assoc:RdC Tryz.prog G l 250 r fun k=>((P l m).assoc k).mp dA
 choice:RdC Tryz.prog G l 294 r fun k=>((P l m).choice k).mp dC
 arg:RdC Tryz.prog G l 251 r fun k=>((P l m).arg k).mp dA
 name:RdC Tryz.prog G l 65 r fun k=>((P l m).name k).mp dE
theorem Ds7 (hG:GX G) (hl:l.length<=800000): ∀n m,m<=n->RdAll G l r m:=by
 intro n
 induction n with
 | zero=>
  intro m hm;have:m=0:=by omega
  subst this;constructor<;>intros<;>intro H k _ _ hn<;>exact absurd rfl hn
 | succ n ih=>
  intro m hm;rcases Nat.lt_or_ge m (n+1) with h | h
  ·exact ih m (by omega)
  ·have:m=n+1:=by omega
   subst this;have h0:=ih n (Nat.le_refl _);exact⟨Cg6 hl _ (Fw n) h0.simple h0.rest,Cg8 hG hl n (fun m hm=>(ih m hm).simple) (fun m hm=>(ih m hm).relation),Aj8 hG hl _ (Fw n) h0.simple,
    Be7 hG hl n (fun m hm=>(ih m hm).term),Cg5 hG hl n (fun m hm=>(ih m hm).factor),Be5 hG hl _ (Fw n) h0.primary,At6 hG hl _ h0.paren h0.name,
    Bp4 hG hl n h0.expr (fun m hm=>(ih m hm).assoc),At7 hG hl n (fun m hm=>(ih m hm).choice) h0.expr,Be8 hG hl _ (Fw n) h0.simple h0.rest,Aj9 hG hl _ h0.expr,
    Ch0 hG hl n (fun m hm=>(ih m hm).arg) (fun m hm=>(ih m hm).paren)⟩
theorem Dl8 (hG:GX G) (hl:l.length<=800000) (m:Nat):RdAll G l r m:=Ds7 hG hl m m (Nat.le_refl _)
end
end Go.Dl

-- Chapter 3: the package's read: what a panic of reading told becomes the error.
namespace Go.Dl
open Go Go.Proofs
set_option maxRecDepth 100000
section
variable {G:Nat->DVal} {l:List Tok}
def Cu2:Res Ex->DVal
 | .ok x k=> .tuple [dE x,dI k,dI 0]
 | .fail k=> .tuple [dE ex0,dI k,dI 30]
 | .bot=> .nilPtr
set_option maxHeartbeats 4000000 in
theorem Bp6 (hG:GX G) (H:Ab) (hl:l.length<=800000) (g:FuncId) (res:Res Ex) (hn:res≠ .bot) (hf: ∀r H,H r=some (rdO l 0)->Ae Tryz.prog G g [.optr r 0] H (RdR r l H (res.mp dE))):
  Ae Tryz.prog G 66 [Dd l, .func (.func g) [] []] H (Bo (Cu2 res) H):=by
 refine Be4 Tryz.func66 Tryz.func177 Tryz.call66 Tryz.call177 rfl rfl (by kernel_rfl) (by kernel_rfl) rfl ?_;simp(disch:=omega)only[go_sem];intro r4 hr4;dsimp only at hr4;simp(disch:=omega)only[go_sem];intro r5 hr5;dsimp only at hr5;obtain⟨m45,m54,hr5'⟩:=Dk7.1 hr5;simp(disch:=omega)only[go_sem];intro r6 hr6;dsimp only at hr6;have a5:upd (upd H r4 (some (.cells [.int .u8 0, .int .u8 0, .int .i64 0, .str [], .nilSlice, .nilSlice, .int .i64 0, .int .i64 0, .int .i64 0] 27))) r5 (some (.cells [dI 0] 3)) r5=some (.cells [dI 0] 3):=Aa _ _ _;have a4:upd (upd H r4 (some (.cells [.int .u8 0, .int .u8 0, .int .i64 0, .str [], .nilSlice, .nilSlice, .int .i64 0, .int .i64 0, .int .i64 0] 27))) r5 (some (.cells [dI 0] 3)) r4=some (.cells [.int .u8 0, .int .u8 0, .int .i64 0, .str [], .nilSlice, .nilSlice, .int .i64 0, .int .i64 0, .int .i64 0] 27):=Af (Aa _ _ _) (Ad hr5 (Aa _ _ _));have n56:r5≠r6:=Ad hr6 a5;have n46:r4≠r6:=Ad hr6 a4;have n45:r4≠r5:=Ad hr5 (Aa _ _ _);have hdc:(Dd l).cells= [Dd l]:=rfl;simp(disch:=omega)only[go_sem,hdc,jA,jB,jE,jJ,jI,jG];intro r7 hr7;dsimp only at hr7;have n47:r4≠r7:=Ad hr7 (Af a4 n46);have n57:r5≠r7:=Ad hr7 (Af a5 n56);have n67:r6≠r7:=Ad hr7 (Aa _ _ _);have hr6':H r6=none:=((((Sub.refl H).new hr4 _).new hr5 _).lo hr6);have hr7':H r7=none:=(((((Sub.refl H).new hr4 _).new hr5 _).new hr6 _).lo hr7);have n74:=n47.symm;have n75:=n57.symm;have n76:=n67.symm;have n64:=n46.symm;have n65:=n56.symm;simp(disch:=omega)only[go_sem];refine(hf r7 _ (Aa _ _ _)).mono ?_;intro e H5 hq;have g4: ∀z,upd (upd (upd (upd (upd H r4 (some (.cells [.int .u8 0, .int .u8 0, .int .i64 0, .str [], .nilSlice, .nilSlice, .int .i64 0, .int .i64 0, .int .i64 0] 27))) r5 (some (.cells [dI 0] 3))) r6 (some (.cells [dI 0] 36))) r7 (some (rdO l 0))) r7 z r4=some (.cells [.int .u8 0, .int .u8 0, .int .i64 0, .str [], .nilSlice, .nilSlice, .int .i64 0, .int .i64 0, .int .i64 0] 27):=fun z=>by
  rw[Aj _ _ _ _ n47,Aj _ _ _ _ n47,Aj _ _ _ _ n46];exact a4
 cases hres:res with
 | bot=>exact absurd hres hn
 | ok x k=>
  rw[hres] at hq;obtain⟨rfl,hH5⟩:=hq;have hlx:=Ai x;have hox:=Bh x;have g54:H5 r4=some (.cells [.int .u8 0, .int .u8 0, .int .i64 0, .str [], .nilSlice, .nilSlice, .int .i64 0, .int .i64 0, .int .i64 0] 27):=by rw[hH5];exact g4 _
  have g55:H5 r5=some (.cells [dI 0] 3):=by rw[hH5,Aj _ _ _ _ n57,Aj _ _ _ _ n57,Aj _ _ _ _ n56];exact a5
  have g56:H5 r6=some (.cells [dI 0] 36):=by rw[hH5,Aj _ _ _ _ n67,Aj _ _ _ _ n67];exact Aa _ _ _
  have g57:H5 r7=some (.cells [Dd l,dI k] 226):=by rw[hH5];exact Aa _ _ _
  have hs5:Sub H H5:=by rw[hH5];exact((((((Sub.refl H).new hr4 _).new hr5 _).new hr6 _).new hr7 _).up hr7' _)
  simp(disch:=omega)only[go_sem,dE,g54,hlx,hox];refine Am (by kernel_rfl) (.take 0 (.take 1 (.take 2 (.take 3 (.take 4 (.go 5 [4] (.go 6 [] (.go 7 [] .done)))))))) (by kernel_rfl) ?_;simp(disch:=omega)only[go_sem,g54,g55,g56,g57,n45,n46,n47,n56,n57,n67,m45,n74,n75,n76,n64,n65,hlx,hox];intro r8 hr8;dsimp only at hr8;obtain⟨K,hK⟩: ∃K,K=upd (upd (upd H5 r4 (some (.cells (dEx x) 27))) r5 (some (.cells [dI k] 3))) r6 (some (.cells [dI 0] 36)):=⟨_,rfl⟩;have hsK:Sub H K:=by rw[hK];exact((hs5.up hr4 _).up hr5' _).up hr6' _
  have k4:K r4=some (.cells (dEx x) 27):=by rw[hK];exact Af (Af (Aa _ _ _) n45) n46
  have k5:K r5=some (.cells [dI k] 3):=by rw[hK];exact Af (Aa _ _ _) n56
  have k6:K r6=some (.cells [dI 0] 36):=by rw[hK];exact Aa _ _ _
  rw[<-hK] at hr8⊢
  have n48:r4≠r8:=Ad hr8 k4;have n58:r5≠r8:=Ad hr8 k5;have n68:r6≠r8:=Ad hr8 k6;simp(disch:=omega)only[go_sem,k4,k5,k6,n48,n58,n68,hlx,hox];exact Pl.sub (hsK.new hr8 _) (.refl ⟨rfl,rfl⟩)
 | fail k=>
  rw[hres] at hq;obtain⟨rfl,hH5⟩:=hq;have g54:H5 r4=some (.cells [.int .u8 0, .int .u8 0, .int .i64 0, .str [], .nilSlice, .nilSlice, .int .i64 0, .int .i64 0, .int .i64 0] 27):=by rw[hH5];exact g4 _
  have g55:H5 r5=some (.cells [dI 0] 3):=by rw[hH5,Aj _ _ _ _ n57,Aj _ _ _ _ n57,Aj _ _ _ _ n56];exact a5
  have g56:H5 r6=some (.cells [dI 0] 36):=by rw[hH5,Aj _ _ _ _ n67,Aj _ _ _ _ n67];exact Aa _ _ _
  have hs5:Sub H H5:=by rw[hH5];exact((((((Sub.refl H).new hr4 _).new hr5 _).new hr6 _).new hr7 _).up hr7' _)
  simp(disch:=omega)only[go_sem,Bp1];intro r8 hr8;dsimp only at hr8;have n48:r4≠r8:=Ad hr8 g54;have n58:r5≠r8:=Ad hr8 g55;have n68:r6≠r8:=Ad hr8 g56;simp(disch:=omega)only[go_sem,g54,g55,g56,n48,n58,n68,n45,n46,n56,m45,n64,n65];have hsK:=fun x y z=>(((hs5.new hr8 x).up hr5' y).up hr6' z);exact Fc.fin (hsK _ _ _) (Fc.tuple (.cons (Fc.agg (Fc.ex (l:= []) (a:= []) (hsK _ _ _) (.exs0 (hsK _ _ _)) (.as0 (hsK _ _ _)))) (Df.keep (hsK _ _ _) _))) ⟨rfl,rfl⟩
end
end Go.Dl

-- Chapter 3: expressions: the plain laws, part 4: with enough fuel reading comes to an answer; then it needs no fuel.
namespace Go.Dl
open Go
set_option maxRecDepth 10000
section
variable {l:List Tok}
theorem Bx {α β:Type} {a:Nat} {r:Res α} {f:α->Nat->Res β} (h:r≠ .bot) (ha:Adv l a r) (k: ∀x n,a<=n->n<=l.length->f x n≠ .bot):r.then f≠ .bot:=by
 cases r with
 | bot=>exact absurd rfl h
 | fail n=>intro e;cases e
 | ok x n=>exact k x n ha.1 ha.2
theorem Gh {α:Type} {x:α} {k:Nat}:(Res.ok x k)≠ .bot:=fun e=>by cases e
theorem At8 {α:Type} {k:Nat}:(Res.fail k:Res α)≠ .bot:=fun e=>by cases e
theorem Mw {α:Type} {s:List UInt8} {k:Nat} {f:Nat->Res α} (hk:k<=l.length) (h:k+1<=l.length->f (k+1)≠ .bot):Cx l s k f≠ .bot:=by
 unfold Cx;split
 ·rename_i hw
  exact h (Ap hw hk)
 ·exact At8
theorem Ae7 {α:Type} {k:Nat} {f:List UInt8->Nat->Res α} (h:k+1<=l.length-> ∀s,f s (k+1)≠ .bot):Fs l k f≠ .bot:=by
 unfold Fs;split
 ·rename_i hw
  exact h (Ks (by rw[hw];decide)) _
 ·exact At8
structure PS.Tot (l:List Tok) (n:Nat) (p:PS):Prop where
 expr: ∀k,k<=l.length->8*(l.length-k)+6<=n->p.expr k≠ .bot
 rest: ∀x k,k<=l.length->8*(l.length-k)+2<=n->p.rest x k≠ .bot
 restL: ∀o x k,k<=l.length->8*(l.length-k)+1<=n->p.restL o x k≠ .bot
 relation: ∀x k,k<=l.length->8*(l.length-k)+1<=n->p.relation x k≠ .bot
 simple: ∀k,k<=l.length->8*(l.length-k)+5<=n->p.simple k≠ .bot
 addL: ∀x k,k<=l.length->8*(l.length-k)+1<=n->p.addL x k≠ .bot
 term: ∀k,k<=l.length->8*(l.length-k)+4<=n->p.term k≠ .bot
 mulL: ∀x k,k<=l.length->8*(l.length-k)+1<=n->p.mulL x k≠ .bot
 factor: ∀k,k<=l.length->8*(l.length-k)+3<=n->p.factor k≠ .bot
 primary: ∀k,k<=l.length->8*(l.length-k)+2<=n->p.primary k≠ .bot
 paren: ∀k,k<=l.length->8*(l.length-k)+1<=n->p.paren k≠ .bot
 assoc: ∀k,k<=l.length->8*(l.length-k)+7<=n->p.assoc k≠ .bot
 assocsL: ∀a k,k<=l.length->8*(l.length-k)+1<=n->p.assocsL a k≠ .bot
 choice: ∀k,k<=l.length->8*(l.length-k)+6<=n->p.choice k≠ .bot
 choicesL: ∀a k,k<=l.length->8*(l.length-k)+1<=n->p.choicesL a k≠ .bot
 arg: ∀k,k<=l.length->8*(l.length-k)+7<=n->p.arg k≠ .bot
 argsL: ∀a k,k<=l.length->8*(l.length-k)+1<=n->p.argsL a k≠ .bot
 name: ∀k,k<=l.length->8*(l.length-k)+1<=n->p.name k≠ .bot
 nameL: ∀i x k,k<=l.length->8*(l.length-k)+1<=n->p.nameL i x k≠ .bot
theorem Ch1 {p:PS} {n:Nat} (h:p.Tot l n) (ha:p.Adv l):(Aw l p).Tot l (n+1) where
 expr k hk hn:=Bx (h.simple k hk (by omega)) (ha.simple k hk) fun x m h1 h2=>h.rest x m h2 (by omega)
 rest x k hk hn:=Bx (h.relation x k hk (by omega)) (ha.relation x k hk) fun x m h1 h2=>h.restL _ x m h2 (by omega)
 restL o x k hk hn:=by
  dsimp only[Aw]
  split
  ·exact Gh
  ·obtain⟨q1,q2,q3,q4⟩:=Cl (want:=o) Dy7.1 hk
   split
   ·exact Gh
   ·rename_i hq
    have:=q2 hq
    exact Bx (h.simple _ q3 (by omega)) (ha.simple _ q3) fun y n h1 h2=>Bx (h.relation y n h2 (by omega)) (ha.relation y n h2) fun z m h3 h4=>h.restL _ _ m h4 (by omega)
 relation x k hk hn:=by
  dsimp only[Aw]
  obtain⟨q1,q2,q3,q4⟩:=Cl (want:=0) Dy7.2.1 hk
  have hin: ∀kind j,k+1<=j->j<=l.length->inK l x kind j p≠ .bot:=fun kind j h1 h2=>by
   refine Bx (h.simple j h2 (by omega)) (ha.simple j h2) fun y m h3 h4=> ?_
   split
   ·rename_i hw
    have:=Ap hw h4
    have:=this
    simp only[jA,jB] at this
    exact Bx (h.simple (m+1) (by omega) (by omega)) (ha.simple (m+1) (by omega)) fun z m _ _=>Gh
   ·split
    ·exact Gh
    ·exact At8
  split
  ·rename_i hq
   have:=q2 hq
   exact Bx (h.simple _ q3 (by omega)) (ha.simple _ q3) fun y n h1 h2=>Gh
  ·split
   ·rename_i hw
    have:=Ap hw hk
    simp only[jA,jB] at this
    exact hin _ _ (by omega) (by omega)
   ·split
    ·rename_i hw
     have:=Ap hw hk
     simp only[jA,jB] at this
     exact hin _ _ (by omega) (by omega)
    ·exact Gh
 simple k hk hn:=by
  obtain⟨q1,q2,q3,q4⟩:=Cl (want:=0) Dy7.2.2.1 hk
  exact Bx (h.term _ q3 (by omega)) (ha.term _ q3) fun x n h1 h2=>h.addL _ n h2 (by omega)
 addL x k hk hn:=by
  dsimp only[Aw]
  obtain⟨q1,q2,q3,q4⟩:=Cl (want:=0) Dy7.2.2.2.1 hk
  split
  ·exact Gh
  ·rename_i hq
   have:=q2 hq
   exact Bx (h.term _ q3 (by omega)) (ha.term _ q3) fun x n h1 h2=>h.addL _ n h2 (by omega)
 term k hk hn:=Bx (h.factor k hk (by omega)) (ha.factor k hk) fun x n h1 h2=>h.mulL _ n h2 (by omega)
 mulL x k hk hn:=by
  dsimp only[Aw]
  obtain⟨q1,q2,q3,q4⟩:=Cl (want:=0) Dy7.2.2.2.2.1 hk
  split
  ·exact Gh
  ·rename_i hq
   have:=q2 hq
   exact Bx (h.factor _ q3 (by omega)) (ha.factor _ q3) fun x n h1 h2=>h.mulL _ n h2 (by omega)
 factor k hk hn:=by
  obtain⟨q1,q2,q3,q4⟩:=Cl (want:=0) Dy7.2.2.2.2.2 hk
  exact Bx (h.primary _ q3 (by omega)) (ha.primary _ q3) fun x n h1 h2=>Gh
 primary k hk hn:=by
  dsimp only[Aw]
  split
  ·exact Gh
  ·split
   ·exact Gh
   ·split
    ·exact h.paren k hk (by omega)
    ·exact h.name k hk (by omega)
 paren k hk hn:=by
  dsimp only[Aw]
  refine Mw hk fun hk1=> ?_
  split
  ·rename_i hw
   have:=Ap hw hk1
   simp only[jA,jB] at this
   refine Bx (h.expr _ this (by omega)) (ha.expr _ this) fun a n1 h1 h2=>Mw h2 fun h3=>Bx (h.expr _ h3 (by omega)) (ha.expr _ h3) fun b n2 h4 h5=>Mw h5 fun h6=>Bx (h.expr _ h6 (by omega)) (ha.expr _ h6) fun c n3 h7 h8=>Mw h8 fun h9=>Gh
  ·exact Bx (h.assoc _ hk1 (by omega)) (ha.assoc _ hk1) fun a n1 h1 h2=>Bx (h.assocsL _ _ h2 (by omega)) (ha.assocsL _ _ h2) fun az n2 h3 h4=>Mw h4 fun h5=>Gh
 assoc k hk hn:=by
  refine Bx (h.choice k hk (by omega)) (ha.choice k hk) fun c n h1 h2=> ?_
  split
  ·exact Gh
  ·split
   ·exact Mw h2 fun h3=>Bx (h.expr _ h3 (by omega)) (ha.expr _ h3) fun e m h4 h5=>Gh
   ·exact Bx (h.choicesL _ _ h2 (by omega)) (ha.choicesL _ _ h2) fun cs m h3 h4=>Mw h4 fun h5=>Bx (h.expr _ h5 (by omega)) (ha.expr _ h5) fun e m h6 h7=>Gh
 assocsL az k hk hn:=by
  dsimp only[Aw]
  split
  ·rename_i hw
   have:=Ap hw hk
   simp only[jA,jB] at this
   exact Bx (h.assoc _ this (by omega)) (ha.assoc _ this) fun a n h1 h2=>h.assocsL _ n h2 (by omega)
  ·exact Gh
 choice k hk hn:=by
  dsimp only[Aw]
  split
  ·exact Gh
  ·refine Bx (h.simple k hk (by omega)) (ha.simple k hk) fun x n h1 h2=> ?_
   split
   ·rename_i hw
    have:=Ap hw h2
    simp only[jA,jB] at this
    exact Bx (h.simple _ this (by omega)) (ha.simple _ this) fun y m h3 h4=>Gh
   ·exact Bx (h.rest x n h2 (by omega)) (ha.rest x n h2) fun y m h3 h4=>Gh
 choicesL az k hk hn:=by
  dsimp only[Aw]
  split
  ·rename_i hw
   have:=Ap hw hk
   simp only[jA,jB] at this
   exact Bx (h.choice _ this (by omega)) (ha.choice _ this) fun a n h1 h2=>h.choicesL _ n h2 (by omega)
  ·exact Gh
 arg k hk hn:=by
  dsimp only[Aw]
  split
  ·rename_i hw
   have h1:=Ks (l:=l) (k:=k) (by rw[hw.1];decide)
   have:=Ap hw.2 h1
   simp only[jA,jB] at this
   exact Bx (h.expr _ this (by omega)) (ha.expr _ this) fun y m h3 h4=>Gh
  ·exact Bx (h.expr k hk (by omega)) (ha.expr k hk) fun y m h3 h4=>Gh
 argsL az k hk hn:=by
  dsimp only[Aw]
  split
  ·rename_i hw
   have:=Ap hw hk
   simp only[jA,jB] at this
   exact Bx (h.arg _ this (by omega)) (ha.arg _ this) fun a n h1 h2=>h.argsL _ n h2 (by omega)
  ·exact Gh
 name k hk hn:=Ae7 fun h1 s=>h.nameL _ _ _ h1 (by omega)
 nameL i x k hk hn:=by
  dsimp only[Aw]
  split
  ·rename_i hw
   have:=Ap hw hk
   simp only[jA,jB] at this
   exact h.nameL _ _ _ (by omega) (by omega)
  ·split
   ·rename_i hw
    have:=Ap hw hk
    simp only[jA,jB] at this
    exact Ae7 fun h1 s=>h.nameL _ _ _ h1 (by omega)
   ·split
    ·rename_i hw
     have:=Ap hw hk
     simp only[jA,jB] at this
     exact Bx (h.arg _ this (by omega)) (ha.arg _ this) fun a n h1 h2=>Bx (h.argsL _ _ h2 (by omega)) (ha.argsL _ _ h2) fun az m h3 h4=>Mw h4 fun h5=>h.nameL _ _ _ h5 (by omega)
    ·split
     ·rename_i hw
      have:=Ap hw hk
      simp only[jA,jB] at this
      exact Bx (h.paren _ (by omega) (by omega)) (ha.paren _ (by omega)) fun a n h1 h2=>h.nameL _ _ _ h2 (by omega)
     ·split
      ·rename_i hw
       have:=Ap hw hk
       simp only[jA,jB] at this
       exact Ae7 fun h1 s=>h.nameL _ _ _ h1 (by omega)
      ·exact Gh
theorem Dl9: ∀n,(P l n).Tot l n
 | 0=>by constructor<;>intros<;>omega
 | n+1=>Ch1 (Dl9 n) (Fw n)
def Dy (l:List Tok):Nat:=8*l.length+20
def Q (l:List Tok):PS:=P l (Dy l)
theorem Jg {α:Type} {r r':Res α} (h:r.Le r') (hn:r≠ .bot):r'=r:=by
 rcases h with h | h
 ·exact absurd h hn
 ·exact h.symm
structure PS.Fix (l:List Tok) (p:PS):Prop where
 expr: ∀k,k<=l.length->p.expr k=(Aw l p).expr k
 rest: ∀x k,k<=l.length->p.rest x k=(Aw l p).rest x k
 restL: ∀o x k,k<=l.length->p.restL o x k=(Aw l p).restL o x k
 relation: ∀x k,k<=l.length->p.relation x k=(Aw l p).relation x k
 simple: ∀k,k<=l.length->p.simple k=(Aw l p).simple k
 addL: ∀x k,k<=l.length->p.addL x k=(Aw l p).addL x k
 term: ∀k,k<=l.length->p.term k=(Aw l p).term k
 mulL: ∀x k,k<=l.length->p.mulL x k=(Aw l p).mulL x k
 factor: ∀k,k<=l.length->p.factor k=(Aw l p).factor k
 primary: ∀k,k<=l.length->p.primary k=(Aw l p).primary k
 paren: ∀k,k<=l.length->p.paren k=(Aw l p).paren k
 assoc: ∀k,k<=l.length->p.assoc k=(Aw l p).assoc k
 assocsL: ∀a k,k<=l.length->p.assocsL a k=(Aw l p).assocsL a k
 choice: ∀k,k<=l.length->p.choice k=(Aw l p).choice k
 choicesL: ∀a k,k<=l.length->p.choicesL a k=(Aw l p).choicesL a k
 arg: ∀k,k<=l.length->p.arg k=(Aw l p).arg k
 argsL: ∀a k,k<=l.length->p.argsL a k=(Aw l p).argsL a k
 name: ∀k,k<=l.length->p.name k=(Aw l p).name k
 nameL: ∀i x k,k<=l.length->p.nameL i x k=(Aw l p).nameL i x k
theorem Dm0:(Q l).Tot l (Dy l):=Dl9 _
theorem Dm1:(Q l).Adv l:=Fw _
theorem Dw9:(Q l).Fix l:=by
 have h:(Q l).Le (Aw l (Q l)):=Am5 _;have t:=Dm0 (l:=l);have f: ∀k,8*(l.length-k)+7<=Dy l:=fun k=>by unfold Dy;omega
 have f': ∀ {k a:Nat},a<=7->8*(l.length-k)+a<=Dy l:=fun {k a} ha=>by have:=f k;omega
 exact⟨fun k hk=>(Jg (h.expr k) (t.expr k hk (f' (by omega)))).symm,
  fun x k hk=>(Jg (h.rest x k) (t.rest x k hk (f' (by omega)))).symm,
  fun o x k hk=>(Jg (h.restL o x k) (t.restL o x k hk (f' (by omega)))).symm,
  fun x k hk=>(Jg (h.relation x k) (t.relation x k hk (f' (by omega)))).symm,
  fun k hk=>(Jg (h.simple k) (t.simple k hk (f' (by omega)))).symm,
  fun x k hk=>(Jg (h.addL x k) (t.addL x k hk (f' (by omega)))).symm,
  fun k hk=>(Jg (h.term k) (t.term k hk (f' (by omega)))).symm,
  fun x k hk=>(Jg (h.mulL x k) (t.mulL x k hk (f' (by omega)))).symm,
  fun k hk=>(Jg (h.factor k) (t.factor k hk (f' (by omega)))).symm,
  fun k hk=>(Jg (h.primary k) (t.primary k hk (f' (by omega)))).symm,
  fun k hk=>(Jg (h.paren k) (t.paren k hk (f' (by omega)))).symm,
  fun k hk=>(Jg (h.assoc k) (t.assoc k hk (f' (by omega)))).symm,
  fun x k hk=>(Jg (h.assocsL x k) (t.assocsL x k hk (f' (by omega)))).symm,
  fun k hk=>(Jg (h.choice k) (t.choice k hk (f' (by omega)))).symm,
  fun x k hk=>(Jg (h.choicesL x k) (t.choicesL x k hk (f' (by omega)))).symm,
  fun k hk=>(Jg (h.arg k) (t.arg k hk (f' (by omega)))).symm,
  fun x k hk=>(Jg (h.argsL x k) (t.argsL x k hk (f' (by omega)))).symm,
  fun k hk=>(Jg (h.name k) (t.name k hk (f' (by omega)))).symm,
  fun i x k hk=>(Jg (h.nameL i x k) (t.nameL i x k hk (f' (by omega)))).symm⟩
end
end Go.Dl

-- Chapter 3: expressions: the plain laws, part 5: the tokens of an expression.
namespace Go.Dl
open Go
set_option maxRecDepth 10000
def Ak (s:List UInt8):Tok:=⟨Je s,0,s,0⟩
def Jm (s:List UInt8):Tok:=⟨1,0,s,0⟩
def Bf0 (n:Int):Tok:=⟨3,0,[],n⟩
def Po (b:Bool) (t:List Tok):List Tok:=if b then Ak Br::(t++ [Ak Cb]) else t
def Fo (s:List UInt8):List (List Tok)->List Tok
 | []=> []
 | [x]=>x
 | x::r=>x++Ak s::Fo s r
def Gl (e:Ex):Int:=if Ao e=2 then 3 else 5
def Dq (e:Ex):Int:=if Ao e=1 then 2 else if Ao e=0/\((e.l.getD 0 ex0).kind≠12\/(e.l.getD 0 ex0).oper≠e.oper) then 1 else Ao e
def Eu (e:Ex):Int:=if Ao e=1 then 2 else Ao e+1
def Kk (k:Int):Bool:=decide (k=9) || decide (k=10)
def Kt (e:Ex) (tl ta:List (List Tok)):List Tok:=
 let p:=fun(i:Nat) (lv:Int)=>Po (decide (Ao (e.l.getD i ex0)<lv)) (tl.getD i [])
 if e.kind=1 then [Bf0 e.n] else if e.kind=2 then [Ak Mv] else if e.kind=3 then [Jm e.s]
 else if e.kind=4 then tl.getD 0 []++ [Ak Ik,Jm e.s]
 else if e.kind=5 then tl.getD 0 []++ [Ak Ik,Ak Ql]
 else if e.kind=6 then tl.getD 0 []++ [Ak Fm,Jm e.s]
 else if e.kind=7 then tl.getD 0 []++Ak Br::(Fo Gv ta++ [Ak Cb])
 else if e.kind=8 then tl.getD 0 []++Ak Fm::Po (!Kk (e.l.getD 1 ex0).kind) (tl.getD 1 [])
 else if e.kind=9 then Ak Br::(Fo Gv ta++ [Ak Cb])
 else if e.kind=10 then Ak Br::Ak wIf::(tl.getD 0 []++Ak Jl::(tl.getD 1 []++Ak Ki::(tl.getD 2 []++ [Ak Cb])))
 else if e.kind=11 then(Aq e.oper.toNat).map Ak++p 0 (Gl e)
 else if e.kind=12 then p 0 (Dq e)++((Aq e.oper.toNat).map Ak++p 1 (Eu e))
 else if e.kind=13 then p 0 2++Ak wIn::(if e.l.length=3 then p 1 2++Ak Ee::p 2 2 else tl.getD 1 [])
 else p 0 2++Ak Lz::Ak wIn::(if e.l.length=3 then p 1 2++Ak Ee::p 2 2 else tl.getD 1 [])
def Dx0 (k:Int) (l:List Ex) (tl:List (List Tok)):List Tok:=
 let p:=fun(i:Nat) (lv:Int)=>Po (decide (Ao (l.getD i ex0)<lv)) (tl.getD i [])
 if k=1 then tl.getD 0 [] else if k=2 then p 0 2++Ak Ee::p 1 2 else [Ak Gn]
def Dm2 (tc:List (List Tok)) (te:List Tok):List Tok:=if tc.isEmpty then te else Fo Fl tc++Ak Bd::te
mutual
def Ag:Ex->List Tok
 | .mk k o n s l a li en t=>Kt (.mk k o n s l a li en t) (Ae8 l) (At9 a)
def Ae8:List Ex->List (List Tok)
 | []=> []
 | x::l=>Ag x::Ae8 l
def Ey:As->List Tok
 | .mk c e=>Dm2 (Au0 c) (Ag e)
def At9:List As->List (List Tok)
 | []=> []
 | x::l=>Ey x::At9 l
def Es:Ch->List Tok
 | .mk k l=>Dx0 k l (Ae8 l)
def Au0:List Ch->List (List Tok)
 | []=> []
 | x::l=>Es x::Au0 l
end
theorem Sy: ∀l:List Ex,Ae8 l=l.map Ag
 | []=>rfl
 | x::l=>by rw[Ae8,Sy l,jN]
theorem Ae9: ∀l:List As,At9 l=l.map Ey
 | []=>rfl
 | x::l=>by rw[At9,Ae9 l,jN]
theorem Af0: ∀l:List Ch,Au0 l=l.map Es
 | []=>rfl
 | x::l=>by rw[Au0,Af0 l,jN]
theorem Fp (e:Ex):Ag e=Kt e (e.l.map Ag) (e.a.map Ey):=by
 cases e;rw[Ag,Sy,Ae9];rfl
theorem Kl (x:As):Ey x=if x.c.isEmpty then Ag x.e else Fo Fl (x.c.map Es)++Ak Bd::Ag x.e:=by
 cases x with
 | mk c e=>rw[Ey,Af0,Dm2];cases c<;>rfl
def Ay (e:Ex) (lv:Int):List Tok:=Po (decide (Ao e<lv)) (Ag e)
theorem Cu3 {α β:Type} (f:α->β) (l:List α) (i:Nat) (d:α) (e:β) (h:i<l.length):(l.map f).getD i e=f (l.getD i d):=by
 simp [List.getD,List.getElem?_map,List.getElem?_eq_getElem h]
theorem Ia (c:Ch):Es c=if c.kind=1 then(c.l.map Ag).getD 0 [] else if c.kind=2 then Po (decide (Ao (c.l.getD 0 ex0)<2)) ((c.l.map Ag).getD 0 [])++Ak Ee::Po (decide (Ao (c.l.getD 1 ex0)<2)) ((c.l.map Ag).getD 1 []) else [Ak Gn]:=by
 cases c;rw[Es,Sy];rfl
def tE (e:Ex) (i:Nat):List Tok:=(e.l.map Ag).getD i []
def pE (e:Ex) (i:Nat) (lv:Int):List Tok:=Po (decide (Ao (e.l.getD i ex0)<lv)) (tE e i)
def Fz (e:Ex):List Tok:=if e.l.length=3 then pE e 1 2++Ak Ee::pE e 2 2 else tE e 1
def taE (e:Ex):List Tok:=Fo Gv (e.a.map Ey)
section
variable {e:Ex}
theorem Cu4 (h:e.kind=1):Ag e= [Bf0 e.n]:=by rw[Fp];unfold Kt;rw[h];rfl
theorem Cu5 (h:e.kind=2):Ag e= [Ak Mv]:=by rw[Fp];unfold Kt;rw[h];rfl
theorem Bf1 (h:e.kind=3):Ag e= [Jm e.s]:=by rw[Fp];unfold Kt;rw[h];rfl
theorem Cu6 (h:e.kind=4):Ag e=tE e 0++ [Ak Ik,Jm e.s]:=by rw[Fp];unfold Kt;rw[h];rfl
theorem Cu7 (h:e.kind=5):Ag e=tE e 0++ [Ak Ik,Ak Ql]:=by rw[Fp];unfold Kt;rw[h];rfl
theorem Cu8 (h:e.kind=6):Ag e=tE e 0++ [Ak Fm,Jm e.s]:=by rw[Fp];unfold Kt;rw[h];rfl
theorem Cu9 (h:e.kind=7):Ag e=tE e 0++Ak Br::(taE e++ [Ak Cb]):=by rw[Fp];unfold Kt;rw[h];rfl
theorem Cv0 (h:e.kind=8):Ag e=tE e 0++Ak Fm::Po (!Kk (e.l.getD 1 ex0).kind) (tE e 1):=by rw[Fp];unfold Kt;rw[h];rfl
theorem Bw1 (h:e.kind=9):Ag e=Ak Br::(taE e++ [Ak Cb]):=by rw[Fp];unfold Kt;rw[h];rfl
theorem Au1 (h:e.kind=10):Ag e=Ak Br::Ak wIf::(tE e 0++Ak Jl::(tE e 1++Ak Ki::(tE e 2++ [Ak Cb]))):=by rw[Fp];unfold Kt;rw[h];rfl
theorem Bp7 (h:e.kind=11):Ag e=(Aq e.oper.toNat).map Ak++pE e 0 (Gl e):=by rw[Fp];unfold Kt;rw[h];rfl
theorem Bp8 (h:e.kind=12):Ag e=pE e 0 (Dq e)++((Aq e.oper.toNat).map Ak++pE e 1 (Eu e)):=by rw[Fp];unfold Kt;rw[h];rfl
theorem Bp9 (h:e.kind=13):Ag e=pE e 0 2++Ak wIn::Fz e:=by rw[Fp];unfold Kt;rw[h];rfl
theorem Bq0 (h:e.kind=14):Ag e=pE e 0 2++Ak Lz::Ak wIn::Fz e:=by rw[Fp];unfold Kt;rw[h];rfl
theorem Dx1 {i:Nat} (h:i<e.l.length):tE e i=Ag (e.l.getD i ex0):=Cu3 Ag e.l i ex0 [] h
theorem Dm3 {i:Nat} (h:i<e.l.length) (lv:Int):pE e i lv=Ay (e.l.getD i ex0) lv:=by rw[pE,Dx1 h];rfl
end
theorem Ch2 {s:List UInt8}:Je s≠1/\Je s≠3/\Je s≠0:=by
 unfold Je;split<;>decide
theorem Rj (s:List UInt8) (x:List Tok) (r:List (List Tok)) (h:r≠ []):Fo s (x::r)=x++Ak s::Fo s r:=by
 cases r with
 | nil=>exact absurd rfl h
 | cons y r=>rfl
theorem An4 (s:List UInt8): ∀(l:List (List Tok)) (x:List Tok),l≠ []->Fo s (l++ [x])=Fo s l++Ak s::x
 | [],_,h=>absurd rfl h
 | [y],x,_=>rfl
 | y::z::r,x,_=>by
  rw[jI,Rj s y _ (by simp),An4 s (z::r) x (by simp),Rj s y (z::r) (by simp)];simp
end Go.Dl

-- Chapter 3: expressions: the plain laws, part 6: what was read ends with a token that ends an expression; reading sees no token behind it.
namespace Go.Dl
open Go
set_option maxRecDepth 10000
section
variable {l:List Tok}
theorem Af1 {k:Nat} {s:List UInt8}:isW l k [s]=(decide ((tk l k).kind=Je s)&&decide ((tk l k).text=s)):=by rw[isW,isW,Bool.and_true]
theorem Cv1 {k:Nat} {s t:List UInt8}:isW l k [s,t]=(isW l k [s]&&isW l (k+1) [t]):=by rw[isW,Af1 (s:=s),Af1 (s:=t)]
theorem Dt {k:Nat} {s t:List UInt8} (h:isW l k [s]=true) (hs:s≠t):isW l k [t]=false:=by
 rw[Af1,jF,decide_eq_true_eq,decide_eq_true_eq] at h;rw[Af1,h.2,decide_eq_false hs,Bool.and_false]
end
end Go.Dl

-- Chapter 3: expressions: the plain laws, part 7: reading sees no token behind what it reads.
namespace Go.Dl
open Go
set_option maxRecDepth 10000
section
variable {l:List Tok} {n:Nat}
theorem Cv2 {k:Nat} {ws:List (List UInt8)} {s:List UInt8} (h:isW l k ws=true) (hs:ws.head? =some s):isW l k [s]=true:=by
 cases ws with
 | nil=>cases hs
 | cons a r=>
  cases hs;rw[isW,jF] at h;rw[Af1];exact h.1
theorem Af2 {want k:Nat} {l:List Tok}: ∀ {os:List Nat},(∀o∈os,isW l k (Aq o)=false)->opF l want k os=(0,k)
 | [],_=>rfl
 | o::r,h=>by rw[opF,h o (by simp),if_neg (by simp)];exact Af2 fun x hx=>h x (by simp [hx])
end
end Go.Dl

-- Chapter 3: expressions: the plain laws, part 8: what was read is not shorter than its tokens.
namespace Go.Dl
open Go
set_option maxRecDepth 10000
section
variable {l:List Tok}
theorem Bf2 (b:Bool) (t:List Tok):(Po b t).length=t.length+if b then 2 else 0:=by
 cases b<;>simp [Po]
theorem Qq (e:Ex):0<=Ao e/\Ao e<=5:=by
 unfold Ao;repeat' split
 all_goals omega
def Gx {α:Type} (R:α->Nat->Prop) (r:Res α):Prop:= ∀x k',r= .ok x k'->R x k'
theorem Be {α β:Type} {r:Res α} {f:α->Nat->Res β} {R:α->Nat->Prop} {S:β->Nat->Prop} (h:Gx R r) (hf: ∀x k1,R x k1->Gx S (f x k1)):Gx S (r.then f):=fun y k' e=>by
 cases r with
 | bot=>cases e
 | fail n=>cases e
 | ok x n=>exact hf x n (h x n rfl) y k' e
theorem Cp {α:Type} {R:α->Nat->Prop} {k:Nat} {x:α} (h:R x k):Gx R (.ok x k):=fun y k' e=>by cases e;exact h
theorem Wu {α:Type} {R:α->Nat->Prop} {k:Nat}:Gx R (.fail k):=fun y k' e=>by cases e
theorem Iv {α:Type} {R:α->Nat->Prop} {k:Nat} {s:List UInt8} {f:Nat->Res α} (h:isW l k [s]=true->Gx R (f (k+1))):Gx R (Cx l s k f):=by
 unfold Cx;split
 ·exact h ‹_›
 ·exact Wu
theorem Wv {α:Type} {R:α->Nat->Prop} {k:Nat} {f:List UInt8->Nat->Res α} (h:(tk l k).kind=1->Gx R (f (tk l k).text (k+1))):Gx R (Fs l k f):=by
 unfold Fs;split
 ·exact h ‹_›
 ·exact Wu
theorem Ce {α:Type} {R S:α->Nat->Prop} {r:Res α} (h:Gx R r) (g:Gx S r):Gx (fun x k=>R x k/\S x k) r:=fun x k e=>⟨h x k e,g x k e⟩
theorem Cf {α:Type} {a:Nat} {r:Res α} (h:Adv l a r):Gx (fun _ k'=>a<=k'/\k'<=l.length) r:=fun x k' e=>by rw[e] at h;exact h
def Cv3 (ta:List (List Tok)):Nat:=(ta.map fun t=>t.length+1).sum-1
theorem Af3 (s:List UInt8): ∀l:List (List Tok),(Fo s l).length=Cv3 l
 | []=>rfl
 | [x]=>by simp [Fo,Cv3]
 | x::y::r=>by
  have ih:=Af3 s (y::r);rw[Rj s x _ (by simp),jC,jA,ih];simp only[Cv3,jN,List.sum_cons];omega
def Au2 (ta:List (List Tok)):Nat:=(ta.map fun t=>t.length+1).sum
theorem Qr {e:Ex} (h:Bg e=true):Ao e=5:=by
 unfold Bg at h;rw[jF,decide_eq_true_eq,decide_eq_true_eq] at h;unfold Ao;rw[if_neg (by omega),if_neg (by omega),if_neg (by omega)]
theorem Au3 {want k:Nat}: ∀ {os:List Nat},(opF l want k os).1≠0->(opF l want k os).1∈os/\(opF l want k os).2=k+(Aq (opF l want k os).1).length/\isW l k (Aq (opF l want k os).1)=true
 | [],h=>absurd rfl h
 | o::r,h=>by
  rw[opF] at h⊢
  split
  ·rename_i hw
   rw[if_pos hw] at h;split
   ·rename_i hc
    rw[if_pos hc] at h;exact absurd rfl h
   ·exact⟨List.mem_cons_self,rfl,hw⟩
  ·rename_i hw
   rw[if_neg hw] at h;have:=Au3 h;exact⟨List.mem_cons_of_mem _ this.1,this.2⟩
theorem Cv4 {o:Nat} (h:o∈Ek):o=18\/o=19:=by simp [Ek] at h;omega
theorem Dh6 {o:Nat} (h:o∈Gf):o=20\/o=21:=by simp [Gf] at h;omega
theorem Cv5 (s:List UInt8) (ta:List (List Tok)) (h:ta≠ []):(Fo s ta).length+1=Au2 ta:=by
 rw[Af3,Cv3,Au2];cases ta with
 | nil=>exact absurd rfl h
 | cons t r=>simp only[jN,List.sum_cons];omega
end
end Go.Dl

-- Chapter 3: what was read fits into a machine.
namespace Go.Dl
open Go Go.Proofs
set_option maxRecDepth 100000
section
variable {l:List Tok}
theorem Sz (a:As): ∀l:List As,Dm (l++ [a])=Dm l+Om a
 | []=>by simp [Dm]
 | x::l=>by rw[jI,Dm,Dm,Sz a l];omega
theorem Af4 (a:Ch): ∀l:List Ch,Gp (l++ [a])=Gp l+Um a
 | []=>by simp [Gp]
 | x::l=>by rw[jI,Gp,Gp,Af4 a l];omega
theorem Ww (a:As): ∀l:List As,Jy (l++ [a])↔Jy l/\okA a
 | []=>by simp [Jy]
 | x::l=>by rw[jI,Jy,Jy,Ww a l];exact and_assoc.symm
theorem An5 (a:Ch): ∀l:List Ch,Ro (l++ [a])↔Ro l/\okC a
 | []=>by simp [Ro]
 | x::l=>by rw[jI,Ro,Ro,An5 a l];exact and_assoc.symm
def FE (k:Nat) (x:Ex) (k':Nat):Prop:=Cz x+1+2*k<=2*k'/\okE x
def FL (k:Nat) (x y:Ex) (k':Nat):Prop:=Cz y+2*k<=Cz x+2*k'/\okE y
structure PS.Fits (l:List Tok) (p:PS):Prop where
 expr: ∀k,k<=l.length->Gx (FE k) (p.expr k)
 rest: ∀x k,k<=l.length->okE x->Gx (FL k x) (p.rest x k)
 restL: ∀o x k,k<=l.length->okE x->Gx (FL k x) (p.restL o x k)
 relation: ∀x k,k<=l.length->okE x->Gx (FL k x) (p.relation x k)
 simple: ∀k,k<=l.length->Gx (FE k) (p.simple k)
 addL: ∀x k,k<=l.length->okE x->Gx (FL k x) (p.addL x k)
 term: ∀k,k<=l.length->Gx (FE k) (p.term k)
 mulL: ∀x k,k<=l.length->okE x->Gx (FL k x) (p.mulL x k)
 factor: ∀k,k<=l.length->Gx (FE k) (p.factor k)
 primary: ∀k,k<=l.length->Gx (FE k) (p.primary k)
 paren: ∀k,k<=l.length->Gx (FE k) (p.paren k)
 assoc: ∀k,k<=l.length->Gx (fun x k'=>Om x+1+2*k<=2*k'/\okA x) (p.assoc k)
 assocsL: ∀a k,k<=l.length->Jy a->Gx (fun b k'=>Dm b+2*k<=Dm a+2*k'/\Jy b) (p.assocsL a k)
 choice: ∀k,k<=l.length->Gx (fun x k'=>Um x+2*k<=2*k'/\okC x) (p.choice k)
 choicesL: ∀a k,k<=l.length->Ro a->Gx (fun b k'=>Gp b+2*k<=Gp a+2*k'/\Ro b) (p.choicesL a k)
 arg: ∀k,k<=l.length->Gx (fun x k'=>Om x+1+2*k<=2*k'/\okA x) (p.arg k)
 argsL: ∀a k,k<=l.length->Jy a->Gx (fun b k'=>Dm b+2*k<=Dm a+2*k'/\Jy b) (p.argsL a k)
 name: ∀k,k<=l.length->Gx (FE k) (p.name k)
 nameL: ∀i x k,k<=l.length->okE x->Gx (FL k x) (p.nameL i x k)
theorem Uu (o:Nat) (x y:Ex):Cz (both o x y)=1+Cz x+Cz y:=by
 rw[both,Cz];simp only[Im,Dm];omega
theorem Zh {o:Nat} {x y:Ex} (h1:okE x) (h2:okE y):okE (both o x y):=by
 rw[both,okE];simp only[okL,Jy];exact⟨by decide,⟨h1,h2,trivial⟩,trivial⟩
theorem Bf3 (o:Nat) (x:Ex) (li:Int):Cz (Jv o li x)=if o=0 then Cz x else 1+Cz x:=by
 unfold Jv;split
 ·rfl
 ·rw[Cz];simp only[Im,Dm];omega
theorem Bw2 {o:Nat} {x:Ex} {li:Int} (h1:okE x):okE (Jv o li x):=by
 unfold Jv;split
 ·exact h1
 ·rw[okE];simp only[okL,Jy];exact⟨by decide,⟨h1,trivial⟩,trivial⟩
theorem Bq1 (hT: ∀k,(tk l k).text.length<=9223372036854775807) {p:PS} (h:p.Fits l) (hA:p.Adv l):(Aw l p).Fits l where
 expr k hk:=Be (Ce (h.simple k hk) (Cf (hA.simple k hk))) fun x m ⟨h1,h2⟩ y k' e=>by
  obtain⟨g1,g2⟩:=h.rest x m h2.2 h1.2 y k' e
  exact⟨by have:=h1.1;omega,g2⟩
 rest x k hk hx:=Be (Ce (h.relation x k hk hx) (Cf (hA.relation x k hk))) fun y m ⟨h1,h2⟩ z k' e=>by
  obtain⟨g1,g2⟩:=h.restL _ y m h2.2 h1.2 z k' e
  exact⟨by have:=h1.1;omega,g2⟩
 restL o x k hk hx:=by
  dsimp only[Aw]
  split
  ·exact Cp ⟨Nat.le_refl _,hx⟩
  ·obtain⟨q1,q2,q3,q4⟩:=Cl (want:=o) Dy7.1 hk
   split
   ·exact Cp ⟨Nat.le_refl _,hx⟩
   ·rename_i hq
    have:=q2 hq
    refine Be (Ce (h.simple _ q3) (Cf (hA.simple _ q3))) fun y j ⟨h1,h2⟩=>Be (Ce (h.relation y j h2.2 h1.2) (Cf (hA.relation y j h2.2))) fun z i ⟨h3,h4⟩ w k' e=> ?_
    obtain⟨g1,g2⟩:=h.restL o (both o x z) i h4.2 (Zh hx h3.2) w k' e
    rw[Uu] at g1
    have:=h1.1
    have:=h3.1
    exact⟨by omega,g2⟩
 relation x k hk hx:=by
  dsimp only[Aw]
  obtain⟨q1,q2,q3,q4⟩:=Cl (want:=0) Dy7.2.1 hk
  have hin: ∀(kind:Int) (j:Nat),k+1<=j->j<=l.length->Gx (FL k x) (inK l x kind j p):=fun kind j hkj hj=>by
   refine Be (Ce (h.simple _ hj) (Cf (hA.simple _ hj))) fun y i ⟨h1,h2⟩=> ?_
   have:=h1.1
   split
   ·rename_i hw
    have j1:=Ap hw h2.2
    simp only[jA,jB] at j1
    refine Be (h.simple _ j1) fun z n h3=>Cp ⟨?_, ?_⟩
    ·have:=h3.1
     rw[Cz];simp only[Im,Dm];omega
    ·rw[okE];simp only[okL,Jy];exact⟨by decide,⟨hx,h1.2,h3.2,trivial⟩,trivial⟩
   ·split
    ·refine Cp ⟨?_, ?_⟩
     ·rw[Cz];simp only[Im,Dm];omega
     ·rw[okE];simp only[okL,Jy];exact⟨by decide,⟨hx,h1.2,trivial⟩,trivial⟩
    ·exact Wu
  split
  ·rename_i hq
   have:=q2 hq
   refine Be (h.simple _ q3) fun y j h1=>Cp ⟨?_,Zh hx h1.2⟩
   have:=h1.1
   rw[Uu];omega
  ·split
   ·rename_i hw
    have j1:=Ap hw hk
    simp only[jA,jB] at j1
    exact hin _ _ (by omega) j1
   ·split
    ·rename_i hw
     have j1:=Ap hw hk
     simp only[jA,jB] at j1
     exact hin _ _ (by omega) j1
    ·exact Cp ⟨Nat.le_refl _,hx⟩
 simple k hk:=by
  obtain⟨q1,q2,q3,q4⟩:=Cl (want:=0) Dy7.2.2.1 hk
  refine Be (Ce (h.term _ q3) (Cf (hA.term _ q3))) fun x j ⟨h1,h2⟩ y k' e=> ?_
  obtain⟨g1,g2⟩:=h.addL _ j h2.2 (Bw2 h1.2) y k' e
  have:=h1.1
  rw[Bf3] at g1
  refine⟨?_,g2⟩
  by_cases c:(opF l 0 k Ek).1=0
  ·rw[if_pos c] at g1;omega
  ·have:=q2 c
   rw[if_neg c] at g1;omega
 addL x k hk hx:=by
  dsimp only[Aw]
  obtain⟨q1,q2,q3,q4⟩:=Cl (want:=0) Dy7.2.2.2.1 hk
  split
  ·exact Cp ⟨Nat.le_refl _,hx⟩
  ·rename_i hq
   have:=q2 hq
   refine Be (Ce (h.term _ q3) (Cf (hA.term _ q3))) fun y j ⟨h1,h2⟩ z k' e=> ?_
   obtain⟨g1,g2⟩:=h.addL _ j h2.2 (Zh hx h1.2) z k' e
   have:=h1.1
   rw[Uu] at g1
   exact⟨by omega,g2⟩
 term k hk:=Be (Ce (h.factor k hk) (Cf (hA.factor k hk))) fun x j ⟨h1,h2⟩ y k' e=>by
  obtain⟨g1,g2⟩:=h.mulL x j h2.2 h1.2 y k' e
  have:=h1.1
  exact⟨by omega,g2⟩
 mulL x k hk hx:=by
  dsimp only[Aw]
  obtain⟨q1,q2,q3,q4⟩:=Cl (want:=0) Dy7.2.2.2.2.1 hk
  split
  ·exact Cp ⟨Nat.le_refl _,hx⟩
  ·rename_i hq
   have:=q2 hq
   refine Be (Ce (h.factor _ q3) (Cf (hA.factor _ q3))) fun y j ⟨h1,h2⟩ z k' e=> ?_
   obtain⟨g1,g2⟩:=h.mulL _ j h2.2 (Zh hx h1.2) z k' e
   have:=h1.1
   rw[Uu] at g1
   exact⟨by omega,g2⟩
 factor k hk:=by
  obtain⟨q1,q2,q3,q4⟩:=Cl (want:=0) Dy7.2.2.2.2.2 hk
  refine Be (h.primary _ q3) fun x j h1=>Cp ⟨?_,Bw2 h1.2⟩
  have:=h1.1
  rw[Bf3]
  by_cases c:(opF l 0 k Gf).1=0
  ·rw[if_pos c];omega
  ·have:=q2 c
   rw[if_neg c];omega
 primary k hk:=by
  dsimp only[Aw]
  split
  ·exact Cp ⟨by rw[Cz];simp only[Im,Dm];omega,by rw[okE];exact⟨by decide,trivial,trivial⟩⟩
  ·split
   ·exact Cp ⟨by rw[Cz];simp only[Im,Dm];omega,by rw[okE];exact⟨by decide,trivial,trivial⟩⟩
   ·split
    ·exact h.paren k hk
    ·exact h.name k hk
 paren k hk:=by
  dsimp only[Aw]
  refine Iv fun hw=> ?_
  have hk1:=Ap hw hk
  simp only[jA,jB] at hk1
  split
  ·rename_i hw2
   have hk2:=Ap hw2 hk1
   simp only[jA,jB] at hk2
   refine Be (Ce (h.expr _ hk2) (Cf (hA.expr _ hk2))) fun a i1 ⟨g1,g2⟩=>Iv fun w1=> ?_
   have j1:=Ap w1 g2.2
   refine Be (Ce (h.expr _ j1) (Cf (hA.expr _ j1))) fun b i2 ⟨g3,g4⟩=>Iv fun w2=> ?_
   have j2:=Ap w2 g4.2
   refine Be (Ce (h.expr _ j2) (Cf (hA.expr _ j2))) fun c i3 ⟨g5,g6⟩=>Iv fun w3=>Cp ⟨?_, ?_⟩
   ·have:=g1.1;have:=g3.1;have:=g5.1
    rw[Cz];simp only[Im,Dm];omega
   ·rw[okE];simp only[okL,Jy];exact⟨by decide,⟨g1.2,g3.2,g5.2,trivial⟩,trivial⟩
  ·refine Be (Ce (h.assoc _ hk1) (Cf (hA.assoc _ hk1))) fun a i1 ⟨g1,g2⟩=>Be (Ce (h.assocsL [a] i1 g2.2 ⟨g1.2,trivial⟩) (Cf (hA.assocsL [a] i1 g2.2))) fun b i2 ⟨g3,g4⟩=>Iv fun w1=>Cp ?_
   have g1':=g1.1
   have g3':=g3.1
   simp only[Dm] at g3'
   have key: ∀li,FE k (.mk 9 0 0 [] [] b li 0 0) (i2+1):=fun li=>⟨by rw[Cz];simp only[Im];omega,by rw[okE];exact⟨by decide,trivial,g3.2⟩⟩
   match b,g3,g3',key with
   | [],g3,_,key=>exact key _
   | x::y::r,g3,_,key=>exact key _
   | [x],g3,g3',key=>
    show FE k (if x.c= [] then x.e else _) _
    split
    ·simp only[Dm] at g3'
     have h6:=Uo x
     have h5:=g3.2
     simp only[Jy] at h5
     exact⟨by omega,(Ds1.1 h5.1).2⟩
    ·exact key _
 assoc k hk:=by
  refine Be (Ce (h.choice k hk) (Cf (hA.choice k hk))) fun c i1 ⟨⟨g1,g1'⟩,g2⟩=> ?_
  rw[On] at g1
  split
  ·refine Cp ?_
   rw[Ds2] at g1'
   rw[Om,okA]
   simp only[Gp,Ro]
   obtain⟨m,hm⟩: ∃m,m=c.l:=⟨_,rfl⟩
   rw[<-hm] at g1 g1'⊢
   cases m with
   | nil=>exact⟨by show 0+Cz ex0+1+2*k<=_;rw[show Cz ex0=1 from rfl];omega,trivial,by simp [ex0,okE,okL,Jy]⟩
   | cons x r=>
    rw[Im] at g1
    rw[okL] at g1'
    exact⟨by show 0+Cz x+1+2*k<=_;omega,trivial,g1'.1⟩
  ·split
   ·refine Iv fun w1=> ?_
    have j1:=Ap w1 g2.2
    simp only[jA,jB] at j1
    refine Be (h.expr _ j1) fun e i2 g3=>Cp ⟨?_, ?_⟩
    ·have:=g3.1
     rw[Om];simp only[Gp,On];omega
    ·rw[okA];exact⟨⟨g1',trivial⟩,g3.2⟩
   ·refine Be (Ce (h.choicesL [c] i1 g2.2 ⟨g1',trivial⟩) (Cf (hA.choicesL [c] i1 g2.2))) fun b i2 ⟨⟨g3,g3'⟩,g4⟩=>Iv fun w1=> ?_
    have j1:=Ap w1 g4.2
    simp only[jA,jB] at j1
    refine Be (h.expr _ j1) fun e i3 g5=>Cp ⟨?_, ?_⟩
    ·have:=g5.1
     simp only[Gp,On] at g3
     rw[Om];omega
    ·rw[okA];exact⟨g3',g5.2⟩
 assocsL a k hk ha:=by
  dsimp only[Aw]
  split
  ·rename_i hw
   have:=Ap hw hk
   simp only[jA,jB] at this
   refine Be (Ce (h.assoc _ this) (Cf (hA.assoc _ this))) fun x n ⟨h1,h2⟩ y k' e=> ?_
   obtain⟨g,g'⟩:=h.assocsL _ n h2.2 ((Ww _ _).2 ⟨ha,h1.2⟩) y k' e
   rw[Sz] at g
   have:=h1.1
   exact⟨by omega,g'⟩
  ·exact Cp ⟨Nat.le_refl _,ha⟩
 choice k hk:=by
  dsimp only[Aw]
  split
  ·exact Cp ⟨by rw[Um];simp only[Im];omega,by rw[okC];trivial⟩
  ·refine Be (Ce (h.simple k hk) (Cf (hA.simple k hk))) fun x i1 ⟨g1,g2⟩=> ?_
   have:=g1.1
   split
   ·rename_i hw
    have j1:=Ap hw g2.2
    simp only[jA,jB] at j1
    refine Be (h.simple _ j1) fun y i2 g3=>Cp ⟨?_, ?_⟩
    ·have:=g3.1
     rw[Um];simp only[Im];omega
    ·rw[okC];exact⟨g1.2,g3.2,trivial⟩
   ·refine Be (h.rest x i1 g2.2 g1.2) fun y i2 g3=>Cp ⟨?_, ?_⟩
    ·have:=g3.1
     rw[Um];simp only[Im];omega
    ·rw[okC];exact⟨g3.2,trivial⟩
 choicesL a k hk ha:=by
  dsimp only[Aw]
  split
  ·rename_i hw
   have:=Ap hw hk
   simp only[jA,jB] at this
   refine Be (Ce (h.choice _ this) (Cf (hA.choice _ this))) fun x n ⟨h1,h2⟩ y k' e=> ?_
   obtain⟨g,g'⟩:=h.choicesL _ n h2.2 ((An5 _ _).2 ⟨ha,h1.2⟩) y k' e
   rw[Af4] at g
   have:=h1.1
   exact⟨by omega,g'⟩
  ·exact Cp ⟨Nat.le_refl _,ha⟩
 arg k hk:=by
  dsimp only[Aw]
  split
  ·rename_i hw
   have j0:=Ks (l:=l) (k:=k) (by rw[hw.1];decide)
   have j1:=Ap hw.2 j0
   simp only[jA,jB] at j1
   refine Be (h.expr _ j1) fun e i1 g1=>Cp ⟨?_, ?_⟩
   ·have:=g1.1
    rw[Om];simp only[Gp,Um,Im,Cz,Dm];omega
   ·rw[okA];simp only[Ro,okC,okL,okE,Jy];exact⟨⟨⟨⟨hT k,trivial,trivial⟩,trivial⟩,trivial⟩,g1.2⟩
  ·refine Be (h.expr k hk) fun e i1 g1=>Cp ⟨?_, ?_⟩
   ·have:=g1.1
    rw[Om];simp only[Gp];omega
   ·rw[okA];exact⟨trivial,g1.2⟩
 argsL a k hk ha:=by
  dsimp only[Aw]
  split
  ·rename_i hw
   have:=Ap hw hk
   simp only[jA,jB] at this
   refine Be (Ce (h.arg _ this) (Cf (hA.arg _ this))) fun x n ⟨h1,h2⟩ y k' e=> ?_
   obtain⟨g,g'⟩:=h.argsL _ n h2.2 ((Ww _ _).2 ⟨ha,h1.2⟩) y k' e
   rw[Sz] at g
   have:=h1.1
   exact⟨by omega,g'⟩
  ·exact Cp ⟨Nat.le_refl _,ha⟩
 name k hk:=by
  dsimp only[Aw]
  refine Wv fun hkd=> ?_
  have j0:=Ks (l:=l) (k:=k) (by rw[hkd];decide)
  intro x k' e
  obtain⟨g,g'⟩:=h.nameL _ (.mk 3 0 0 (tk l k).text [] [] (tk l k).line 0 0) (k+1) j0 (by rw[okE];exact⟨hT k,trivial,trivial⟩) x k' e
  rw[Cz] at g
  simp only[Im,Dm] at g
  exact⟨by omega,g'⟩
 nameL i x k hk hx:=by
  have hn: ∀(y:Ex) (j:Nat),j<=l.length->okE y->Cz y+2*k<=Cz x+2*j->Gx (FL k x) (p.nameL i y j):=fun y j hj hy hl z k' e=>by
   obtain⟨g,g'⟩:=h.nameL i y j hj hy z k' e
   exact⟨by omega,g'⟩
  dsimp only[Aw]
  split
  ·rename_i hw
   have j1:=Ap hw hk
   simp only[jA,jB] at j1
   refine hn _ _ j1 ?_ ?_
   ·rw[okE];exact⟨by decide,⟨hx,trivial⟩,trivial⟩
   ·rw[Cz];simp only[Im,Dm];omega
  ·split
   ·rename_i hw
    have j1:=Ap hw hk
    refine Wv fun hkd=> ?_
    have j2:=Ks (l:=l) (k:=k+1) (by rw[hkd];decide)
    refine hn _ _ j2 ?_ ?_
    ·rw[okE];exact⟨hT _,⟨hx,trivial⟩,trivial⟩
    ·rw[Cz];simp only[Im,Dm];omega
   ·split
    ·rename_i hw
     have j1:=Ap hw hk
     simp only[jA,jB] at j1
     refine Be (Ce (h.arg _ j1) (Cf (hA.arg _ j1))) fun a i1 ⟨g1,g2⟩=>Be (Ce (h.argsL [a] i1 g2.2 ⟨g1.2,trivial⟩) (Cf (hA.argsL [a] i1 g2.2))) fun b i2 ⟨g3,g4⟩=>Iv fun w1=> ?_
     have j2:=Ap w1 g4.2
     have g1':=g1.1
     have g3':=g3.1
     simp only[Dm] at g3'
     refine hn _ _ j2 ?_ ?_
     ·rw[okE];exact⟨by decide,⟨hx,trivial⟩,g3.2⟩
     ·rw[Cz];simp only[Im];omega
    ·split
     ·rename_i hw
      have j1:=Ap hw hk
      simp only[jA,jB] at j1
      have j2:k+1<=l.length:=by omega
      refine Be (Ce (h.paren _ j2) (Cf (hA.paren _ j2))) fun y i1 ⟨g1,g2⟩=> ?_
      have g1':=g1.1
      refine hn _ _ g2.2 ?_ ?_
      ·rw[okE];exact⟨by decide,⟨hx,g1.2,trivial⟩,trivial⟩
      ·rw[Cz];simp only[Im,Dm];omega
     ·split
      ·rename_i hw
       have j1:=Ap hw hk
       refine Wv fun hkd=> ?_
       have j2:=Ks (l:=l) (k:=k+1) (by rw[hkd];decide)
       refine hn _ _ j2 ?_ ?_
       ·rw[okE];exact⟨hT _,⟨hx,trivial⟩,trivial⟩
       ·rw[Cz];simp only[Im,Dm];omega
      ·exact Cp ⟨Nat.le_refl _,hx⟩
theorem Cv6 (hT: ∀k,(tk l k).text.length<=9223372036854775807): ∀n,(P l n).Fits l
 | 0=>by constructor<;>intros<;>intro x k' e<;>cases e
 | n+1=>Bq1 hT (Cv6 hT n) (Fw n)
end
end Go.Dl

-- Chapter 3: the package's Front, FrontArgs, FrontChoices.
namespace Go.Dl
open Go Go.Proofs
set_option maxRecDepth 100000
def Pp (l:List Tok):Nat->Res Ex
 | 0=>(Q l).expr 0
 | 1=>((Q l).simple 0).then fun x k=>(Q l).relation x k
 | 2=>(Q l).simple 0
 | 3=>(Q l).term 0
 | 4=>(Q l).factor 0
 | 5=>(Q l).primary 0
 | _=>(Q l).name 0
def Dz (l:List Tok) (level:Int):Ex×Int×Int:=
 if level<0\/7<=level then(ex0,0,2) else match Pp l level.toNat with
  | .ok x k=>if Hz x then(x,k,0) else(ex0,0,3)
  | .fail k=>(ex0,k,30)
  | .bot=>(ex0,0,0)
section
variable {l:List Tok}
theorem Au4 (j:Nat):Pp l j≠ .bot:=by
 have t:=Dm0 (l:=l);have f': ∀ {k a:Nat},a<=7->8*(l.length-k)+a<=Dy l:=fun {k a} ha=>by unfold Dy;omega
 unfold Pp;split
 ·exact t.expr _ (by omega) (f' (by omega))
 ·exact Bx (t.simple _ (by omega) (f' (by omega))) (Dm1.simple 0 (by omega)) fun x n _ h=>t.relation _ _ h (f' (by omega))
 ·exact t.simple _ (by omega) (f' (by omega))
 ·exact t.term _ (by omega) (f' (by omega))
 ·exact t.factor _ (by omega) (f' (by omega))
 ·exact t.primary _ (by omega) (f' (by omega))
 ·exact t.name _ (by omega) (f' (by omega))
theorem Dh7 (j:Nat):Adv l 1 (Pp l j):=by
 have t:=Dm1 (l:=l);unfold Pp;split
 ·exact t.expr _ (by omega)
 ·exact Bn (t.simple _ (by omega)) fun x n h1 h=>Cy (t.relation x n h) h1
 ·exact t.simple _ (by omega)
 ·exact t.term _ (by omega)
 ·exact t.factor _ (by omega)
 ·exact t.primary _ (by omega)
 ·exact t.name _ (by omega)
def Ta (l:List Tok):Prop:= ∀k,(tk l k).text.length<=9223372036854775807
theorem Cv7 (hT:Ta l) (j:Nat):Gx (FE 0) (Pp l j):=by
 have t:=Cv6 hT (Dy l);change (Q l).Fits l at t;unfold Pp;split
 ·exact t.expr _ (by omega)
 ·exact Be (Ce (t.simple _ (by omega)) (Cf (Dm1.simple _ (by omega)))) fun x n ⟨h1,h2⟩ y k' e=>by
   obtain⟨g,g'⟩:=t.relation x n h2.2 h1.2 y k' e;have:=h1.1;exact⟨by omega,g'⟩
 ·exact t.simple _ (by omega)
 ·exact t.term _ (by omega)
 ·exact t.factor _ (by omega)
 ·exact t.primary _ (by omega)
 ·exact t.name _ (by omega)
end
section
variable {G:Nat->DVal} {l:List Tok}
theorem Bf4 (hG:GX G) (hl:l.length<=800000) (r:Nat) (H:Ab) (hr:H r=some (rdO l 0)):Ae Tryz.prog G 59 [.optr r 0] H (RdR r l H ((Pp l 1).mp dE)):=by
 have ha:=Dl8 (r:=r) hG hl (Dy l);have hne:=Au4 (l:=l) 1;refine Ac Tryz.func59 Tryz.call59 rfl (by kernel_rfl) ?_;simp(disch:=omega)only[go_sem];intro r2 hr2;dsimp only at hr2;have n2:r≠r2:=Ad hr2 hr;have q2:=n2.symm;simp(disch:=omega)only[go_sem];have h0:RAt r l 0 H (upd H r2 (some (.cells [.int .u8 0, .int .u8 0, .int .i64 0, .str [], .nilSlice, .nilSlice, .int .i64 0, .int .i64 0, .int .i64 0] 27))):=(RAt.refl hr).new hr2 _;have hp:=ha.simple _ 0 h0.get (by omega);have had:=Dm1.simple (l:=l) 0 (by omega);unfold Pp at hne⊢
 dsimp only at hp;change ((P l (Dy l)).simple 0).then _≠_ at hne
 change Ae _ _ _ _ _ _;cases hc:(P l (Dy l)).simple 0 with
 | bot=>rw[hc] at hne;exact absurd rfl hne
 | fail k=>
  rw[hc] at hp;refine(hp (Az (by simp))).mono ?_;rintro e H4 ⟨rfl,rfl⟩;simp(disch:=omega)only[go_sem];have:(Q l).simple 0= .fail k:=hc;rw[this];exact RAt.finP (h0.set k) ⟨rfl,rfl⟩
 | ok x k=>
  rw[hc] at hp hne;have hq:(Q l).simple 0= .ok x k:=hc;rw[hq] at had;refine(hp (Az (by simp))).mono ?_;rintro e H4 ⟨rfl,hH4⟩;have h4:RAt r l k H H4:=by rw[hH4];exact h0.set k
  have g4:H4 r2=some (.cells [.int .u8 0, .int .u8 0, .int .i64 0, .str [], .nilSlice, .nilSlice, .int .i64 0, .int .i64 0, .int .i64 0] 27):=by rw[hH4];exact Af (Aa _ _ _) q2
  simp(disch:=omega)only[go_sem,dE];have hp2:=ha.relation x H4 k h4.get had.2;dsimp only at hp2;rw[hq,Da];change (P l (Dy l)).relation x k≠_ at hne;cases hc2:(P l (Dy l)).relation x k with
  | bot=>exact absurd hc2 hne
  | fail k2=>
   rw[hc2] at hp2;refine(hp2 (Az (by simp))).mono ?_;rintro e H5 ⟨rfl,rfl⟩;simp(disch:=omega)only[go_sem];have:(Q l).relation x k= .fail k2:=hc2;rw[this];exact RAt.finP (h4.set k2) ⟨rfl,rfl⟩
  | ok y k2=>
   rw[hc2] at hp2;refine(hp2 (Az (by simp))).mono ?_;rintro e H5 ⟨rfl,hH5⟩;have h5:RAt r l k2 H H5:=by rw[hH5];exact h4.set k2
   have g5:H5 r2=some (.cells [.int .u8 0, .int .u8 0, .int .i64 0, .str [], .nilSlice, .nilSlice, .int .i64 0, .int .i64 0, .int .i64 0] 27):=by rw[hH5];exact Af g4 q2
   have hly:=Ai y;have hoy:=Bh y;simp(disch:=omega)only[go_sem,dE,g5,hly,hoy];have:(Q l).relation x k= .ok y k2:=hc2;rw[this];exact RAt.fin (h5.own hr2 q2 _) ⟨rfl,rfl⟩
theorem Ch3 (hG:GX G) (hl:l.length<=800000) (j:Nat) (hj:j<7): ∃g,([.func (.func 58) [] [], .func (.func 59) [] [], .func (.func 61) [] [], .func (.func 62) [] [], .func (.func 63) [] [], .func (.func 64) [] [], .func (.func 65) [] []]:List DVal)[j]? =some (.func (.func g) [] [])/\ ∀r H,H r=some (rdO l 0)->Ae Tryz.prog G g [.optr r 0] H (RdR r l H ((Pp l j).mp dE)):=by
 have ha:=fun r=>Dl8 (r:=r) hG hl (Dy l);have hne:=Au4 (l:=l) j;have hj':j=0\/j=1\/j=2\/j=3\/j=4\/j=5\/j=6:=by omega
 rcases hj' with rfl | rfl | rfl | rfl | rfl | rfl | rfl
 ·exact⟨_,rfl,fun r H hr=>(ha r).expr H 0 hr (by omega) (Az hne)⟩
 ·exact⟨_,rfl,fun r H hr=>Bf4 hG hl r H hr⟩
 ·exact⟨_,rfl,fun r H hr=>(ha r).simple H 0 hr (by omega) (Az hne)⟩
 ·exact⟨_,rfl,fun r H hr=>(ha r).term H 0 hr (by omega) (Az hne)⟩
 ·exact⟨_,rfl,fun r H hr=>(ha r).factor H 0 hr (by omega) (Az hne)⟩
 ·exact⟨_,rfl,fun r H hr=>(ha r).primary H 0 hr (by omega) (Az hne)⟩
 ·exact⟨_,rfl,fun r H hr=>(ha r).name H 0 hr (by omega) (Az hne)⟩
def Au5 (p:Ex×Int×Int):DVal:= .tuple [dE p.1,dI p.2.1,dI p.2.2]
theorem Fc.ex0 {H H':Ab} (hs:Sub H H'):Fc H' (.agg [.int .u8 0, .int .u8 0, .int .i64 0, .str [], .nilSlice, .nilSlice, .int .i64 0, .int .i64 0, .int .i64 0]) H (dE ex0):=Fc.agg (Fc.ex (l:= []) (a:= []) hs (.exs0 hs) (.as0 hs))
set_option maxHeartbeats 4000000 in
theorem Tb (hG:GX G) (H:Ab) (level:Int) (hl:l.length<=800000) (hT:Ta l):Ae Tryz.prog G 11 [Dd l,dI level] H (Bo (Au5 (Dz l level)) H):=by
 refine Ac Tryz.func11 Tryz.call11 rfl (by kernel_rfl) ?_
 simp(disch:=omega)only[go_sem]
 intro r4 hr4;dsimp only at hr4
 have hs4:=fun z=>(Sub.refl H).new hr4 z
 simp(disch:=omega)only[go_sem]
 intro r8 hr8;dsimp only at hr8
 have n48:r4≠r8:=Ad hr8 (Aa _ _ _)
 have m48:=n48.symm
 have hr8':H r8=none:=(hs4 _).lo hr8
 simp(disch:=omega)only[go_sem]
 have hs8:=fun y=>((Sub.refl H).new hr4 (some (.cells [.int .u8 0, .int .u8 0, .int .i64 0, .str [], .nilSlice, .nilSlice, .int .i64 0, .int .i64 0, .int .i64 0] 27))).new hr8 y
 by_cases c0:level<0
 ·simp(disch:=omega)only[go_sem,c0,n48,m48]
  have hf:Dz l level=(ex0,0,2):=by rw[Dz,if_pos (.inl c0)]
  rw[hf]
  have hs:=fun y z=>((hs8 y).up hr4 z)
  exact Fc.fin (hs _ _) (Fc.tuple (.cons (Fc.ex0 (hs _ _)) (Df.keep (hs _ _) _))) ⟨rfl,rfl⟩
 ·by_cases c7:7<=level
  ·simp(disch:=omega)only[go_sem,c0,c7,n48,m48]
   have hf:Dz l level=(ex0,0,2):=by rw[Dz,if_pos (.inr c7)]
   rw[hf]
   have hs:=fun y z=>((hs8 y).up hr4 z)
   exact Fc.fin (hs _ _) (Fc.tuple (.cons (Fc.ex0 (hs _ _)) (Df.keep (hs _ _) _))) ⟨rfl,rfl⟩
  ·obtain⟨j,hj⟩: ∃j:Nat,level=j:=⟨level.toNat,by omega⟩
   subst hj
   obtain⟨g,hg1,hg2⟩:=Ch3 (l:=l) hG hl j (by omega)
   have hf:Dz l j=match Pp l j with
    | .ok x k=>if Hz x then(x,k,0) else(ex0,0,3)
    | .fail k=>(ex0,k,30)
    | .bot=>(ex0,0,0):=by rw[Dz,if_neg (by omega),jD]
   have hj7:(j:Int)<7:=by omega
   simp(disch:=omega)only[go_sem,c0,c7,n48,m48,hg1,jD,hj7]
   refine(Bp6 hG _ hl g (Pp l j) (Au4 j) hg2).mono ?_
   rintro _ H1 ⟨rfl,hH1⟩
   have had:=Dh7 (l:=l) j
   have hfit:=Cv7 hT j
   have hs1:Sub H H1:=by rw[hH1];exact hs8 _
   have g14:H1 r4=some (.cells [.int .u8 0, .int .u8 0, .int .i64 0, .str [], .nilSlice, .nilSlice, .int .i64 0, .int .i64 0, .int .i64 0] 27):=by rw[hH1];exact Af (Aa _ _ _) n48
   cases hres:Pp l j with
   | bot=>exact absurd hres (Au4 j)
   | fail k=>
    rw[hres] at hf
    rw[hf,Cu2]
    have hl0:=Ai ex0
    have ho0:=Bh ex0
    simp(disch:=omega)only[go_sem,dE,g14,hl0,ho0]
    have hs:=fun z=>hs1.up hr4 z
    exact Fc.fin (hs _) (Fc.tuple (.cons (Fc.ex0 (hs _)) (Df.keep (hs _) _))) ⟨rfl,rfl⟩
   | ok x k=>
    rw[hres] at hf hfit had
    rw[hf,Cu2]
    obtain⟨hb,hok⟩:=hfit x k rfl
    have hk:=had.2
    have hF:Fit x:=⟨by omega,hok⟩
    have hlx:=Ai x
    have hox:=Bh x
    simp(disch:=omega)only[go_sem,dE,g14,hlx,hox]
    refine(Eg hG _ x hF).mono ?_
    rintro _ H2 ⟨rfl,hH2⟩
    have g24:H2 r4=some (.cells (dEx x) 27):=by rw[hH2];exact Aa _ _ _
    have hs2:Sub H H2:=by rw[hH2];exact hs1.up hr4 _
    have hs:=fun z=>hs2.up hr4 z
    cases hm:Hz x with
    | true=>
     simp(disch:=omega)only[go_sem,g24,hlx,hox]
     exact Pl.sub (hs _) (.refl ⟨rfl,rfl⟩)
    | false=>
     simp(disch:=omega)only[go_sem,g24,hlx,hox]
     exact Fc.fin (hs _) (Fc.tuple (.cons (Fc.ex0 (hs _)) (Df.keep (hs _) _))) ⟨rfl,rfl⟩
end
end Go.Dl

-- Chapter 3: the package's writer: words, names.
namespace Go.Dl
open Go Go.Proofs
set_option maxRecDepth 100000
def WAt (B:Ab) (r:Nat) (ts:List Tok) (H:Ab):Prop:= ∃v,Er (upd B r (some (.cells [v] 241))) 31 4 ts.length (ts.flatMap Dw) v H
def WrC (P:Program) (G:Nat->DVal) (f:FuncId) (args:List DVal) (t:List Tok):Prop:=
 ∀B r ts H,B r=none->ts.length+t.length<=1000000000->WAt B r ts H->Ae P G f (.optr r 0::args) H (fun e H'=>e= .ret (.tuple [])/\WAt B r (ts++t) H')
section
variable {B B1 H H':Ab} {r x:Nat} {ts:List Tok}
theorem WAt.keep (h:WAt B r ts H) {o:DObj} (hx:B x=some o) (n:x≠r):H x=some o:=by
 obtain⟨v,h⟩:=h;exact h.keep (by rw[Aj _ _ _ _ n];exact hx)
theorem WAt.lo (h:WAt B r ts H) (hx:H x=none):B x=none/\x≠r:=by
 obtain⟨v,h⟩:=h;have:=h.sub.lo hx;simp only[upd] at this;split at this
 ·cases this
 ·exact⟨this,‹_›⟩
theorem WAt.frame (h:WAt B r ts H) (hx:H x=none) (o:DObj):WAt (upd B x (some o)) r ts (upd H x (some o)):=by
 have n:=(h.lo hx).2;obtain⟨v,h⟩:=h;refine⟨v, ?_⟩;rw[Qg n.symm];exact h.frame hx o
theorem WAt.less (h:WAt B r ts H) (s:Sub B1 B):WAt B1 r ts H:=by
 obtain⟨v,h⟩:=h;exact⟨v,h.less (s.both r _)⟩
theorem WAt.drop {o:DObj} (h:WAt (upd B x (some o)) r ts H) (hx:B x=none):WAt B r ts H:=h.less ((Sub.refl B).new hx _)
end
section
variable {G:Nat->DVal} {H:Ab}
theorem Ot (ts:List Tok) (t:Tok):(ts++ [t]).flatMap Dw=ts.flatMap Dw++Dw t:=by simp
set_option maxHeartbeats 4000000 in
theorem Gy (hG:GX G) (ws:List (List UInt8)):WrC Tryz.prog G 258 [dW ws] (ws.map Ak):=by
 intro B r ts H hB hlen hw;rw[jK] at hlen;refine Ac Tryz.func258 Tryz.call258 rfl (by kernel_rfl) ?_;simp(disch:=omega)only[go_sem,dW];obtain⟨I,hI⟩: ∃I:Nat->(Nat->DVal)->Ab->Prop,∀j env heap,I j env heap↔(env 0= .optr r 0/\env 7=dW ws/\env 8=dI ws.length/\env 9=dI j/\j<=ws.length/\WAt B r (ts++(ws.take j).map Ak) heap):=⟨_,fun _ _ _=>Iff.rfl⟩;refine Bt4.run I (fun j=>ws.length-j) 0 ((hI _ _ _).2 ?_) ?_
 ·simp(disch:=omega)only[go_sem];(repeat' apply And.intro)<;>(try first | rfl | assumption | omega);simpa using hw
 ·intro j env heap hi;obtain⟨e0,e7,e8,e9,hj,hwj⟩:=(hI _ _ _).1 hi;by_cases hlt:j<ws.length
  ·have hlt':(j:Int)<(ws.length:Int):=by omega
   have hw1:IntKind.i64.wrap ((j:Int)+1)=((j+1:Nat):Int):=by rw[IntKind.wrap_i64];omega
   have hget:(ws.map DVal.str)[j]? =some (.str ws[j]):=by rw[List.getElem?_map,List.getElem?_eq_getElem hlt];rfl
   have hml:(ws.map DVal.str).length=ws.length:=jK _;have htk:(ws.take (j+1)).map Ak=(ws.take j).map Ak++ [Ak ws[j]]:=by rw[List.take_add_one,List.getElem?_eq_getElem hlt,Option.toList_some,List.map_append,List.map_singleton]
   obtain⟨s,hse⟩: ∃s,s=ws[j]:=⟨_,rfl⟩;rw[<-hse] at hget htk;simp(disch:=omega)only[go_sem,e0,e7,e8,e9,hlt',dW,hget,hml,jD];intro r6 hr6;dsimp only at hr6;simp(disch:=omega)only[go_sem,e0,e7,e8,e9];obtain⟨v,hv⟩:=hwj;have gr:=hv.keep (Aa _ _ _);have n6:r≠r6:=Ad hr6 gr;have m6:=n6.symm;have hl2:(ts++(ws.take j).map Ak).length<=1000000000:=by rw[jC,jK,List.length_take];omega
   refine(Ac2 hG _ s).mono ?_;rintro _ H2 ⟨rfl,rfl⟩;cases hkb:So s with
   | true=>
    have hk:Ak s=⟨2,0,s,0⟩:=by rw[Ak,Je,hkb];rfl
    simp(disch:=omega)only[go_sem,e0,e7,e8,e9];refine Am (by kernel_rfl) pL7 (by kernel_rfl) ?_;simp(disch:=omega)only[go_sem,e0,e7,e8,e9,gr,n6,m6];intro r24 hr24;dsimp only at hr24;have n24:r≠r24:=Ad hr24 (Af gr n6);have m24:=n24.symm;have hv6:=(hv.new hr6 _).new hr24 (some (.cells (Dw (Ak s)) 31));simp(disch:=omega)only[go_sem,e0,e7,e8,e9,gr,n6,m6,n24,m24];rw[hk] at hv6;refine Er.append (m:=1) hv6 rfl (by omega) fun v2 H6 hv2=> ?_;have g6:=hv2.keep (Aa _ _ _);obtain⟨j1,j2⟩:=hv2.cell1;simp(disch:=omega)only[go_sem,e0,e7,e8,e9,g6,j1,j2];refine⟨j+1,_,Lq.refl _,(hI _ _ _).2 ?_,by omega⟩;simp(disch:=omega)only[go_sem,e0,e7,e8,e9,hw1];(repeat' apply And.intro)<;>(try first | rfl | assumption | omega);refine⟨v2, ?_⟩;have hv3:=hv2.at (Aa _ _ _) (some (.cells [v2] 241));rw[Gm] at hv3;rw[htk,<-jO,Ot,hk,jC,jQ];exact hv3
   | false=>
    have hk:Ak s=⟨4,0,s,0⟩:=by rw[Ak,Je,hkb];rfl
    simp(disch:=omega)only[go_sem,e0,e7,e8,e9];refine Am (by kernel_rfl) pL7 (by kernel_rfl) ?_;simp(disch:=omega)only[go_sem,e0,e7,e8,e9,gr,n6,m6];intro r24 hr24;dsimp only at hr24;have n24:r≠r24:=Ad hr24 (Af gr n6);have m24:=n24.symm;have hv6:=(hv.new hr6 _).new hr24 (some (.cells (Dw (Ak s)) 31));simp(disch:=omega)only[go_sem,e0,e7,e8,e9,gr,n6,m6,n24,m24];rw[hk] at hv6;refine Er.append (m:=1) hv6 rfl (by omega) fun v2 H6 hv2=> ?_;have g6:=hv2.keep (Aa _ _ _);obtain⟨j1,j2⟩:=hv2.cell1;simp(disch:=omega)only[go_sem,e0,e7,e8,e9,g6,j1,j2];refine⟨j+1,_,Lq.refl _,(hI _ _ _).2 ?_,by omega⟩;simp(disch:=omega)only[go_sem,e0,e7,e8,e9,hw1];(repeat' apply And.intro)<;>(try first | rfl | assumption | omega);refine⟨v2, ?_⟩;have hv3:=hv2.at (Aa _ _ _) (some (.cells [v2] 241));rw[Gm] at hv3;rw[htk,<-jO,Ot,hk,jC,jQ];exact hv3
  ·have:j=ws.length:=by omega
   subst this;have hlt': ¬(ws.length:Int)<(ws.length:Int):=by omega
   rw[List.take_length] at hwj;simp(disch:=omega)only[go_sem,e0,e7,e8,e9,hlt'];exact Pl.refl ⟨rfl,hwj⟩
end
end Go.Dl

-- Chapter 3: the package's writer: names, parts, bounds, operators, membership, choices.
namespace Go.Dl
open Go Go.Proofs
set_option maxRecDepth 100000
section
variable {G:Nat->DVal} {H B:Ab} {r:Nat} {ts:List Tok}
theorem WAt.ne {x:Nat} (h:WAt B r ts H) (hx:H x=none):r≠x:=fun e=>(h.lo hx).2 e.symm
def WQ (B:Ab) (r:Nat) (ts:List Tok) (e:DEnd) (H':Ab):Prop:=e= .ret (.tuple [])/\WAt B r ts H'
theorem Mh (hG:GX G) (s:List UInt8) {q:Nat} (hq:H q=none) (hB:B r=none) (hlen:ts.length+1<=1000000000) (hw:WAt B r ts H):Ae Tryz.prog G 258 [.optr r 0, .oslice 1 q 0 1 1] (upd H q (some (.cells [.str s] 9))) (WQ B r (ts++ [Ak s])):=by
 refine Ae.fzA q hq ?_;have n:r≠q:=hw.ne hq;simp only[fzs,fz,if_neg n,if_pos];exact Gy hG [s] B r ts H hB hlen hw
theorem Dz3 (hG:GX G) (s t:List UInt8) {q:Nat} (hq:H q=none) (hB:B r=none) (hlen:ts.length+2<=1000000000) (hw:WAt B r ts H):Ae Tryz.prog G 258 [.optr r 0, .oslice 1 q 0 2 2] (upd H q (some (.cells [.str s, .str t] 9))) (WQ B r (ts++ [Ak s,Ak t])):=by
 refine Ae.fzA q hq ?_;have n:r≠q:=hw.ne hq;simp only[fzs,fz,if_neg n,if_pos];exact Gy hG [s,t] B r ts H hB hlen hw
theorem Tc (G:Nat->DVal) (s:List UInt8):WrC Tryz.prog G 259 [.str s] [Jm s]:=by
 intro B r ts H hB hlen hw;rw[jQ] at hlen;refine Ac Tryz.func259 Tryz.call259 rfl (by kernel_rfl) ?_;simp(disch:=omega)only[go_sem];obtain⟨v,hv⟩:=hw;have gr:=hv.keep (Aa _ _ _);simp(disch:=omega)only[go_sem,gr];intro r6 hr6;dsimp only at hr6;have n6:r≠r6:=Ad hr6 gr;have m6:=n6.symm;have hv6:=hv.new hr6 (some (.cells (Dw (Jm s)) 31));simp(disch:=omega)only[go_sem,gr,n6,m6];refine Er.append (m:=1) hv6 rfl (by omega) fun v2 H6 hv2=> ?_;have g6:=hv2.keep (Aa _ _ _);obtain⟨j1,j2⟩:=hv2.cell1;simp(disch:=omega)only[go_sem,g6,j1,j2];refine Pl.refl ⟨rfl,v2, ?_⟩;have hv3:=hv2.at (Aa _ _ _) (some (.cells [v2] 241));rw[Gm] at hv3;rw[Ot,jC,jQ];exact hv3
end
section
variable {G:Nat->DVal}
set_option maxHeartbeats 4000000 in
theorem Cc (hG:GX G) (e:Ex) (lv:Int) (he:WrC Tryz.prog G 187 [.agg (dEx e)] (Ag e)):WrC Tryz.prog G 260 [.agg (dEx e),dI lv] (Ay e lv):=by
 intro B r ts H hB hlen hw;refine Ac Tryz.func260 Tryz.call260 rfl (by kernel_rfl) ?_;simp(disch:=omega)only[go_sem,DVal.cells];intro r4 hr4;dsimp only at hr4;obtain⟨K,hK⟩: ∃K',K'=upd H r4 (some (.cells (dEx e) 27)):=⟨_,rfl⟩;rw[<-hK];have gr4:K r4=some (.cells (dEx e) 27):=by rw[hK];exact Aa _ _ _
 have hwK:WAt (upd B r4 (some (.cells (dEx e) 27))) r ts K:=by rw[hK];exact hw.frame hr4 _
 have n4:r≠r4:=hw.ne hr4;have hB4:B r4=none:=(hw.lo hr4).1;have hBK:upd B r4 (some (.cells (dEx e) 27)) r=none:=by rw[Aj _ _ _ _ n4];exact hB
 simp(disch:=omega)only[go_sem,gr4];refine(Jz G K e).mono ?_;rintro _ K1 ⟨rfl,rfl⟩;by_cases c:Ao e<lv
 ·have c': ¬lv<=Ao e:=by omega
  have hp:Ay e lv=Ak Br::(Ag e++ [Ak Cb]):=by rw[Ay,decide_eq_true c];rfl
  rw[hp] at hlen⊢
  simp only[jA,jC,jB] at hlen;simp(disch:=omega)only[go_sem,c'];intro q1 hq1;dsimp only at hq1;simp(disch:=omega)only[go_sem];refine(Mh hG Br hq1 hBK (by omega) hwK).mono ?_;rintro _ H1 ⟨rfl,h1⟩;have g1:=h1.keep (Aa _ _ _) n4.symm;simp(disch:=omega)only[go_sem,g1];refine(he _ r _ _ hBK (by simp;omega) h1).mono ?_;rintro _ H2 ⟨rfl,h2⟩;simp(disch:=omega)only[go_sem];intro q2 hq2;dsimp only at hq2;simp(disch:=omega)only[go_sem];refine(Mh hG Cb hq2 hBK (by simp;omega) h2).mono ?_;rintro _ H3 ⟨rfl,h3⟩;simp(disch:=omega)only[go_sem];refine Pl.refl ⟨rfl, ?_⟩;have:=h3.drop hB4;simpa using this
 ·have c':lv<=Ao e:=by omega
  have hp:Ay e lv=Ag e:=by rw[Ay,decide_eq_false c];rfl
  rw[hp] at hlen⊢
  simp(disch:=omega)only[go_sem,c',gr4];refine(he _ r _ _ hBK hlen hwK).mono ?_;rintro _ H1 ⟨rfl,h1⟩;simp(disch:=omega)only[go_sem];exact Pl.refl ⟨rfl,h1.drop hB4⟩
end
end Go.Dl

-- Chapter 3: expressions: the plain laws, part 9: reading without the lines.
namespace Go.Dl
open Go
set_option maxRecDepth 10000
mutual
/-- Without lines, entities, types. -/
def stE:Ex->Ex
 | .mk k o n s l a _ _ _=> .mk k o n s (stL l) (Af5 a) 0 0 0
def stL:List Ex->List Ex
 | []=> []
 | x::l=>stE x::stL l
def stA:As->As
 | .mk c e=> .mk (Af6 c) (stE e)
def Af5:List As->List As
 | []=> []
 | x::l=>stA x::Af5 l
def stC:Ch->Ch
 | .mk k l=> .mk k (stL l)
def Af6:List Ch->List Ch
 | []=> []
 | x::l=>stC x::Af6 l
end
theorem Uv: ∀l:List Ex,stL l=l.map stE
 | []=>rfl
 | x::l=>by rw[stL,Uv l,jN]
theorem Af7: ∀l:List As,Af5 l=l.map stA
 | []=>rfl
 | x::l=>by rw[Af5,Af7 l,jN]
theorem Af8: ∀l:List Ch,Af6 l=l.map stC
 | []=>rfl
 | x::l=>by rw[Af6,Af8 l,jN]
theorem Af9 (e:Ex):(stE e).kind=e.kind:=by cases e;rfl
theorem Cv8 (e:Ex):(stE e).oper=e.oper:=by cases e;rfl
theorem Dx2 (e:Ex):(stE e).n=e.n:=by cases e;rfl
theorem Dx3 (e:Ex):(stE e).s=e.s:=by cases e;rfl
theorem Cv9 (e:Ex):(stE e).l=e.l.map stE:=by cases e;exact Uv _
theorem Dm4 (e:Ex):(stE e).a=e.a.map stA:=by cases e;exact Af7 _
theorem Nk (e:Ex):(stE e).line=0:=by cases e;rfl
theorem Ag0 (x:As):(stA x).c=x.c.map stC:=by cases x;exact Af8 _
theorem Dm5 (x:As):(stA x).e=stE x.e:=by cases x;rfl
theorem Uw (c:Ch):(stC c).kind=c.kind:=by cases c;rfl
theorem Cw0 (c:Ch):(stC c).l=c.l.map stE:=by cases c;exact Uv _
theorem Dg (e:Ex):stE e= .mk e.kind e.oper e.n e.s (e.l.map stE) (e.a.map stA) 0 0 0:=by cases e;rw[stE,Uv,Af7];rfl
theorem Td (x:As):stA x= .mk (x.c.map stC) (stE x.e):=by cases x;rw[stA,Af8];rfl
theorem Ag1 (c:Ch):stC c= .mk c.kind (c.l.map stE):=by cases c;rw[stC,Uv];rfl
mutual
theorem Ag2: ∀e f:Ex,Jk e f=true↔stE e=stE f
 | .mk k o n s l a li en t, .mk k' o' n' s' l' a' li' en' t'=>by
  rw[Jk,stE,stE]
  show(decide (k=k')&&decide (o=o')&&decide (n=n')&&decide (s=s')&&Gu l l'&&Ij a a')=true↔_
  simp only[jF,decide_eq_true_eq,Ag3 l l',An6 a a',Ex.mk.injEq,and_true,and_assoc]
theorem Ag3: ∀l m:List Ex,Gu l m=true↔stL l=stL m
 | [],[]=>by simp [Gu,stL]
 | [],y::m=>by simp [Gu,stL]
 | x::l,[]=>by simp [Gu,stL]
 | x::l,y::m=>by rw[Gu,stL,stL,jF,Ag2 x y,Ag3 l m,List.cons.injEq]
theorem Cw1: ∀x y:As,Yc x y=true↔stA x=stA y
 | .mk c e, .mk c' e'=>by
  rw[Yc,stA,stA]
  show(Hu c c'&&Jk e e')=true↔_
  simp only[jF,An7 c c',Ag2 e e',As.mk.injEq]
theorem An6: ∀l m:List As,Ij l m=true↔Af5 l=Af5 m
 | [],[]=>by simp [Ij,Af5]
 | [],y::m=>by simp [Ij,Af5]
 | x::l,[]=>by simp [Ij,Af5]
 | x::l,y::m=>by rw[Ij,Af5,Af5,jF,Cw1 x y,An6 l m,List.cons.injEq]
theorem Cw2: ∀x y:Ch,Yd x y=true↔stC x=stC y
 | .mk k l, .mk k' l'=>by
  rw[Yd,stC,stC]
  show(decide (k=k')&&Gu l l')=true↔_
  simp only[jF,decide_eq_true_eq,Ag3 l l',Ch.mk.injEq]
theorem An7: ∀l m:List Ch,Hu l m=true↔Af6 l=Af6 m
 | [],[]=>by simp [Hu,Af6]
 | [],y::m=>by simp [Hu,Af6]
 | x::l,[]=>by simp [Hu,Af6]
 | x::l,y::m=>by rw[Hu,Af6,Af6,jF,Cw2 x y,An7 l m,List.cons.injEq]
end
theorem Ux (e:Ex):Bg (stE e)=Bg e:=by rw[Bg,Bg,Af9]
theorem Wx (l:List Ex) (i:Nat):(l.map stE).getD i ex0=stE (l.getD i ex0):=by
 rw[List.getD,List.getD,List.getElem?_map];cases l[i]? <;>rfl
theorem Iw {α β:Type} (f:α->β) (l:List α):(l.map f).isEmpty=l.isEmpty:=by cases l<;>rfl
theorem Ch4 (e:Ex) (k:Nat):Ge (stE e) k=Ge e k:=by
 rw[Ge,Ge,Cv9,jK,Wx,Ux]
theorem Ag4: ∀l:List As,Ly (l.map stA)=Ly l
 | []=>rfl
 | [_]=>rfl
 | a::b::r=>by
  have:=Ag4 (b::r);rw[jN] at this;rw[jN,jN,Ly,Ly,this,Ag0,Ag0,Iw,Iw]
theorem Bf5 (l:List Ch):Cn (l.map stC)=Cn l:=by
 match l with
 | []=>rfl
 | [.mk k []]=>rfl
 | [.mk k [x]]=>show(decide _&&decide ((stE x).kind=3))=_;rw[Af9];rfl
 | [.mk k (x::y::r)]=>rfl
 | c::d::r=>rfl
theorem Ch5 (n:Nat) (c:Ch):Dp n (stC c)=Dp n c:=by simp only[Dp,Uw,Cw0,jK]
theorem all_map {α β:Type} (f:α->β) (p:β->Bool) (l:List α):(l.map f).all p=l.all fun x=>p (f x):=by rw[List.all_map];rfl
theorem Bq2 (l:List Ch):Ck (l.map stC)=Ck l:=by
 simp only[Ck,jK,all_map,Ch5]
theorem Ch6 (l:List As):Ii (l.map stA)=Ii l:=by
 simp only[Ii,jK,Ag4,all_map,Ag0,Iw,Bf5]
theorem Ag5 (l:List Ch):Iu (l.map stC)=Iu l:=by
 cases l with
 | nil=>rfl
 | cons c r=>simp only[jN,Iu,Uw]
theorem Yh: ∀l:List As,Ew (l.map stA)=Ew l
 | []=>rfl
 | a::r=>by simp only[jN,Ew,Yh r,Ag0,Iw,Bq2,Ag5]
theorem Ag6 (l:List As):Mu (l.map stA)=Mu l:=by
 match l with
 | []=>rfl
 | [a]=>show(stA a).c.isEmpty=_;rw[Ag0,Iw];rfl
 | _::_::_=>rfl
theorem Bf6 (l:List As):Fk (l.map stA)=Fk l:=by
 simp only[Fk,jK,Ag4,Ag6,Yh]
theorem Ch7 (e:Ex):Au (stE e)=Au e:=by
 simp only[Au,zO,zN,zS,zA,Ch4,Af9,Cv8,Dx2,Dx3,Cv9,Dm4,Iw,jK,Ch6,Bf6,Wx,Ux]
theorem Ou {α β γ:Type} (f:α->β) (g:β->List γ) (l:List α):(l.map f).flatMap g=l.flatMap fun x=>g (f x):=by
 induction l with
 | nil=>rfl
 | cons x l ih=>rw[jN,List.flatMap_cons,List.flatMap_cons,ih]
theorem Ch8 (x:As):Ct (stA x)=(Ct x).map stE:=by
 rw[Ct,Ct,Ag0,Dm5,Ou,List.map_append,List.map_flatMap,List.map_singleton];congr 1;simp only[Cw0]
theorem Bf7 (e:Ex):parts (stE e)=(parts e).map stE:=by
 rw[parts,parts,Cv9,Dm4,Ou,List.map_append,List.map_flatMap];simp only[Ch8]
theorem Dh8 (e:Ex):Ev (stE e)=Ev e:=by
 refine Ex.ind (p:=fun e=>Ev (stE e)=Ev e) (fun e ih=> ?_) e;rw[Lg,Lg e,Bf7,Hl,Hl,List.map_map];congr 2;exact List.map_congr_left ih
theorem Cw3 (e:Ex): ∀d,Ed d (stE e)=Ed d e:=by
 refine Ex.ind (p:=fun e=> ∀d,Ed d (stE e)=Ed d e) (fun e ih d=> ?_) e;rw[Lh,Lh d e,Ch7,Bf7,all_map];congr 1;rw[Bool.eq_iff_iff,List.all_eq_true,List.all_eq_true];exact⟨fun h x hx=>by rw[<-ih x hx];exact h x hx,fun h x hx=>by rw[ih x hx];exact h x hx⟩
theorem Bw3 (e:Ex):Hz (stE e)=Hz e:=by rw[Hz,Hz,Cw3,Dh8]
theorem Bf8 {e f:Ex} (h:stE e=stE f):Hz e=Hz f:=by rw[<-Bw3 e,h,Bw3]
def stT (t:Tok):Tok:=⟨t.kind,0,t.text,t.n⟩
section
variable {l:List Tok}
theorem Bw4 (k:Nat):tk (l.map stT) k=stT (tk l k):=by
 rw[tk,tk,List.getD,List.getD,List.getElem?_map];cases l[k]? <;>rfl
theorem Mb (k:Nat):(tk (l.map stT) k).kind=(tk l k).kind:=by rw[Bw4];rfl
theorem Ov (k:Nat):(tk (l.map stT) k).text=(tk l k).text:=by rw[Bw4];rfl
theorem Dh9 (k:Nat):(tk (l.map stT) k).n=(tk l k).n:=by rw[Bw4];rfl
theorem In (k:Nat):(tk (l.map stT) k).line=0:=by rw[Bw4];rfl
theorem Ka: ∀(ws:List (List UInt8)) (k:Nat),isW (l.map stT) k ws=isW l k ws
 | [],_=>rfl
 | s::r,k=>by rw[isW,isW,Mb,Ov,Ka r]
theorem Qs (want k:Nat): ∀os:List Nat,opF (l.map stT) want k os=opF l want k os
 | []=>rfl
 | o::r=>by rw[opF,opF,Ka,Qs want k r]
def Nt {α β:Type} (f:α->β):Res α->Res β->Prop
 | .bot,r=>r= .bot
 | .fail k,r=>r= .fail k
 | .ok x k,r=>r= .ok (f x) k
theorem By {α α' β β':Type} {f:α->α'} {g:β->β'} {r:Res α} {r':Res α'} {F:α->Nat->Res β} {F':α'->Nat->Res β'} (h:Nt f r r') (k: ∀x j,Nt g (F x j) (F' (f x) j)):Nt g (r.then F) (r'.then F'):=by
 cases r with
 | bot=>cases h;exact rfl
 | fail j=>cases h;exact rfl
 | ok x j=>cases h;exact k x j
theorem Cd {α β:Type} {f:α->β} {c:Prop} [Decidable c] {a b:Res α} {a' b':Res β} (h:Nt f a a') (k:Nt f b b'):Nt f (if c then a else b) (if c then a' else b'):=by
 split
 ·exact h
 ·exact k
theorem Gi {α β:Type} {f:α->β} {x:α} {y:β} {k:Nat} (h:y=f x):Nt f (.ok x k) (.ok y k):=by rw[h];exact rfl
theorem Ie {α β:Type} {f:α->β} {k:Nat}:Nt f (.fail k) (.fail k):=rfl
theorem Zi (o:Nat) (x y:Ex):stE (both o x y)=both o (stE x) (stE y):=by
 simp only[Dg (both o x y),both,Nk];rfl
theorem Bw5 (o:Nat) (li:Int) (x:Ex):stE (Jv o li x)=Jv o 0 (stE x):=by
 unfold Jv;split
 ·rfl
 ·rw[Dg];rfl
theorem Di0 (li:Int) (az:List As):stE (Ac9 li az)=Ac9 0 (az.map stA):=by
 match az with
 | []=>rfl
 | [x]=>
  show stE (if x.c= [] then x.e else _)=if(stA x).c= [] then(stA x).e else _
  rw[Ag0,Dm5]
  by_cases c:x.c= []
  ·rw[if_pos c,if_pos (by rw[c];rfl)]
  ·rw[if_neg c,if_neg (by simpa using c),Dg];rfl
 | x::y::r=>show stE (.mk 9 0 0 [] [] _ li 0 0)=_;rw[Dg];rfl
structure PS.Nat (p q:PS):Prop where
 expr: ∀k,Nt stE (p.expr k) (q.expr k)
 rest: ∀x k,Nt stE (p.rest x k) (q.rest (stE x) k)
 restL: ∀o x k,Nt stE (p.restL o x k) (q.restL o (stE x) k)
 relation: ∀x k,Nt stE (p.relation x k) (q.relation (stE x) k)
 simple: ∀k,Nt stE (p.simple k) (q.simple k)
 addL: ∀x k,Nt stE (p.addL x k) (q.addL (stE x) k)
 term: ∀k,Nt stE (p.term k) (q.term k)
 mulL: ∀x k,Nt stE (p.mulL x k) (q.mulL (stE x) k)
 factor: ∀k,Nt stE (p.factor k) (q.factor k)
 primary: ∀k,Nt stE (p.primary k) (q.primary k)
 paren: ∀k,Nt stE (p.paren k) (q.paren k)
 assoc: ∀k,Nt stA (p.assoc k) (q.assoc k)
 assocsL: ∀a k,Nt (List.map stA) (p.assocsL a k) (q.assocsL (a.map stA) k)
 choice: ∀k,Nt stC (p.choice k) (q.choice k)
 choicesL: ∀a k,Nt (List.map stC) (p.choicesL a k) (q.choicesL (a.map stC) k)
 arg: ∀k,Nt stA (p.arg k) (q.arg k)
 argsL: ∀a k,Nt (List.map stA) (p.argsL a k) (q.argsL (a.map stA) k)
 name: ∀k,Nt stE (p.name k) (q.name k)
 nameL: ∀i x k,Nt stE (p.nameL i x k) (q.nameL 0 (stE x) k)
theorem Bw6 {p q:PS} (h:p.Nat q) (x:Ex) (kind:Int) (k:Nat):Nt stE (inK l x kind k p) (inK (l.map stT) (stE x) kind k q):=by
 unfold inK;simp only[Ka];refine By (h.simple _) fun y j=> ?_;simp only[Ux];exact Cd (By (h.simple _) fun z i=>Gi (by rw[Nk,Dg (.mk _ _ _ _ _ _ _ _ _)];rfl)) (Cd (Gi (by rw[Nk,Dg (.mk _ _ _ _ _ _ _ _ _)];rfl)) Ie)
theorem Ch9 {p q:PS} (h:p.Nat q):(Aw l p).Nat (Aw (l.map stT) q) where
 expr k:=By (h.simple k) fun x k=>h.rest x k
 rest x k:=By (h.relation x k) fun x k=>by simp only[Qs];exact h.restL _ x k
 restL o x k:=by
  dsimp only[Aw];simp only[Qs]
  exact Cd (Gi rfl) (Cd (Gi rfl) (By (h.simple _) fun y k=>By (h.relation y k) fun y k=>by rw[<-Zi];exact h.restL _ _ k))
 relation x k:=by
  dsimp only[Aw];simp only[Qs,Ka]
  exact Cd (By (h.simple _) fun y k=>Gi (Zi _ _ _).symm) (Cd (Bw6 h _ _ _) (Cd (Bw6 h _ _ _) (Gi rfl)))
 simple k:=by
  dsimp only[Aw];simp only[Qs,In]
  exact By (h.term _) fun x k'=>by rw[<-Bw5 _ (tk l k).line];exact h.addL _ _
 addL x k:=by
  dsimp only[Aw];simp only[Qs]
  exact Cd (Gi rfl) (By (h.term _) fun y k=>by rw[<-Zi];exact h.addL _ _)
 term k:=By (h.factor k) fun x k=>h.mulL x k
 mulL x k:=by
  dsimp only[Aw];simp only[Qs]
  exact Cd (Gi rfl) (By (h.factor _) fun y k=>by rw[<-Zi];exact h.mulL _ _)
 factor k:=by
  dsimp only[Aw];simp only[Qs,In]
  exact By (h.primary _) fun x k'=>Gi (Bw5 _ _ _).symm
 primary k:=by
  dsimp only[Aw];simp only[Ka,Mb,Dh9,In]
  exact Cd (Gi (by rw[Dg (.mk _ _ _ _ _ _ _ _ _)];rfl)) (Cd (Gi (by rw[Dg (.mk _ _ _ _ _ _ _ _ _)];rfl)) (Cd (h.paren k) (h.name k)))
 paren k:=by
  dsimp only[Aw,Cx];simp only[Ka,In]
  refine Cd (Cd (By (h.expr _) fun a k=>Cd (By (h.expr _) fun b k=>Cd (By (h.expr _) fun c k=>Cd (Gi (by rw[Dg (.mk _ _ _ _ _ _ _ _ _)];rfl)) Ie) Ie) Ie) ?_) Ie
  exact By (h.assoc _) fun a k=>By (h.assocsL [a] k) fun az k=>Cd (Gi (Di0 _ _).symm) Ie
 assoc k:=by
  dsimp only[Aw,Cx];simp only[Ka]
  refine By (h.choice k) fun c k=> ?_
  rw[Uw,Cw0,Wx]
  exact Cd (Gi (by rw[Td (.mk _ _)];rfl)) (Cd (Cd (By (h.expr _) fun e k=>Gi (by rw[Td (.mk _ _)];rfl)) Ie) (By (h.choicesL [c] k) fun cs k=>Cd (By (h.expr _) fun e k=>Gi (by rw[Td (.mk _ _)];rfl)) Ie))
 assocsL az k:=by
  dsimp only[Aw];simp only[Ka]
  exact Cd (By (h.assoc _) fun a k=>by
   have:=h.assocsL (az++ [a]) k
   rw[List.map_append] at this;exact this) (Gi rfl)
 choice k:=by
  dsimp only[Aw];simp only[Ka]
  exact Cd (Gi (by rw[Ag1 (.mk _ _)];rfl)) (By (h.simple k) fun x k=>Cd (By (h.simple _) fun y k=>Gi (by rw[Ag1 (.mk _ _)];rfl)) (By (h.rest x k) fun y k=>Gi (by rw[Ag1 (.mk _ _)];rfl)))
 choicesL az k:=by
  dsimp only[Aw];simp only[Ka]
  exact Cd (By (h.choice _) fun a k=>by
   have:=h.choicesL (az++ [a]) k
   rw[List.map_append] at this;exact this) (Gi rfl)
 arg k:=by
  dsimp only[Aw];simp only[Ka,Mb,Ov,In]
  exact Cd (By (h.expr _) fun e k=>Gi (by rw[Td (.mk _ _)];rfl)) (By (h.expr _) fun e k=>Gi (by rw[Td (.mk _ _)];rfl))
 argsL az k:=by
  dsimp only[Aw];simp only[Ka]
  exact Cd (By (h.arg _) fun a k=>by
   have:=h.argsL (az++ [a]) k
   rw[List.map_append] at this;exact this) (Gi rfl)
 name k:=by
  dsimp only[Aw,Fs];simp only[Mb,Ov,In]
  refine Cd ?_ Ie
  have:=h.nameL (tk l k).line (.mk 3 0 0 (tk l k).text [] [] (tk l k).line 0 0) (k+1)
  rw[Dg (.mk _ _ _ _ _ _ _ _ _)] at this
  exact this
 nameL i x k:=by
  have hn: ∀y z j,stE y=z->Nt stE (p.nameL i y j) (q.nameL 0 z j):=fun y z j e=>by rw[<-e];exact h.nameL i y j
  dsimp only[Aw,Fs,Cx];simp only[Ka,Mb,Ov]
  refine Cd (hn _ _ _ (by rw[Dg (.mk _ _ _ _ _ _ _ _ _)];rfl)) (Cd (Cd (hn _ _ _ (by rw[Dg (.mk _ _ _ _ _ _ _ _ _)];rfl)) Ie) (Cd ?_ (Cd ?_ (Cd (Cd (hn _ _ _ (by rw[Dg (.mk _ _ _ _ _ _ _ _ _)];rfl)) Ie) (Gi rfl)))))
  ·exact By (h.arg _) fun a k=>By (h.argsL [a] k) fun az k=>Cd (hn _ _ _ (by rw[Dg (.mk _ _ _ _ _ _ _ _ _)];rfl)) Ie
  ·exact By (h.paren _) fun y k=>hn _ _ _ (by rw[Dg (.mk _ _ _ _ _ _ _ _ _)];rfl)
theorem Dm6: ∀m,(P l m).Nat (P (l.map stT) m)
 | 0=>by constructor<;>intros<;>exact rfl
 | m+1=>Ch9 (Dm6 m)
theorem Dx4:(Q l).Nat (Q (l.map stT)):=by
 have:=Dm6 (l:=l) (Dy l);rw[Q,Q,Dy,Dy,jK];exact this
end
end Go.Dl

-- Chapter 3: expressions: the plain laws, part 10: what reading asks of the first token, and of the one behind.
namespace Go.Dl
open Go
set_option maxRecDepth 10000
theorem Ag7 {α β γ:Type} (r:Res α) (f:α->Nat->Res β) (g:β->Nat->Res γ):(r.then f).then g=r.then fun x k=>(f x k).then g:=by cases r<;>rfl
def w5:List (List UInt8):= [Ik,Br,Fm]
def w3:List (List UInt8):=w5++ [[42],[47],Dv5,Dv6]
def w2:List (List UInt8):=w3++ [[43],[45]]
def w2d:List (List UInt8):=w2++ [Ee]
def w1:List (List UInt8):=w2d++ [[61],[47,61],[60],[60,61],[62],[62,61],wIn,Lz]
def w0:List (List UInt8):=w1++ [Bc6,wOr,Dg4]
def nof (ws:List (List UInt8)) (t:Tok):Prop:= ∀s∈ws,¬(t.kind=Je s/\t.text=s)
instance (ws:List (List UInt8)) (t:Tok):Decidable (nof ws t):=inferInstanceAs (Decidable (∀s∈ws,¬(t.kind=Je s/\t.text=s)))
theorem Ig {ws ws':List (List UInt8)} {t:Tok} (h:nof ws t) (hs: ∀s∈ws',s∈ws):nof ws' t:=fun s m=>h s (hs s m)
theorem Dx5 (ws:List (List UInt8)):nof ws Wd:=fun s _ h=>Ad0 s h.1.symm
class Rdr (l:outParam (List Tok)) (p:PS):Prop where
 fix:p.Fix l
 adv:p.Adv l
instance (l:List Tok):Rdr l (Q l):=⟨Dw9,Dm1⟩
theorem Ag8 {ws:List (List UInt8)} {t:Tok} (h:t.kind=1\/t.kind=3):nof ws t:=fun s _ e=>by
 have:=Ch2 (s:=s);rcases h with h | h
 ·rw[h] at e;exact this.1 e.1.symm
 ·rw[h] at e;exact this.2.1 e.1.symm
section
variable {l:List Tok} {k k':Nat} {s:List UInt8}
theorem Eh {t:List UInt8} (h:isW l k [t]=false) (r:List (List UInt8)):isW l k (t::r)=false:=by
 rw[Af1] at h;rw[isW,h];rfl
theorem Fb {ws:List (List UInt8)} (h:nof ws (tk l k)) (hs:s∈ws) (r:List (List UInt8)):isW l k (s::r)=false:=by
 refine Eh ?_ r;have:=h s hs;rw[Af1];by_cases c1:(tk l k).kind=Je s
 ·by_cases c2:(tk l k).text=s
  ·exact absurd ⟨c1,c2⟩ this
  ·rw[decide_eq_false c2,Bool.and_false]
 ·rw[decide_eq_false c1,jT]
theorem Zj {ws:List (List UInt8)} {os:List Nat} {want:Nat} (h:nof ws (tk l k)) (ho:(os.all fun o=>(Aq o).head?.any fun s=>decide (s∈ws))=true):opF l want k os=(0,k):=by
 refine Af2 fun o hm=> ?_;have:=List.all_eq_true.1 ho o hm;cases hw:Aq o with
 | nil=>rw[hw] at this;simp at this
 | cons s r=>
  rw[hw] at this;exact Fb h (by simpa using this) r
theorem Fx (h:isW l k [s]=true):(tk l k).kind≠1/\(tk l k).kind≠3/\k<l.length:=by
 rw[Af1,jF,decide_eq_true_eq,decide_eq_true_eq] at h;rw[h.1];exact⟨Ch2.1,Ch2.2.1,Ks (by rw[h.1];exact Ad0 s)⟩
theorem Rk {os:List Nat} {want:Nat} (h:isW l k [s]=true) (ho:(os.all fun o=>(Aq o).head?.any fun t=>decide (s≠t))=true):opF l want k os=(0,k):=by
 refine Af2 fun o hm=> ?_;have:=List.all_eq_true.1 ho o hm;cases hw:Aq o with
 | nil=>rw[hw] at this;simp at this
 | cons t r=>
  rw[hw] at this;exact Eh (Dt h (by simpa using this)) r
variable {p:PS} [hr:Rdr l p]
theorem Bq3 (hk:k<=l.length):p.expr k=(p.simple k).then fun x k=>p.rest x k:=hr.fix.expr k hk
theorem Cw4 (x:Ex) (hk:k<=l.length):p.rest x k=(p.relation x k).then fun x k=>p.restL (opF l 0 k De).1 x k:=hr.fix.rest x k hk
theorem Au6 (o:Nat) (x:Ex) (hk:k<=l.length):p.restL o x k=if o=0 then .ok x k else if(opF l o k De).1=0 then .ok x k else(p.simple (opF l o k De).2).then fun y k=>(p.relation y k).then fun y k=>p.restL o (both o x y) k:=hr.fix.restL o x k hk
theorem Mc (x:Ex) (hk:k<=l.length):p.relation x k=if(opF l 0 k Il).1≠0 then(p.simple (opF l 0 k Il).2).then fun y j=> .ok (both (opF l 0 k Il).1 x y) j else if isW l k [wIn] then inK l x 13 (k+1) p else if isW l k [Lz,wIn] then inK l x 14 (k+2) p else .ok x k:=hr.fix.relation x k hk
theorem Ag9 (hk:k<=l.length):p.simple k=(p.term (opF l 0 k Ek).2).then fun x k'=>p.addL (Jv (opF l 0 k Ek).1 (tk l k).line x) k':=hr.fix.simple k hk
theorem Cw5 (x:Ex) (hk:k<=l.length):p.addL x k=if(opF l 0 k Ok).1=0 then .ok x k else(p.term (opF l 0 k Ok).2).then fun y j=>p.addL (both (opF l 0 k Ok).1 x y) j:=hr.fix.addL x k hk
theorem Cw6 (hk:k<=l.length):p.term k=(p.factor k).then fun x k=>p.mulL x k:=hr.fix.term k hk
theorem Cw7 (x:Ex) (hk:k<=l.length):p.mulL x k=if(opF l 0 k Ol).1=0 then .ok x k else(p.factor (opF l 0 k Ol).2).then fun y j=>p.mulL (both (opF l 0 k Ol).1 x y) j:=hr.fix.mulL x k hk
theorem Uy (hk:k<=l.length):p.factor k=(p.primary (opF l 0 k Gf).2).then fun x k'=> .ok (Jv (opF l 0 k Gf).1 (tk l k).line x) k':=hr.fix.factor k hk
theorem Nl (hk:k<=l.length):p.primary k=if(tk l k).kind=3 then .ok (.mk 1 0 (tk l k).n [] [] [] (tk l k).line 0 0) (k+1) else if isW l k [Mv] then .ok (.mk 2 0 0 [] [] [] (tk l k).line 0 0) (k+1) else if isW l k [Br] then p.paren k else p.name k:=hr.fix.primary k hk
theorem Bw7 (hk:k<=l.length):p.paren k=Cx l Br k fun k1=>
  if isW l k1 [wIf] then(p.expr (k1+1)).then fun a k=>Cx l Jl k fun k=>(p.expr k).then fun b k=>Cx l Ki k fun k=>(p.expr k).then fun c k'=>Cx l Cb k' fun k'=> .ok (.mk 10 0 0 [] [a,b,c] [] (tk l (k1-1)).line 0 0) k'
  else(p.assoc k1).then fun a k=>(p.assocsL [a] k).then fun az k=>Cx l Cb k fun k=> .ok (Ac9 (tk l (k1-1)).line az) k:=hr.fix.paren k hk
theorem Au7 (hk:k<=l.length):p.assoc k=(p.choice k).then fun c k=>
  if c.kind=1/\isW l k [Fl]=false/\isW l k [Bd]=false then .ok (.mk [] (c.l.getD 0 ex0)) k
  else if c.kind=3 then Cx l Bd k fun k=>(p.expr k).then fun e k=> .ok (.mk [c] e) k
  else(p.choicesL [c] k).then fun cs k=>Cx l Bd k fun k=>(p.expr k).then fun e k=> .ok (.mk cs e) k:=hr.fix.assoc k hk
theorem An8 (az:List As) (hk:k<=l.length):p.assocsL az k=if isW l k [Gv] then(p.assoc (k+1)).then fun a k=>p.assocsL (az++ [a]) k else .ok az k:=hr.fix.assocsL az k hk
theorem Uz (hk:k<=l.length):p.choice k=if isW l k [Gn] then .ok (.mk 3 []) (k+1) else
  (p.simple k).then fun x k=>if isW l k [Ee] then(p.simple (k+1)).then fun y k=> .ok (.mk 2 [x,y]) k
   else(p.rest x k).then fun x k=> .ok (.mk 1 [x]) k:=hr.fix.choice k hk
theorem Bq4 (cs:List Ch) (hk:k<=l.length):p.choicesL cs k=if isW l k [Fl] then(p.choice (k+1)).then fun c k=>p.choicesL (cs++ [c]) k else .ok cs k:=hr.fix.choicesL cs k hk
theorem Dm7 (hk:k<=l.length):p.arg k=if(tk l k).kind=1/\isW l (k+1) [Bd]=true then(p.expr (k+2)).then fun e k'=> .ok (.mk [.mk 1 [.mk 3 0 0 (tk l k).text [] [] (tk l k).line 0 0]] e) k'
  else(p.expr k).then fun e k=> .ok (.mk [] e) k:=hr.fix.arg k hk
theorem Di1 (az:List As) (hk:k<=l.length):p.argsL az k=if isW l k [Gv] then(p.arg (k+1)).then fun a k=>p.argsL (az++ [a]) k else .ok az k:=hr.fix.argsL az k hk
theorem Au8 (hk:k<=l.length):p.name k=Fs l k fun s k1=>p.nameL (tk l k).line (.mk 3 0 0 s [] [] (tk l k).line 0 0) k1:=hr.fix.name k hk
theorem Rl (line:Int) (x:Ex) (hk:k<=l.length):p.nameL line x k=if isW l k [Ik,Ql] then p.nameL line (.mk 5 0 0 [] [x] [] line 0 0) (k+2)
  else if isW l k [Ik] then Fs l (k+1) fun s k=>p.nameL line (.mk 4 0 0 s [x] [] line 0 0) k
  else if isW l k [Br] then(p.arg (k+1)).then fun a k=>(p.argsL [a] k).then fun az k=>Cx l Cb k fun k=>p.nameL line (.mk 7 0 0 [] [x] az line 0 0) k
  else if isW l k [Fm,Br] then(p.paren (k+1)).then fun y k=>p.nameL line (.mk 8 0 0 [] [x,y] [] line 0 0) k
  else if isW l k [Fm] then Fs l (k+1) fun s k=>p.nameL line (.mk 6 0 0 s [x] [] line 0 0) k
  else .ok x k:=hr.fix.nameL line x k hk
def Wy:List (List UInt8):= [Mv,Br,Cf5,Lz,[43],[45]]
theorem Wz (h:isW l k [s]=true) (h1:s≠Mv) (h2:s≠Br):p.primary k= .fail k:=by
 obtain⟨a,b,c⟩:=Fx h;have hk:k<=l.length:=by omega
 rw[Nl hk,if_neg b,Dt h h1,Dt h h2,if_neg (by simp),if_neg (by simp),Au8 hk,Fs,if_neg a]
theorem Cw8 (h:isW l k [s]=true) (h1:s≠Mv) (h2:s≠Br) (h3:s≠Cf5) (h4:s≠Lz):p.factor k= .fail k:=by
 obtain⟨a,b,c⟩:=Fx h;have hk:k<=l.length:=by omega
 rw[Uy hk,Rk h (by simp [Gf,show Aq 21= [Lz] from rfl,show Aq 20= [Cf5] from rfl,h3,h4]),Wz h h1 h2];rfl
theorem Xa (h:isW l k [s]=true) (h1:s≠Mv) (h2:s≠Br) (h3:s≠Cf5) (h4:s≠Lz):p.term k= .fail k:=by
 obtain⟨a,b,c⟩:=Fx h;rw[Cw6 (by omega),Cw8 h h1 h2 h3 h4];rfl
theorem Qt (h:isW l k [s]=true) (hs:s∉Wy):p.simple k= .fail k:=by
 simp only[Wy,List.mem_cons,List.not_mem_nil,or_false,not_or] at hs;obtain⟨h1,h2,h3,h4,h5,h6⟩:=hs;obtain⟨a,b,c⟩:=Fx h;rw[Ag9 (by omega),Rk h (by simp [Ek,show Aq 19= [[45]] from rfl,show Aq 18= [[43]] from rfl,h5,h6]),Xa h h1 h2 h3 h4];rfl
theorem Ci0 (h:isW l k [s]=true) (hs:s∉Wy):p.expr k= .fail k:=by
 obtain⟨a,b,c⟩:=Fx h;rw[Bq3 (by omega),Qt h hs];rfl
theorem Xb {y:Ex} (h:p.simple k= .ok y k') (hs:s∉Wy):isW l k [s]=false:=by
 cases c:isW l k [s] with
 | false=>rfl
 | true=>rw[Qt c hs] at h;cases h
theorem Di2 {y:Ex} (h:p.expr k= .ok y k') (hs:s∉Wy):isW l k [s]=false:=by
 cases c:isW l k [s] with
 | false=>rfl
 | true=>rw[Ci0 c hs] at h;cases h
theorem An9 {i:Int} {x:Ex} (hk:k<=l.length) (h:nof w5 (tk l k)):p.nameL i x k= .ok x k:=by
 rw[Rl i x hk,Fb h (by decide),Fb h (by decide),Fb h (by decide),Fb h (by decide),Fb h (by decide)];rfl
theorem Xc {x:Ex} (hk:k<=l.length) (h:nof w3 (tk l k)):p.mulL x k= .ok x k:=by
 rw[Cw7 x hk,Zj h (by decide)];rfl
theorem Xd {x:Ex} (hk:k<=l.length) (h:nof w2 (tk l k)):p.addL x k= .ok x k:=by
 rw[Cw5 x hk,Zj h (by decide)];rfl
theorem Cw9 {x:Ex} (hk:k<=l.length) (h:nof w1 (tk l k)):p.relation x k= .ok x k:=by
 rw[Mc x hk,Zj h (by decide),Fb h (by decide),Fb h (by decide)];rfl
theorem Bq5 {x:Ex} (hk:k<=l.length):p.restL 0 x k= .ok x k:=by rw[Au6 0 x hk];rfl
theorem Te {o:Nat} {x:Ex} (hk:k<=l.length) (h:nof w0 (tk l k)):p.restL o x k= .ok x k:=by
 rw[Au6 o x hk,Zj h (by decide)];simp
theorem Ix {x:Ex} (hk:k<=l.length) (h:p.primary k= .ok x k'):p.factor k= .ok x k':=by
 by_cases c:(opF l 0 k Gf).1=0
 ·have:=(Cl (want:=0) Dy7.2.2.2.2.2 hk).1 c;rw[Uy hk,c,this,h];rfl
 ·exfalso;obtain⟨h1,h2,h3⟩:=Au3 c;rcases Dh6 h1 with e | e
  ·rw[e] at h3;rw[Wz (s:=Cf5) h3 (by decide) (by decide)] at h;cases h
  ·rw[e] at h3;rw[Wz (s:=Lz) h3 (by decide) (by decide)] at h;cases h
theorem Iy {x:Ex} (hk:k<=l.length) (h:p.factor k= .ok x k'):p.term k=p.mulL x k':=by rw[Cw6 hk,h];rfl
theorem Hm {x:Ex} (hk:k<=l.length) (hk':k'<=l.length) (h:p.term k=p.mulL x k') (hn:nof w3 (tk l k')):p.simple k=p.addL x k':=by
 rw[Xc hk' hn] at h;by_cases c:(opF l 0 k Ek).1=0
 ·have:=(Cl (want:=0) Dy7.2.2.1 hk).1 c;rw[Ag9 hk,c,this,h];rfl
 ·exfalso;obtain⟨h1,h2,h3⟩:=Au3 c;rcases Cv4 h1 with e | e
  ·rw[e] at h3;rw[Xa (s:= [43]) h3 (by decide) (by decide) (by decide) (by decide)] at h;cases h
  ·rw[e] at h3;rw[Xa (s:= [45]) h3 (by decide) (by decide) (by decide) (by decide)] at h;cases h
def Xe (p:PS) (k:Nat):Res Ex:=(p.simple k).then fun x k=>p.relation x k
theorem Iz {x:Ex} (hk':k'<=l.length) (h:p.simple k=p.addL x k') (hn:nof w1 (tk l k')):Xe p k= .ok x k':=by
 rw[Xe,h,Xd hk' (Ig hn (by decide))];exact Cw9 hk' hn
theorem Ah0 (hk:k<=l.length):p.expr k=(Xe p k).then fun x k=>p.restL (opF l 0 k De).1 x k:=by
 rw[Bq3 hk,Xe,Ag7];have ha:=hr.adv.simple k hk;cases c:p.simple k with
 | bot=>rfl
 | fail j=>rfl
 | ok x j=>
  rw[c] at ha;exact Cw4 x ha.2
theorem Ci1 {x y:Ex} {j:Nat} (hj:j<=l.length) (hd:isW l j [Ee]=true) (h:p.rest x j= .ok y k'):k'=j:=by
 have e1:opF l 0 j Il=(0,j):=Rk hd (by decide);have e2:opF l 0 j De=(0,j):=Rk hd (by decide);have e3:isW l j [wIn]=false:=Dt hd (by decide);have e4:isW l j [Lz,wIn]=false:=Eh (Dt hd (by decide)) _;have e5:p.relation x j= .ok x j:=by rw[Mc x hj,e1,e3,e4];rfl
 rw[Cw4 x hj,e5] at h;change p.restL (opF l 0 j De).1 x j=_ at h;rw[e2,Bq5 hj] at h;cases h;rfl
theorem Yi {y:Ex} (hk:k<=l.length) (h:p.expr k= .ok y k') (hd:isW l k' [Ee]=false):p.choice k= .ok (.mk 1 [y]) k':=by
 rw[Uz hk,Di2 h (s:=Gn) (by decide)];rw[Bq3 hk] at h;have ha:=hr.adv.simple k hk;cases c:p.simple k with
 | bot=>rw[c] at h;cases h
 | fail j=>rw[c] at h;cases h
 | ok x j=>
  rw[c] at h ha;change p.rest x j=_ at h;show(if isW l j [Ee] then _ else _)=_;cases cd:isW l j [Ee] with
  | true=>rw[Ci1 ha.2 cd h,cd] at hd;cases hd
  | false=>
   show(p.rest x j).then _=_
   rw[h];rfl
theorem Ah1 {y:Ex} (hk:k<=l.length) (h:p.expr k= .ok y k') (hd:isW l k' [Ee]=false) (hb:isW l k' [Fl]=false) (ha:isW l k' [Bd]=false):p.assoc k= .ok (.mk [] y) k':=by
 rw[Au7 hk,Yi hk h hd];show(if _ then _ else _)=_;rw[if_pos ⟨rfl,hb,ha⟩];rfl
theorem Cx0 {x:As} (h:p.assoc k= .ok x k') (hs:s∉Wy) (ho:s≠Gn):isW l k [s]=false:=by
 cases c:isW l k [s] with
 | false=>rfl
 | true=>
  have hk:k<=l.length:=by have:=(Fx c).2.2;omega
  rw[Au7 hk,Uz hk,Dt c ho,Qt c hs] at h;cases h
theorem Va {a:As} {az:List As} {j j':Nat} (h0:isW l k [Br]=true) (h1:p.assoc (k+1)= .ok a j) (h2:p.assocsL [a] j= .ok az j') (h3:isW l j' [Cb]=true):p.paren k= .ok (Ac9 (tk l k).line az) (j'+1):=by
 have hk:k<=l.length:=by have:=(Fx h0).2.2;omega
 rw[Bw7 hk,Cx,if_pos h0,Cx0 h1 (s:=wIf) (by decide) (by decide),if_neg (by simp),h1];show(p.assocsL [a] j).then _=_
 rw[h2];show Cx l Cb j' _=_;rw[Cx,if_pos h3,Nat.add_sub_cancel]
theorem Di3 (h:isW l k [Cb]=true):isW l k [Ee]=false/\isW l k [Fl]=false/\isW l k [Bd]=false/\isW l k [Gv]=false:=⟨Dt h (by decide),Dt h (by decide),Dt h (by decide),Dt h (by decide)⟩
theorem Tf {y:Ex} (h0:isW l k [Br]=true) (h1:p.expr (k+1)= .ok y k') (h3:isW l k' [Cb]=true):p.paren k= .ok y (k'+1):=by
 obtain⟨a,b,c,d⟩:=Di3 h3;have hk:k<l.length:=(Fx h0).2.2;have hk':k'<l.length:=(Fx h3).2.2;rw[Va (a:= .mk [] y) (az:= [.mk [] y]) h0 (Ah1 (by omega) h1 a b c) (by rw[An8 _ (by omega),d];rfl) h3];rfl
theorem Ow (h0:isW l k [Br]=true):p.primary k=p.paren k:=by
 obtain⟨a,b,c⟩:=Fx h0;rw[Nl (by omega),if_neg b,Dt h0 (t:=Mv) (by decide),h0];rfl
theorem Ao0 (hk:k<=l.length) (h:(tk l k).kind=1):p.primary k=p.name k:=by
 have hn:nof [Mv,Br] (tk l k):=Ag8 (.inl h);rw[Nl hk,if_neg (by rw[h];decide),Fb hn (by decide),Fb hn (by decide)];rfl
theorem Bq6 {y:Ex} (h:p.expr k= .ok y k') (h1:(tk l k).kind=1) (h2:isW l (k+1) [Bd]=true):k'=k+1:=by
 have hk:k<l.length:=Ks (by rw[h1];decide);have hn: ∀ws,(∀s∈ws,s≠Bd)->nof ws (tk l (k+1)):=fun ws hs s hm ⟨e1,e2⟩=>by
  rw[Af1,jF,decide_eq_true_eq,decide_eq_true_eq] at h2;exact hs s hm (e2.symm.trans h2.2)
 have hp:p.primary k= .ok (.mk 3 0 0 (tk l k).text [] [] (tk l k).line 0 0) (k+1):=by
  rw[Ao0 (by omega) h1,Au8 (by omega),Fs,if_pos h1,An9 (by omega) (hn _ (by decide))]
 have hr:=Iz (by omega) (Hm (by omega) (by omega) (Iy (by omega) (Ix (by omega) hp)) (hn _ (by decide))) (hn _ (by decide));rw[Ah0 (by omega),hr] at h;change p.restL _ _ (k+1)=_ at h;rw[Te (by omega) (hn _ (by decide))] at h;cases h;rfl
theorem Cx1 {y:Ex} (hk:k<=l.length) (h:p.expr k= .ok y k') (ha:isW l k' [Bd]=false):p.arg k= .ok (.mk [] y) k':=by
 rw[Dm7 hk,if_neg,h]
 ·rfl
 ·rintro⟨h1,h2⟩;rw[Bq6 h h1 h2,h2] at ha;cases ha
end
end Go.Dl
