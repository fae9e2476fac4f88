/- The data level and the contracts of the functions that are reached (part 10). -/
import Derived.Test.YtddbdpcgikmiaaaGreatDoorPki
set_option linter.unusedSimpArgs false
set_option linter.unusedVariables false
set_option linter.unusedSectionVars false
-- Chapter 3: ExprDeep: the plain law.
namespace Go.Dl
open Go Go.Proofs
set_option maxRecDepth 10000
def Dj5:List Tok:=(Bv [110,111,116,32,40]).1
def Bx6:List Tok:=(Bv [41]).1
def Np:Nat->List Tok
 | 0=> [nmX]
 | n+1=>Dj5++Np n++Bx6
def Gj:Nat->Ex
 | 0=>exX
 | n+1=> .mk 11 21 0 [] [Gj n] [] 0 0 0
def Pf:Nat->List Tok
 | 0=> [nmX]
 | n+1=>Ak Lz::Ak Br::(Pf n++ [Ak Cb])
theorem Dj6:Dj5.map stT= [Ak Lz,Ak Br]:=by decide+kernel
theorem Cy9:Bx6.map stT= [Ak Cb]:=by decide+kernel
theorem Vj: ∀n,(Np n).map stT=Pf n
 | 0=>rfl
 | n+1=>by
  rw[Np,List.map_append,List.map_append,Vj n,Dj6,Cy9];rfl
theorem Nq: ∀n,(Pf n).length=3*n+1
 | 0=>rfl
 | n+1=>by
  show(Pf n++ [Ak Cb]).length+1+1=_;rw[jC,Nq n,jQ];omega
theorem Ap0 (n:Nat):(Np n).length=3*n+1:=by rw[<-Nq n,<-Vj,jK]
theorem Ai1: ∀n,stE (Gj n)=Gj n
 | 0=>rfl
 | n+1=>by rw[Gj,stE,stL,stL,Ai1 n];rfl
theorem Bg8 (n:Nat):Ao (Gj (n+1))=4:=rfl
theorem Bx7 {l:List Tok} {p:PS} [hr:Rdr l p] (hz: ∀k,(tk l k).line=0): ∀n k,At l k (Pf n)->Rd l p (Gj n) k (k+(Pf n).length)
 | 0,k,h=>by
  have ht:Ag exX= [Jm [120]]:=Bf1 rfl;have:=Dt4 (p:=p) hz exX 1 (by decide+kernel) k (by rw[ht];exact h);rw[ht] at this;exact this
 | n+1,k,h=>by
  have h1:At l (k+1) (Ak Br::(Pf n++ [Ak Cb])):=At.tail h;have h2:At l (k+1+1) (Pf n++ [Ak Cb]):=At.tail h1;have h3:=h2.right;have r:Rd l p (Gj n) _ _:=Bx7 hz n (k+1+1) h2.left;have hs:=At.word h3;have he:=r.full (by rw[h3.head.1];decide+kernel);obtain⟨q1,q2⟩:=Ao1 (want:=0) (o:=21) (.inr (.inr (.inr (.inr ⟨by simp [Gf],rfl⟩)))) (show At l k ((Aq 21).map Ak++(Ak Br::(Pf n++ [Ak Cb]))) from h) (.inl rfl);refine .of4 ⟨h.1,h.le⟩ (Bg8 n) fun _=> ?_;rw[Uy (p:=p) h.1,q1];show(p.primary (k+1)).then _=_
  rw[Ow (At.word h1),Tf (At.word h1) he hs];show Res.ok (Jv 21 (tk l k).line (stE (Gj n))) _=_;rw[hz,Ai1,Ai1,Nq,Nq];show Res.ok (Gj (n+1)) _=_;congr 1;omega
theorem Ap1 {l:List Tok} {n:Nat} (hl:l.map stT=Pf n):(Q (l.map stT)).expr 0= .ok (stE (Gj n)) (3*n+1):=by
 have r:=Bx7 (p:=Q (l.map stT)) (fun k=>In k) n 0 ⟨Nat.zero_le _,[],by rw[jJ,hl,jH]⟩;have:=r.full (by rw[Bv2 (by rw[hl];omega)];exact Dx5 _);rw[Nat.zero_add,Nq] at this;exact this
theorem Ai2: ∀n:Fin 40,Hz (Gj n.1)=decide (n.1<=31):=by decide+kernel
theorem Br8 {l:List Tok} {n:Nat} (hl:l.map stT=Pf n) (hn:n<=31): ∃x,Dz l 0=(x,((3*n+1:Nat):Int),0)/\stE x=stE (Gj n):=
 Cy8 (by have:=Ai2 ⟨n,by omega⟩;dsimp only at this;rw[this,decide_eq_true hn]) (Ap1 hl)
theorem Ck1 {l:List Tok} {n:Nat} (hl:l.map stT=Pf n) (hn:31<n) (h40:n<40):Dz l 0=(ex0,0,3):=by
 obtain⟨x,g1,g2⟩:=Bx4 (Bx5 0) (show Pp (l.map stT) 0=_ from Ap1 hl);have hf:Dz l (0:Nat)=(ex0,0,3):=by
  rw[Dz,if_neg (by omega),jD,g1];show(if Hz x=true then _ else _)=_;have:=Ai2 ⟨n,h40⟩;dsimp only at this;rw[if_neg (by rw[Bf8 g2,this,decide_eq_false (by omega)];simp)]
 exact hf
def nb1:Ex:= .mk 1 0 1 [] [] [] 0 0 0
def nb2:Ex:= .mk 1 0 2 [] [] [] 0 0 0
def exF:Ex:= .mk 3 0 0 [102] [] [] 0 0 0
def Yu:As:= .mk [] nb1
def Ck2:As:= .mk [.mk 1 [nb1]] nb1
def Xm:Ch:= .mk 2 [nb1,nb2]
def Bg9 (k:Nat):Ex:= .mk 7 0 0 [] [exF] (List.replicate k Yu) 0 0 0
def Cz0 (k:Nat):Ex:= .mk 9 0 0 [] [] (List.replicate k Ck2) 0 0 0
def Bh0 (k:Nat):Ex:= .mk 9 0 0 [] [] [.mk (List.replicate k Xm) nb1] 0 0 0
theorem Ap2: ∀k:Fin 41,1<=k.1->Hz (Bg9 k.1)=decide (k.1<=8)/\Hz (Cz0 k.1)=decide (k.1<=32)/\Bv1 (List.replicate k.1 Xm)=decide (k.1<=16)/\Hz (Bh0 k.1)=decide (k.1<=16)/\Dk9 (List.replicate k.1 Yu)=decide (k.1<=8):=by decide+kernel
end Go.Dl

-- Chapter 3: ExprDeep.
namespace Go.Dl
open Go Go.Proofs
set_option maxRecDepth 100000
theorem Dj7: ∀t∈Dj5,t.text.length<=9223372036854775807:=by decide+kernel
theorem Cz1: ∀t∈Bx6,t.text.length<=9223372036854775807:=by decide+kernel
theorem Bh1: ∀n,fT (Np n)
 | 0=>Dj3 (by decide) Dt6
 | n+1=>Ao9 (Ao9 Dj7 (Bh1 n)) Cz1
theorem Cz2: ∀n:Fin 40,Cz (Gj n.1)<=1000:=by decide+kernel
theorem Bx8: ∀n,okE (Gj n)
 | 0=>⟨by decide,trivial,trivial⟩
 | n+1=>⟨by decide,⟨Bx8 n,trivial⟩,trivial⟩
def aC:List DVal:= .nilSlice::dEx nb1
def bC:List DVal:= .vslice (dCh (.mk 1 [nb1])) 1::dEx nb1
def cC:List DVal:=dCh Xm
theorem Dn3:aC= [.nilSlice, .int .u8 1, .int .u8 0, .int .i64 1, .str [], .vslice [] 0, .vslice [] 0, .int .i64 0, .int .i64 0, .int .i64 0]:=by rw[aC,nb1,Al];rfl
theorem Br9:dEx nb1= [.int .u8 1, .int .u8 0, .int .i64 1, .str [], .vslice [] 0, .vslice [] 0, .int .i64 0, .int .i64 0, .int .i64 0]:=by rw[nb1,Al];rfl
theorem Cz3:dC (.mk (Xj [nb1].length) [nb1])= .agg [.int .u8 1, .vslice (dEx nb1) 1]:=by rw[dC,Ba];simp [Xj]
theorem Aw2:dC (.mk (Xj [nb1,nb2].length) [nb1,nb2])= .agg [.int .u8 2, .vslice (dEx nb1++dEx nb2) 2]:=by rw[dC,Ba];simp [Xj]
theorem Bx9:bC= [.vslice [.int .u8 1, .vslice (dEx nb1) 1] 1, .int .u8 1, .int .u8 0, .int .i64 1, .str [], .vslice [] 0, .vslice [] 0, .int .i64 0, .int .i64 0, .int .i64 0]:=by rw[bC,Br9,Ba];simp [Br9]
theorem Sa:cC= [.int .u8 2, .vslice (dEx nb1++dEx nb2) 2]:=by rw[cC,Xm,Ba];simp
theorem Bs0:aC.length=10:=by rw[aC,jA,Ai]
theorem Ai3:bC.length=10:=by rw[bC,jA,Ai]
theorem Ra (H:Ab) (r:Nat):Sub (upd H r none) H:=fun b o hb=>by
 by_cases e:b=r
 ·subst e;rw[Aa] at hb;cases hb
 ·rw[Aj _ _ _ _ e] at hb;exact hb
theorem Fg (i:Nat) (z:List DVal):Bj (i+1) z=Bj i z++z:=by
 unfold Bj;rw[List.replicate_succ',List.flatten_append];simp
theorem Lc {i:Nat} (hi:i≠0) (x:DVal) (xs:List DVal): ∃t,Bj i (x::xs)=x::t:=by
 obtain⟨j,rfl⟩: ∃j,i=j+1:=⟨i-1,by omega⟩;exact⟨_,by unfold Bj;rw[List.replicate_succ,List.flatten_cons,jI]⟩
theorem cne {x y:DVal} {xs ys:List DVal} {e f:TypeId} (h:x≠y):DObj.cells (x::xs) e≠ .cells (y::ys) f:=fun k=>by
 injection k with k;injection k with k;exact h k
theorem cte {xs ys:List DVal} {e f:TypeId} (h:e≠f):DObj.cells xs e≠ .cells ys f:=fun k=>by
 injection k with _ k;exact h k
theorem By0 (i:Nat) {e f:TypeId}:DObj.cells (Bj (i+1) aC) e≠ .cells (Bj i bC) f:=by
 obtain⟨t,h⟩:=Lc (Nat.succ_ne_zero i) .nilSlice (dEx nb1);rw[show aC= .nilSlice::dEx nb1 from rfl,h];by_cases hi:i=0
 ·subst hi;intro k;cases k
 ·obtain⟨u,h2⟩:=Lc hi (.vslice (dCh (.mk 1 [nb1])) 1) (dEx nb1);rw[show bC= .vslice (dCh (.mk 1 [nb1])) 1::dEx nb1 from rfl,h2];exact cne (fun k=>by cases k)
theorem By1 (i r:Nat) {xs:List DVal} {e f:TypeId}:DObj.cells (Bj (i+1) aC) e≠ .cells (Bj i bC++ .oslice 2 r 0 1 1::xs) f:=by
 obtain⟨t,h⟩:=Lc (Nat.succ_ne_zero i) .nilSlice (dEx nb1);rw[show aC= .nilSlice::dEx nb1 from rfl,h];by_cases hi:i=0
 ·subst hi;exact cne (fun k=>by cases k)
 ·obtain⟨u,h2⟩:=Lc hi (.vslice (dCh (.mk 1 [nb1])) 1) (dEx nb1);rw[show bC= .vslice (dCh (.mk 1 [nb1])) 1::dEx nb1 from rfl,h2];exact cne (fun k=>by cases k)
theorem Yn (i:Nat) {xs:List DVal} {e f:TypeId}:DObj.cells (.int .u8 1::xs) e≠ .cells (Bj i cC) f:=by
 by_cases hi:i=0
 ·subst hi;intro k;cases k
 ·obtain⟨u,h2⟩:=Lc hi (.int .u8 2) [.vslice (dEx nb1++dEx nb2) 2];rw[Sa,h2];exact cne (fun k=>by injection k with _ k;exact absurd k (by decide))
def Bs1 (H:Ab) (e:TypeId) (size n:Nat) (cs:List DVal) (v:DVal) (K:Ab):Prop:=
 (n=0/\cs= []/\v= .nilSlice)\/(n≠0/\ ∃q,H q=none/\v= .oslice size q 0 n n/\K q=some (.cells cs e))
section
variable {H K M B:Ab} {e:TypeId} {size n:Nat} {cs:List DVal} {v:DVal}
theorem Bs1.up (h:Bs1 H e size n cs v K) (f:n≠0-> ∀q,K q=some (.cells cs e)->M q=some (.cells cs e)):Bs1 H e size n cs v M:=by
 rcases h with h | ⟨h,q,a,b,c⟩
 ·exact .inl h
 ·exact .inr ⟨h,q,a,b,f h q c⟩
theorem Bs1.j (h:Bs1 H e size n cs v M) (hl:cs.length=n*size) (s:Sub H M): ∃B,Sub H B/\Er B e size n cs v M/\ ∀b o,M b=some o->o≠ .cells cs e->B b=some o:=by
 rcases h with⟨h,a,b⟩ | ⟨h,q,a,b,c⟩
 ·exact⟨M,s, .inl ⟨h,a,b, .refl _⟩,fun _ _ h _=>h⟩
 ·refine⟨upd M q none,s.up a _, .inr ⟨q,Aa _ _ _,hl,b,c,Ra _ _⟩,fun b' o h1 h2=> ?_⟩;have:b'≠q:=fun e=>by rw[e,c] at h1;cases h1;exact h2 rfl
  rw[Aj _ _ _ _ this];exact h1
theorem Bs1.of (h:Er B e size n cs v M) (s:Sub H B) (hn:n≠0):Bs1 H e size n cs v M:=by
 rcases h with⟨h,_⟩ | ⟨q,a,b,c,d,_⟩
 ·exact absurd h hn
 ·exact .inr ⟨hn,q,s.lo a,c,d⟩
end
theorem Ap3: ∀k:Fin 41,Cz (Bg9 k.1)<=1000/\Cz (Cz0 k.1)<=1000/\Gp (List.replicate k.1 Xm)<=1000/\Cz (Bh0 k.1)<=1000/\Dm (List.replicate k.1 Yu)<=1000:=by decide+kernel
theorem Bh2 {a:As} (h:okA a): ∀k,Jy (List.replicate k a)
 | 0=>trivial
 | k+1=>⟨h,Bh2 h k⟩
theorem By2 {a:Ch} (h:okC a): ∀k,Ro (List.replicate k a)
 | 0=>trivial
 | k+1=>⟨h,By2 h k⟩
theorem Tj:okE nb1:=⟨by decide,trivial,trivial⟩
theorem Dt9:okE nb2:=⟨by decide,trivial,trivial⟩
theorem Aw3:okC Xm:=⟨Tj,Dt9,trivial⟩
theorem By3 (k:Nat):okE (Bg9 k):=⟨by decide,⟨⟨by decide,trivial,trivial⟩,trivial⟩,Bh2 (a:=Yu) ⟨trivial,Tj⟩ k⟩
theorem Cz4 (k:Nat):okE (Cz0 k):=⟨by decide,trivial,Bh2 (a:=Ck2) ⟨⟨⟨Tj,trivial⟩,trivial⟩,Tj⟩ k⟩
theorem By4 (k:Nat):okE (Bh0 k):=⟨by decide,trivial,⟨By2 Aw3 k,Tj⟩,trivial⟩
theorem Vk {α:Type} (f:α->List DVal) (x:α): ∀k,(List.replicate k x).flatMap f=Bj k (f x)
 | 0=>rfl
 | k+1=>by rw[List.replicate_succ,List.flatMap_cons,Vk f x k];unfold Bj;rw[List.replicate_succ,List.flatten_cons]
theorem Df.rep {K T:Ab} {a b:List DVal} (h:Df K a T b): ∀k,Df K (Bj k a) T (Bj k b)
 | 0=> .nil
 | k+1=>by
  rw[Fg,Fg];exact Df.append (Df.rep h k) h
section
variable {K:Ab} {q k:Nat}
theorem Cz5 {e:TypeId} (hz:Sub h0 K) (h:K q=some (.cells [.int .u8 3, .int .u8 0, .int .i64 0, .str [102], .vslice [] 0, .vslice [] 0, .int .i64 0, .int .i64 0, .int .i64 0] e)):Fc K (.oslice 9 q 0 1 1) h0 (dXs [exF]):=by
 have e1: [exF].flatMap dEx= [.int .u8 3, .int .u8 0, .int .i64 0, .str [102], .vslice [] 0, .vslice [] 0, .int .i64 0, .int .i64 0, .int .i64 0]:=by rw[List.flatMap_singleton,exF,Al];rfl
 show Fc K _ h0 (.vslice ([exF].flatMap dEx) 1);rw[e1];exact Fc.block hz rfl h rfl
theorem Aw4 {e:TypeId} (hz:Sub h0 K) (h:K q=some (.cells (Bj k aC) e)):Fc K (.oslice 10 q 0 k k) h0 (dAl (List.replicate k Yu)):=by
 rw[dAl,Vk,List.length_replicate,Yu,Jh];exact Fc.cells hz rfl h (by rw[Bs,Bs0]) (Df.rep (.cons (Fc.nil hz) (.keep hz _)) k)
theorem Cz6 {e:TypeId} (hz:Sub h0 K) (h:K q=some (.cells (Bj k bC) e)):Fc K (.oslice 10 q 0 k k) h0 (dAl (List.replicate k Ck2)):=by
 rw[dAl,Vk,List.length_replicate,Ck2,Jh,List.flatMap_singleton];exact Fc.cells hz rfl h (by rw[Bs,Ai3]) (.keep hz _)
theorem Bs2 {e:TypeId} (hz:Sub h0 K) (h:K q=some (.cells (Bj k cC) e)):Fc K (.oslice 2 q 0 k k) h0 (dCl (List.replicate k Xm)):=by
 rw[dCl,Vk,List.length_replicate];exact Fc.cells hz rfl h (by rw[Bs,Sa];rfl) (.keep hz _)
theorem Cz7 {e f:TypeId} {qc:Nat} (hz:Sub h0 K) (h:K q=some (.cells [.oslice 2 qc 0 k k, .int .u8 1, .int .u8 0, .int .i64 1, .str [], .vslice [] 0, .vslice [] 0, .int .i64 0, .int .i64 0, .int .i64 0] e)) (hc:K qc=some (.cells (Bj k cC) f)):Fc K (.oslice 10 q 0 1 1) h0 (dAl [.mk (List.replicate k Xm) nb1]):=by
 show Fc K _ h0 (.vslice ([As.mk (List.replicate k Xm) nb1].flatMap dAs) 1);rw[List.flatMap_singleton,Jh,Br9];exact Fc.cells hz rfl h rfl (.cons (Bs2 hz hc) (.keep hz _))
end
structure Lp (H:Ab) (r13 r14 qf i:Nat) (v va vb:DVal) (K:Ab):Prop where
 sub:Sub H K
 h13:H r13=none
 h14:H r14=none
 hf:H qf=none
 gf:K qf=some (.cells [.int .u8 3, .int .u8 0, .int .i64 0, .str [102], .vslice [] 0, .vslice [] 0, .int .i64 0, .int .i64 0, .int .i64 0] 27)
 g13:K r13=some (.cells [.int .u8 7, .int .u8 0, .int .i64 0, .str [], .oslice 9 qf 0 1 1,va, .int .i64 0, .int .i64 0, .int .i64 0] 27)
 g14:K r14=some (.cells [.int .u8 9, .int .u8 0, .int .i64 0, .str [], .nilSlice,vb, .int .i64 0, .int .i64 0, .int .i64 0] 27)
 a:Bs1 H 44 10 i (Bj i aC) va K
 b:Bs1 H 44 10 i (Bj i bC) vb K
 c:Bs1 H 47 2 i (Bj i cC) v K
section
variable {G:Nat->DVal}
set_option maxHeartbeats 8000000 in
theorem Ak2 (hG:GX G) (H:Ab) (o w:Nat) (ho:o<256) (hw:w<256):
  Ae Tryz.prog G 3 [.int .u8 o, .int .u8 w] H (Bo (.bool true) H):=by
 have hdc: ∀l:List Tok,(Dd l).cells= [Dd l]:=fun _=>rfl;have hdo: ∀l:List Tok,(Dd l).one=true:=fun _=>rfl;obtain⟨n,hn⟩: ∃n,n=1+o%40:=⟨_,rfl⟩;obtain⟨k,hk⟩: ∃k,k=1+w%40:=⟨_,rfl⟩;have c1:IntKind.i64.wrap (o:Int)=o:=by rw[IntKind.wrap_i64];omega
 have c2:IntKind.i64.wrap (w:Int)=w:=by rw[IntKind.wrap_i64];omega
 have hn1:IntKind.i64.wrap (1+(o:Int).tmod 40)=n:=by rw[Int.tmod_eq_emod_of_nonneg (by omega),IntKind.wrap_i64];omega
 have hk1:IntKind.i64.wrap (1+(w:Int).tmod 40)=k:=by rw[Int.tmod_eq_emod_of_nonneg (by omega),IntKind.wrap_i64];omega
 refine Ac Tryz.func3 Tryz.call3 rfl (by kernel_rfl) ?_;simp(disch:=omega)only[go_sem,c1,c2,hn1,hk1];refine Ae.monoR (Ez G H [120]) ?_;have hlx:=Ai (nmE [120]);have hox:=Bh (nmE [120]);simp(disch:=omega)only[go_sem,dE,hlx,hox];intro r7 hr7;dsimp only at hr7;simp(disch:=omega)only[go_sem,hlx,hox];obtain⟨H1,hH1⟩: ∃K',K'=upd H r7 (some (.cells (dEx (nmE [120])) 27)):=⟨_,rfl⟩;rw[<-hH1];have gr7:H1 r7=some (.cells (dEx (nmE [120])) 27):=by rw[hH1];exact Aa _ _ _
 intro q8 hq8;dsimp only at hq8;simp(disch:=omega)only[go_sem,Ah,jA,jB,jE,jJ,jL,jH,jI,jG,List.getElem?_cons_zero,List.getElem?_cons_succ];obtain⟨H2,hH2⟩: ∃K',K'=upd H1 q8 (some (.cells [.int .u8 1, .int .i64 0, .str [120], .int .i64 0] 31)):=⟨_,rfl⟩;rw[<-hH2];have gq8:H2 q8=some (.cells [.int .u8 1, .int .i64 0, .str [120], .int .i64 0] 31):=by rw[hH2];exact Aa _ _ _
 have sH2:Sub H1 H2:=by rw[hH2];exact(Sub.refl _).new hq8 _
 have hv8:Er H1 31 4 1 (Dw nmX) (.oslice 4 q8 0 1 1) H2:= .inr ⟨q8,hq8,rfl,rfl,gq8,sH2⟩;obtain⟨I,hI⟩: ∃I:Nat->(Nat->DVal)->Ab->Prop,∀j env heap,I j env heap↔(env 5=dI n/\env 6=dI k/\env 7= .optr r7 0/\env 8=Dd (Np j)/\env 9=dI (j+1:Nat)/\j+1<=n/\heap=upd H r7 (some (.cells (dEx (Gj j)) 27))):=⟨_,fun _ _ _=>Iff.rfl⟩;refine Bt4.runG I (fun j=>n-j) 0 _ (Lq.fzSlot (k:=8) hv8) ((hI _ _ _).2 ?_) ?_
 ·simp(disch:=omega)only[go_sem];(repeat' apply And.intro)<;>(try first | rfl | assumption | omega)
 ·intro j E K hi;obtain⟨e5,e6,e7,e8,e9,hj,hK⟩:=(hI _ _ _).1 hi;have gK:K r7=some (.cells (dEx (Gj j)) 27):=by rw[hK];exact Aa _ _ _
  have sK:Sub H K:=by rw[hK];exact(Sub.refl H).new hr7 _
  have hlj:=Ai (Gj j);have hoj:=Bh (Gj j);by_cases hlt:j+1<n
  ·have hlt':((j+1:Nat):Int)<(n:Int):=by omega
   have hwj:IntKind.i64.wrap (((j+1:Nat):Int)+1)=((j+1+1:Nat):Int):=by rw[IntKind.wrap_i64];omega
   have hlj1:=Ai (Pq 21 (Gj j));have hoj1:=Bh (Pq 21 (Gj j));simp(disch:=omega)only[go_sem,e5,e6,e7,e8,e9,hlt',gK,hlj,hoj];refine Ae.monoR (Kc G K 21 (Gj j)) ?_;simp(disch:=omega)only[go_sem,e5,e6,e7,e8,e9,gK,dE,hlj,hlj1,hoj1];obtain⟨L,hL⟩: ∃L,L=upd H r7 (some (.cells (dEx (Gj (j+1))) 27)):=⟨_,rfl⟩;have hKL:upd K r7 (some (.cells (dEx (Pq 21 (Gj j))) 27))=L:=by rw[hK,hL,Gm];rfl
   rw[hKL];refine Ae.monoR (Io G L [110,111,116,32,40] (by decide)) ?_;simp(disch:=omega)only[go_sem,e5,e6,e7,e8,e9];refine Ae.monoR (Io G L [41] (by decide)) ?_;simp(disch:=omega)only[go_sem,e5,e6,e7,e8,e9];simp(disch:=omega)only[go_sem,hdc,hdo,Ah,jA,jB,jE,jJ,jL,jH,jI,jG,List.getElem?_cons_zero,List.getElem?_cons_succ];intro q3 hq3;dsimp only at hq3;simp(disch:=omega)only[go_sem,hdc,hdo,Ah,jA,jB,jE,jJ,jL,jH,jI,jG,List.getElem?_cons_zero,List.getElem?_cons_succ];have hfl: [Dj5,Np j,Bx6].flatten=Np (j+1):=by rw[Np];simp
   have hdl:=Ap0 (j+1);refine Ae.monoR (Dj4 G L [Dj5,Np j,Bx6] hq3 rfl (by decide) (by rw[hfl];omega)) ?_;rw[hfl];simp(disch:=omega)only[go_sem,e5,e6,e7,e8,e9];refine⟨j+1,_,Lq.refl _,(hI _ _ _).2 ?_,by omega⟩;simp(disch:=omega)only[go_sem,e5,e6,e7,e8,e9,hwj,hL];(repeat' apply And.intro)<;>(try first | rfl | assumption | omega)
  ·have hjn:j+1=n:=by omega
   have hlt': ¬((j+1:Nat):Int)<(n:Int):=by omega
   have hlen:=Ap0 j;have hfit:=Dt7 (Bh1 j);have hbig:=Cz2 ⟨j,by omega⟩;have hmay:=Ai2 ⟨j,by omega⟩;dsimp only at hbig hmay;have hok:=Bx8 j;simp(disch:=omega)only[go_sem,e5,e6,e7,e8,e9,hlt',Dd];refine Ae.monoR (Tb (l:=Np j) hG K 0 (by omega) hfit) ?_;obtain⟨fr,hfr⟩: ∃fr,fr=Dz (Np j) 0:=⟨_,rfl⟩;rw[<-hfr];have hlf:=Ai fr.1;have hof:=Bh fr.1;simp(disch:=omega)only[go_sem,Au5,dE,hlf,hof];intro r10 hr10;dsimp only at hr10;simp(disch:=omega)only[go_sem,dE,hlf,hof];obtain⟨L,hL⟩: ∃L,L=upd K r10 (some (.cells (dEx fr.1) 27)):=⟨_,rfl⟩;rw[<-hL];have g10:L r10=some (.cells (dEx fr.1) 27):=by rw[hL];exact Aa _ _ _
   have sL:Sub K L:=by rw[hL];exact(Sub.refl _).new hr10 _
   have g7:=sL _ _ gK;simp(disch:=omega)only[go_sem,e5,e6,e7,e8,e9,g7,g10,hlj,hoj];refine Ae.monoR (Eg hG L (Gj j) ⟨by omega,hok⟩) ?_;rw[hmay];by_cases c:j<=31
   ·obtain⟨y,hy,hsy⟩:=Br8 (Vj j) c;rw[hy] at hfr;subst hfr;have hle:(n:Int)<=32:=by omega
    have hln:((3*j+1:Nat):Int)=((Np j).length:Int):=by omega
    rw[decide_eq_true c];simp(disch:=omega)only[go_sem,e5,e6,e7,e8,e9,g7,g10,hlj,hoj,hle,hln,Dd];refine Ae.monoR (Wp G _ (Gj j) y (by omega)) ?_;rw[Cy7 hsy.symm];simp(disch:=omega)only[go_sem,e5,e6,e7,e8,e9];generalize hE2:upd _ 85 (DVal.bool false)=E2;have f6:E2 6=dI k:=by
     rw[<-hE2];simp(disch:=omega)only[go_sem,e6]
    clear hE2;refine Ae.monoR (Ez G L [102]) ?_;simp(disch:=omega)only[go_sem,dE,nmE,Bi,Al,List.flatMap_nil,Ah,jA,jB,jE,jJ,jL,jH,jI,jG,List.getElem?_cons_zero,List.getElem?_cons_succ];intro qf hqf;dsimp only at hqf;simp(disch:=omega)only[go_sem,Ah,jA,jB,jE,jJ,jL,jH,jI,jG,List.getElem?_cons_zero,List.getElem?_cons_succ];obtain⟨L1,hL1⟩: ∃K',K'=upd L qf (some (.cells [.int .u8 3, .int .u8 0, .int .i64 0, .str [102], .vslice [] 0, .vslice [] 0, .int .i64 0, .int .i64 0, .int .i64 0] 27)):=⟨_,rfl⟩;rw[<-hL1];have gqf:L1 qf=some (.cells [.int .u8 3, .int .u8 0, .int .i64 0, .str [102], .vslice [] 0, .vslice [] 0, .int .i64 0, .int .i64 0, .int .i64 0] 27):=by rw[hL1];exact Aa _ _ _
    have sL1:Sub L L1:=by rw[hL1];exact(Sub.refl _).new hqf _
    intro r13 hr13;dsimp only at hr13;simp(disch:=omega)only[go_sem,dE,nmE,Bi,Al,List.flatMap_nil,Ah,jA,jB,jE,jJ,jL,jH,jI,jG,List.getElem?_cons_zero,List.getElem?_cons_succ];obtain⟨L2,hL2⟩: ∃K',K'=upd L1 r13 (some (.cells [.int .u8 7, .int .u8 0, .int .i64 0, .str [], .oslice 9 qf 0 1 1, .nilSlice, .int .i64 0, .int .i64 0, .int .i64 0] 27)):=⟨_,rfl⟩;rw[<-hL2];intro r14 hr14;dsimp only at hr14;simp(disch:=omega)only[go_sem,dE,nmE,Bi,Al,List.flatMap_nil,Ah,jA,jB,jE,jJ,jL,jH,jI,jG,List.getElem?_cons_zero,List.getElem?_cons_succ];obtain⟨L3,hL3⟩: ∃K',K'=upd L2 r14 (some (.cells [.int .u8 9, .int .u8 0, .int .i64 0, .str [], .nilSlice, .nilSlice, .int .i64 0, .int .i64 0, .int .i64 0] 27)):=⟨_,rfl⟩;rw[<-hL3];simp(disch:=omega)only[go_sem,f6];have n14:r13≠r14:=Ad hr14 (by rw[hL2];exact Aa _ _ _);have nf:qf≠r13:=Ad hr13 gqf;have nf4:qf≠r14:=Ad hr14 (by rw[hL2];exact Af gqf nf);have sHL:Sub H L:=sK.trans sL;have sL2:Sub L1 L2:=by rw[hL2];exact(Sub.refl _).new hr13 _
    have sL3:Sub L2 L3:=by rw[hL3];exact(Sub.refl _).new hr14 _
    have hLp:Lp H r13 r14 qf 0 .nilSlice .nilSlice .nilSlice L3:=⟨((sHL.trans sL1).trans sL2).trans sL3,(sHL.trans sL1).lo hr13,((sHL.trans sL1).trans sL2).lo hr14,sHL.lo hqf,sL3 _ _ (sL2 _ _ gqf),by rw[hL3,Aj _ _ _ _ n14,hL2];exact Aa _ _ _,by rw[hL3];exact Aa _ _ _, .inl ⟨rfl,rfl,rfl⟩, .inl ⟨rfl,rfl,rfl⟩, .inl ⟨rfl,rfl,rfl⟩⟩;obtain⟨J,hJ⟩: ∃J:Nat->(Nat->DVal)->Ab->Prop,∀i env heap,J i env heap↔(env 6=dI k/\env 90=dI k/\env 91=dI i/\env 13= .optr r13 0/\env 14= .optr r14 0/\i<=k/\ ∃va vb,Lp H r13 r14 qf i (env 15) va vb heap):=⟨_,fun _ _ _=>Iff.rfl⟩;refine Bt4.run J (fun i=>k-i) 0 ((hJ _ _ _).2 ?_) ?_
    ·simp(disch:=omega)only[go_sem,f6];(repeat' apply And.intro)<;>(try first | rfl | assumption | omega);exact⟨_,_,hLp⟩
    ·intro i F X hx;clear hLp hL1 hL2 hL3 gqf sL1 sL2 sL3 n14 nf nf4 hqf hr13 hr14;obtain⟨x6,x90,x91,x13,x14,hik,va,vb,hp⟩:=(hJ _ _ _).1 hx;obtain⟨v,e15⟩: ∃v,F 15=v:=⟨_,rfl⟩;rw[e15] at hp;by_cases hlt2:i<k
     ·have hlt2':(i:Int)<(k:Int):=by omega
      have p13:=hp.g13;have hwi:IntKind.i64.wrap ((i:Int)+1)=((i+1:Nat):Int):=by rw[IntKind.wrap_i64];omega
      simp(disch:=omega)only[go_sem,x6,x90,x91,x13,x14,e15,hlt2'];refine Am (by kernel_rfl) pL9 (by kernel_rfl) ?_;simp(disch:=omega)only[go_sem,x13,p13,Ah,jA,jB,jE,jJ,jL,jH,jI,jG,List.getElem?_cons_zero,List.getElem?_cons_succ];refine Ae.monoR (Bc G X 1) ?_;simp(disch:=omega)only[go_sem,dE,nmE,Bi,Al,List.flatMap_nil,Ah,jA,jB,jE,jJ,jL,jH,jI,jG,List.getElem?_cons_zero,List.getElem?_cons_succ];intro b1 hb1;dsimp only at hb1;simp(disch:=omega)only[go_sem,Ah,jA,jB,jE,jJ,jL,jH,jI,jG,List.getElem?_cons_zero,List.getElem?_cons_succ];obtain⟨X1,hX1⟩: ∃K',K'=upd X b1 (some (.cells [.nilSlice, .int .u8 1, .int .u8 0, .int .i64 1, .str [], .vslice [] 0, .vslice [] 0, .int .i64 0, .int .i64 0, .int .i64 0] 44)):=⟨_,rfl⟩;rw[<-hX1];have gb1:X1 b1=some (.cells [.nilSlice, .int .u8 1, .int .u8 0, .int .i64 1, .str [], .vslice [] 0, .vslice [] 0, .int .i64 0, .int .i64 0, .int .i64 0] 44):=by rw[hX1];exact Aa _ _ _
      have sX1:Sub X X1:=by rw[hX1];exact(Sub.refl _).new hb1 _
      refine⟨by rw[if_neg (Ad hb1 p13)], ?_⟩;obtain⟨B1,sB1,hv1,kB1⟩:=(hp.a.up fun _ q hq=>sX1 _ _ hq).j (by rw[Bs,Bs0]) (hp.sub.trans sX1);refine Er.append (m:=1) hv1 rfl (by omega) fun va2 X2 hv2=> ?_;rw[<-Dn3,<-Fg] at hv2;obtain⟨w1,w2⟩:=hv2.cell1;have k2: ∀b o,X b=some o->o≠ .cells (Bj i aC) 44->X2 b=some o:=fun b o h1 h2=>hv2.sub _ _ (kB1 b o (sX1 _ _ h1) h2);have g2:=k2 _ _ p13 (cte (by decide));have a2:=Bs1.of hv2 sB1 (Nat.succ_ne_zero i);simp(disch:=omega)only[go_sem,x13,g2,w1,w2,Ah,jA,jB,jE,jJ,jL,jH,jI,jG,List.getElem?_cons_zero,List.getElem?_cons_succ];obtain⟨X3,hX3⟩: ∃K',K'=upd X2 r13 (some (.cells [.int .u8 7, .int .u8 0, .int .i64 0, .str [], .oslice 9 qf 0 1 1,va2, .int .i64 0, .int .i64 0, .int .i64 0] 27)):=⟨_,rfl⟩;rw[<-hX3];have k3: ∀b o,X2 b=some o->(∀v,o≠(.cells [.int .u8 7, .int .u8 0, .int .i64 0, .str [], .oslice 9 qf 0 1 1,v, .int .i64 0, .int .i64 0, .int .i64 0] 27))->X3 b=some o:=fun b o h1 h2=>by
       have:b≠r13:=fun e=>by rw[e,g2] at h1;cases h1;exact h2 _ rfl
       rw[hX3,Aj _ _ _ _ this];exact h1
      have g313:X3 r13=some (.cells [.int .u8 7, .int .u8 0, .int .i64 0, .str [], .oslice 9 qf 0 1 1,va2, .int .i64 0, .int .i64 0, .int .i64 0] 27):=by rw[hX3];exact Aa _ _ _
      have g314:X3 r14=some (.cells [.int .u8 9, .int .u8 0, .int .i64 0, .str [], .nilSlice,vb, .int .i64 0, .int .i64 0, .int .i64 0] 27):=k3 _ _ (k2 _ _ hp.g14 (cte (by decide))) fun v e=>by cases e
      have g3f:X3 qf=some (.cells [.int .u8 3, .int .u8 0, .int .i64 0, .str [102], .vslice [] 0, .vslice [] 0, .int .i64 0, .int .i64 0, .int .i64 0] 27):=k3 _ _ (k2 _ _ hp.gf (cte (by decide))) fun v e=>by cases e
      have s3:Sub H X3:=by rw[hX3];exact(sB1.trans hv2.sub).up hp.h13 _
      have oa:=a2.up (M:=X3) fun _ q hq=>k3 _ _ hq fun v=>cte (by decide);have ob:=hp.b.up (M:=X3) fun hi q hq=>k3 _ _ (k2 _ _ hq fun e=>by
       obtain⟨t1,u1⟩:=Lc hi (.vslice (dCh (.mk 1 [nb1])) 1) (dEx nb1);obtain⟨t2,u2⟩:=Lc hi .nilSlice (dEx nb1);rw[bC,aC,u1,u2] at e;cases e) fun v=>cte (by decide)
      have oc:=hp.c.up (M:=X3) fun hi q hq=>k3 _ _ (k2 _ _ hq (cte (by decide))) fun v=>cte (by decide);clear k3 k2 a2 g2 w1 w2 hv2 kB1 hv1 sB1 hX3;refine Am (by kernel_rfl) pL3 (by kernel_rfl) ?_;simp(disch:=omega)only[go_sem,x14,g314,Ah,jA,jB,jE,jJ,jL,jH,jI,jG,List.getElem?_cons_zero,List.getElem?_cons_succ];refine Ae.monoR (Bc G X3 1) ?_;simp(disch:=omega)only[go_sem,dE,nmE,Bi,Al,List.flatMap_nil,Ah,jA,jB,jE,jJ,jL,jH,jI,jG,List.getElem?_cons_zero,List.getElem?_cons_succ];intro b2 hb2;dsimp only at hb2;simp(disch:=omega)only[go_sem,Ah,jA,jB,jE,jJ,jL,jH,jI,jG,List.getElem?_cons_zero,List.getElem?_cons_succ];obtain⟨X4,hX4⟩: ∃K',K'=upd X3 b2 (some (.cells [.int .u8 1, .int .u8 0, .int .i64 1, .str [], .vslice [] 0, .vslice [] 0, .int .i64 0, .int .i64 0, .int .i64 0] 27)):=⟨_,rfl⟩;rw[<-hX4];have gb2:X4 b2=some (.cells [.int .u8 1, .int .u8 0, .int .i64 1, .str [], .vslice [] 0, .vslice [] 0, .int .i64 0, .int .i64 0, .int .i64 0] 27):=by rw[hX4];exact Aa _ _ _
      have sX4:Sub X3 X4:=by rw[hX4];exact(Sub.refl _).new hb2 _
      refine⟨by rw[if_neg (Ad hb2 g314)], ?_⟩;rw[hX4];refine Ae.fzA b2 hb2 ?_;rw[show fzs b2 [.int .u8 1, .int .u8 0, .int .i64 1, .str [], .vslice [] 0, .vslice [] 0, .int .i64 0, .int .i64 0, .int .i64 0] [.oslice 9 b2 0 1 1]= [dXs [nb1]] by simp [fzs,fz,dXs,nb1,Al]];refine Ae.monoR (Eb G X3 [nb1] (by decide)) ?_;rw[Cz3];clear gb2 sX4 hX4;simp(disch:=omega)only[go_sem,Ah,jA,jB,jE,jJ,jL,jH,jI,jG,List.getElem?_cons_zero,List.getElem?_cons_succ];refine⟨by rw[if_neg (Ad hb2 g314)], ?_, ?_⟩
      ·refine Ae.monoR (Bc G X3 1) ?_;simp(disch:=omega)only[go_sem,dE,nmE,Bi,Al,List.flatMap_nil,Ah,jA,jB,jE,jJ,jL,jH,jI,jG,List.getElem?_cons_zero,List.getElem?_cons_succ];intro b3 hb3;dsimp only at hb3;simp(disch:=omega)only[go_sem,Ah,jA,jB,jE,jJ,jL,jH,jI,jG,List.getElem?_cons_zero,List.getElem?_cons_succ];obtain⟨X4,hX4⟩: ∃K',K'=upd X3 b3 (some (.cells [.int .u8 1, .vslice (dEx nb1) 1] 47)):=⟨_,rfl⟩;rw[<-hX4];have gb3:X4 b3=some (.cells [.int .u8 1, .vslice (dEx nb1) 1] 47):=by rw[hX4];exact Aa _ _ _
       have sX4:Sub X3 X4:=by rw[hX4];exact(Sub.refl _).new hb3 _
       refine⟨by rw[if_neg (Ad hb3 g314)], ?_⟩;intro b4 hb4;dsimp only at hb4;simp(disch:=omega)only[go_sem,Ah,jA,jB,jE,jJ,jL,jH,jI,jG,List.getElem?_cons_zero,List.getElem?_cons_succ];obtain⟨X5,hX5⟩: ∃K',K'=upd X4 b4 (some (.cells [.oslice 2 b3 0 1 1, .int .u8 1, .int .u8 0, .int .i64 1, .str [], .vslice [] 0, .vslice [] 0, .int .i64 0, .int .i64 0, .int .i64 0] 44)):=⟨_,rfl⟩;rw[<-hX5];have gb4:X5 b4=some (.cells [.oslice 2 b3 0 1 1, .int .u8 1, .int .u8 0, .int .i64 1, .str [], .vslice [] 0, .vslice [] 0, .int .i64 0, .int .i64 0, .int .i64 0] 44):=by rw[hX5];exact Aa _ _ _
       have sX5:Sub X4 X5:=by rw[hX5];exact(Sub.refl _).new hb4 _
       try refine⟨by first | rw[if_neg (Ad hb4 (sX4 _ _ g314))] | rw[if_neg (Ad hb4 (sX4 _ _ g314)),if_neg (Ad hb3 g314)], ?_⟩
       obtain⟨B2,sB2,hv3,kB2⟩:=(ob.up fun _ q hq=>sX5 _ _ (sX4 _ _ hq)).j (by rw[Bs,Ai3]) ((s3.trans sX4).trans sX5);refine Er.append (m:=1) hv3 rfl (by omega) fun vb2 X6 hv4=> ?_;obtain⟨w1,w2⟩:=hv4.cell1;have k6: ∀b o,X5 b=some o->o≠ .cells (Bj i bC) 44->X6 b=some o:=fun b o h1 h2=>hv4.sub _ _ (kB2 b o h1 h2);have g6:=k6 _ _ (sX5 _ _ (sX4 _ _ g314)) (cte (by decide));simp(disch:=omega)only[go_sem,x14,g6,w1,w2,Ah,jA,jB,jE,jJ,jL,jH,jI,jG,List.getElem?_cons_zero,List.getElem?_cons_succ];obtain⟨X7,hX7⟩: ∃K',K'=upd X6 r14 (some (.cells [.int .u8 9, .int .u8 0, .int .i64 0, .str [], .nilSlice,vb2, .int .i64 0, .int .i64 0, .int .i64 0] 27)):=⟨_,rfl⟩;rw[<-hX7];have k7: ∀b o,X6 b=some o->(∀v,o≠(.cells [.int .u8 9, .int .u8 0, .int .i64 0, .str [], .nilSlice,v, .int .i64 0, .int .i64 0, .int .i64 0] 27))->X7 b=some o:=fun b o h1 h2=>by
        have:b≠r14:=fun e=>by rw[e,g6] at h1;cases h1;exact h2 _ rfl
        rw[hX7,Aj _ _ _ _ this];exact h1
       have u35: ∀ {b o},X3 b=some o->X5 b=some o:=fun h=>sX5 _ _ (sX4 _ _ h);have g714:X7 r14=some (.cells [.int .u8 9, .int .u8 0, .int .i64 0, .str [], .nilSlice,vb2, .int .i64 0, .int .i64 0, .int .i64 0] 27):=by rw[hX7];exact Aa _ _ _
       have g713:X7 r13=some (.cells [.int .u8 7, .int .u8 0, .int .i64 0, .str [], .oslice 9 qf 0 1 1,va2, .int .i64 0, .int .i64 0, .int .i64 0] 27):=k7 _ _ (k6 _ _ (u35 g313) (cte (by decide))) fun v e=>by cases e
       have g7f:X7 qf=some (.cells [.int .u8 3, .int .u8 0, .int .i64 0, .str [102], .vslice [] 0, .vslice [] 0, .int .i64 0, .int .i64 0, .int .i64 0] 27):=k7 _ _ (k6 _ _ (u35 g3f) (cte (by decide))) fun v e=>by cases e
       have gc7:X7 b3=some (.cells [.int .u8 1, .vslice (dEx nb1) 1] 47):=k7 _ _ (k6 _ _ (sX5 _ _ gb3) (cte (by decide))) fun v=>cte (by decide);have s7:Sub H X7:=by rw[hX7];exact(sB2.trans hv4.sub).up hp.h14 _
       have oa7:=oa.up (M:=X7) fun _ q hq=>k7 _ _ (k6 _ _ (u35 hq) (By0 i)) fun v=>cte (by decide);have oc7:=oc.up (M:=X7) fun hi q hq=>k7 _ _ (k6 _ _ (u35 hq) (cte (by decide))) fun v=>cte (by decide);have hb30:=s3.lo hb3;rcases hv4 with⟨h,_⟩ | ⟨qb,hqb,-,rfl,gqb,-⟩
       ·exact absurd h (Nat.succ_ne_zero i)
       have gb7:=k7 _ _ gqb fun v=>cte (by decide);have hqb0:=sB2.lo hqb;clear k7 k6 g6 w1 w2 kB2 hv3 hX7 u35 gqb hqb sB2 gb4 sX5 sX4 gb3 oa ob oc g314 g313 g3f hb4;refine Ae.monoR (Bc G X7 1) ?_;simp(disch:=omega)only[go_sem,dE,nmE,Bi,Al,List.flatMap_nil,Ah,jA,jB,jE,jJ,jL,jH,jI,jG,List.getElem?_cons_zero,List.getElem?_cons_succ];refine Ae.monoR (Bc G X7 2) ?_;simp(disch:=omega)only[go_sem,dE,nmE,Bi,Al,List.flatMap_nil,Ah,jA,jB,jE,jJ,jL,jH,jI,jG,List.getElem?_cons_zero,List.getElem?_cons_succ];intro b5 hb5;dsimp only at hb5;simp(disch:=omega)only[go_sem,Ah,jA,jB,jE,jJ,jL,jH,jI,jG,List.getElem?_cons_zero,List.getElem?_cons_succ,Cq];refine Ae.fzA b5 hb5 ?_;rw[show fzs b5 [.int .u8 1, .int .u8 0, .int .i64 1, .str [], .vslice [] 0, .vslice [] 0, .int .i64 0, .int .i64 0, .int .i64 0, .int .u8 1, .int .u8 0, .int .i64 2, .str [], .vslice [] 0, .vslice [] 0, .int .i64 0, .int .i64 0, .int .i64 0] [.oslice 9 b5 0 2 2]= [dXs [nb1,nb2]] by simp [fzs,fz,dXs,nb1,nb2,Al]];refine Ae.monoR (Eb G X7 [nb1,nb2] (by decide)) ?_;rw[Aw2];simp(disch:=omega)only[go_sem,e15,Ah,jA,jB,jE,jJ,jL,jH,jI,jG,List.getElem?_cons_zero,List.getElem?_cons_succ];intro b6 hb6;dsimp only at hb6;simp(disch:=omega)only[go_sem,Ah,jA,jB,jE,jJ,jL,jH,jI,jG,List.getElem?_cons_zero,List.getElem?_cons_succ];obtain⟨X8,hX8⟩: ∃K',K'=upd X7 b6 (some (.cells [.int .u8 2, .vslice (dEx nb1++dEx nb2) 2] 47)):=⟨_,rfl⟩;rw[<-hX8];have gb6:X8 b6=some (.cells [.int .u8 2, .vslice (dEx nb1++dEx nb2) 2] 47):=by rw[hX8];exact Aa _ _ _
       have sX8:Sub X7 X8:=by rw[hX8];exact(Sub.refl _).new hb6 _
       obtain⟨B3,sB3,hv5,kB3⟩:=(oc7.up fun _ q hq=>sX8 _ _ hq).j (by rw[Bs,Sa];rfl) (s7.trans sX8);refine Er.append (m:=1) hv5 rfl (by omega) fun v2 X9 hv6=> ?_;rw[<-Sa,<-Fg] at hv6;have k9: ∀b o,X7 b=some o->o≠ .cells (Bj i cC) 47->X9 b=some o:=fun b o h1 h2=>hv6.sub _ _ (kB3 b o (sX8 _ _ h1) h2);have oc9:=Bs1.of hv6 sB3 (Nat.succ_ne_zero i);have s9:=sB3.trans hv6.sub;have g913:=k9 _ _ g713 (cte (by decide));have g914:=k9 _ _ g714 (cte (by decide));have g9f:=k9 _ _ g7f (cte (by decide));have gc9:=k9 _ _ gc7 (Yn i);have gb9:=k9 _ _ gb7 (cte (by decide));have oa9:=oa7.up (M:=X9) fun _ q hq=>k9 _ _ hq (cte (by decide));have nbq:b3≠qb:=fun e=>by rw[e,gb9] at gc9;exact cte (by decide) (Option.some.inj gc9)
       obtain⟨T,hT⟩: ∃T,T=upd (upd X9 b3 none) qb (some (.cells (Bj (i+1) bC) 44)):=⟨_,rfl⟩;have hd: ∀b,X9 b=none->T b=none:=fun b hb=>by
        have h1:b≠qb:=fun e=>by rw[e,gb9] at hb;cases hb
        rw[hT,Aj _ _ _ _ h1];by_cases h2:b=b3
        ·rw[h2];exact Aa _ _ _
        ·rw[Aj _ _ _ _ h2];exact hb
       have kT: ∀b o,X9 b=some o->o≠(.cells [.int .u8 1, .vslice (dEx nb1) 1] 47)->o≠(.cells (Bj i bC++ [.oslice 2 b3 0 1 1, .int .u8 1, .int .u8 0, .int .i64 1, .str [], .vslice [] 0, .vslice [] 0, .int .i64 0, .int .i64 0, .int .i64 0]) 44)->T b=some o:=fun b o h1 h2 h3=>by
        have n1:b≠qb:=fun e=>by rw[e,gb9] at h1;exact h3 (Option.some.inj h1).symm
        have n2:b≠b3:=fun e=>by rw[e,gc9] at h1;exact h2 (Option.some.inj h1).symm
        rw[hT,Aj _ _ _ _ n1,Aj _ _ _ _ n2];exact h1
       simp(disch:=omega)only[go_sem,x91,Ah,jA,jB,jE,jJ,jL,jH,jI,jG,List.getElem?_cons_zero,List.getElem?_cons_succ];refine⟨i+1,_,Lq.cell (cs':=Bj (i+1) bC) (B:=upd X9 b3 none) gb9 (Ra _ _) ?_,(hJ _ _ _).2 ?_,by omega⟩
       ·rw[<-hT,Fg,Bx9];refine Df.append (Df.keepD hd _) (.cons (Fc.cellsD ?_ gc9 rfl (Df.keepD hd _)) (Df.keepD hd _));rw[hT,Aj _ _ _ _ nbq];exact Aa _ _ _
       ·simp(disch:=omega)only[go_sem,x6,x90,x13,x14,hwi];(repeat' apply And.intro)<;>(try first | rfl | assumption | omega);refine⟨va2, .oslice 10 qb 0 (i+1) (i+1), ?_⟩;rw[<-hT];refine⟨?_,hp.h13,hp.h14,hp.hf,kT _ _ g9f (cte (by decide)) (cte (by decide)),kT _ _ g913 (cte (by decide)) (cte (by decide)),kT _ _ g914 (cte (by decide)) (cte (by decide)),oa9.up fun _ q hq=>kT _ _ hq (cte (by decide)) (By1 i b3), .inr ⟨Nat.succ_ne_zero i,qb,hqb0,rfl,by rw[hT];exact Aa _ _ _⟩,oc9.up fun _ q hq=>kT _ _ hq (fun e=>Yn (i+1) e.symm) (cte (by decide))⟩;rw[hT];exact(s9.up hb30 _).up hqb0 _
      ·intro b3 hb3;dsimp only at hb3;simp(disch:=omega)only[go_sem,Ah,jA,jB,jE,jJ,jL,jH,jI,jG,List.getElem?_cons_zero,List.getElem?_cons_succ];obtain⟨X4,hX4⟩: ∃K',K'=upd X3 b3 (some (.cells [.int .u8 1, .vslice (dEx nb1) 1] 47)):=⟨_,rfl⟩;rw[<-hX4];have gb3:X4 b3=some (.cells [.int .u8 1, .vslice (dEx nb1) 1] 47):=by rw[hX4];exact Aa _ _ _
       have sX4:Sub X3 X4:=by rw[hX4];exact(Sub.refl _).new hb3 _
       refine⟨by rw[if_neg (Ad hb3 g314)], ?_⟩;refine Ae.monoR (Bc G X4 1) ?_;simp(disch:=omega)only[go_sem,dE,nmE,Bi,Al,List.flatMap_nil,Ah,jA,jB,jE,jJ,jL,jH,jI,jG,List.getElem?_cons_zero,List.getElem?_cons_succ];intro b4 hb4;dsimp only at hb4;simp(disch:=omega)only[go_sem,Ah,jA,jB,jE,jJ,jL,jH,jI,jG,List.getElem?_cons_zero,List.getElem?_cons_succ];obtain⟨X5,hX5⟩: ∃K',K'=upd X4 b4 (some (.cells [.oslice 2 b3 0 1 1, .int .u8 1, .int .u8 0, .int .i64 1, .str [], .vslice [] 0, .vslice [] 0, .int .i64 0, .int .i64 0, .int .i64 0] 44)):=⟨_,rfl⟩;rw[<-hX5];have gb4:X5 b4=some (.cells [.oslice 2 b3 0 1 1, .int .u8 1, .int .u8 0, .int .i64 1, .str [], .vslice [] 0, .vslice [] 0, .int .i64 0, .int .i64 0, .int .i64 0] 44):=by rw[hX5];exact Aa _ _ _
       have sX5:Sub X4 X5:=by rw[hX5];exact(Sub.refl _).new hb4 _
       try refine⟨by first | rw[if_neg (Ad hb4 (sX4 _ _ g314))] | rw[if_neg (Ad hb4 (sX4 _ _ g314)),if_neg (Ad hb3 g314)], ?_⟩
       obtain⟨B2,sB2,hv3,kB2⟩:=(ob.up fun _ q hq=>sX5 _ _ (sX4 _ _ hq)).j (by rw[Bs,Ai3]) ((s3.trans sX4).trans sX5);refine Er.append (m:=1) hv3 rfl (by omega) fun vb2 X6 hv4=> ?_;obtain⟨w1,w2⟩:=hv4.cell1;have k6: ∀b o,X5 b=some o->o≠ .cells (Bj i bC) 44->X6 b=some o:=fun b o h1 h2=>hv4.sub _ _ (kB2 b o h1 h2);have g6:=k6 _ _ (sX5 _ _ (sX4 _ _ g314)) (cte (by decide));simp(disch:=omega)only[go_sem,x14,g6,w1,w2,Ah,jA,jB,jE,jJ,jL,jH,jI,jG,List.getElem?_cons_zero,List.getElem?_cons_succ];obtain⟨X7,hX7⟩: ∃K',K'=upd X6 r14 (some (.cells [.int .u8 9, .int .u8 0, .int .i64 0, .str [], .nilSlice,vb2, .int .i64 0, .int .i64 0, .int .i64 0] 27)):=⟨_,rfl⟩;rw[<-hX7];have k7: ∀b o,X6 b=some o->(∀v,o≠(.cells [.int .u8 9, .int .u8 0, .int .i64 0, .str [], .nilSlice,v, .int .i64 0, .int .i64 0, .int .i64 0] 27))->X7 b=some o:=fun b o h1 h2=>by
        have:b≠r14:=fun e=>by rw[e,g6] at h1;cases h1;exact h2 _ rfl
        rw[hX7,Aj _ _ _ _ this];exact h1
       have u35: ∀ {b o},X3 b=some o->X5 b=some o:=fun h=>sX5 _ _ (sX4 _ _ h);have g714:X7 r14=some (.cells [.int .u8 9, .int .u8 0, .int .i64 0, .str [], .nilSlice,vb2, .int .i64 0, .int .i64 0, .int .i64 0] 27):=by rw[hX7];exact Aa _ _ _
       have g713:X7 r13=some (.cells [.int .u8 7, .int .u8 0, .int .i64 0, .str [], .oslice 9 qf 0 1 1,va2, .int .i64 0, .int .i64 0, .int .i64 0] 27):=k7 _ _ (k6 _ _ (u35 g313) (cte (by decide))) fun v e=>by cases e
       have g7f:X7 qf=some (.cells [.int .u8 3, .int .u8 0, .int .i64 0, .str [102], .vslice [] 0, .vslice [] 0, .int .i64 0, .int .i64 0, .int .i64 0] 27):=k7 _ _ (k6 _ _ (u35 g3f) (cte (by decide))) fun v e=>by cases e
       have gc7:X7 b3=some (.cells [.int .u8 1, .vslice (dEx nb1) 1] 47):=k7 _ _ (k6 _ _ (sX5 _ _ gb3) (cte (by decide))) fun v=>cte (by decide);have s7:Sub H X7:=by rw[hX7];exact(sB2.trans hv4.sub).up hp.h14 _
       have oa7:=oa.up (M:=X7) fun _ q hq=>k7 _ _ (k6 _ _ (u35 hq) (By0 i)) fun v=>cte (by decide);have oc7:=oc.up (M:=X7) fun hi q hq=>k7 _ _ (k6 _ _ (u35 hq) (cte (by decide))) fun v=>cte (by decide);have hb30:=s3.lo hb3;rcases hv4 with⟨h,_⟩ | ⟨qb,hqb,-,rfl,gqb,-⟩
       ·exact absurd h (Nat.succ_ne_zero i)
       have gb7:=k7 _ _ gqb fun v=>cte (by decide);have hqb0:=sB2.lo hqb;clear k7 k6 g6 w1 w2 kB2 hv3 hX7 u35 gqb hqb sB2 gb4 sX5 sX4 gb3 oa ob oc g314 g313 g3f hb4;refine Ae.monoR (Bc G X7 1) ?_;simp(disch:=omega)only[go_sem,dE,nmE,Bi,Al,List.flatMap_nil,Ah,jA,jB,jE,jJ,jL,jH,jI,jG,List.getElem?_cons_zero,List.getElem?_cons_succ];refine Ae.monoR (Bc G X7 2) ?_;simp(disch:=omega)only[go_sem,dE,nmE,Bi,Al,List.flatMap_nil,Ah,jA,jB,jE,jJ,jL,jH,jI,jG,List.getElem?_cons_zero,List.getElem?_cons_succ];intro b5 hb5;dsimp only at hb5;simp(disch:=omega)only[go_sem,Ah,jA,jB,jE,jJ,jL,jH,jI,jG,List.getElem?_cons_zero,List.getElem?_cons_succ,Cq];refine Ae.fzA b5 hb5 ?_;rw[show fzs b5 [.int .u8 1, .int .u8 0, .int .i64 1, .str [], .vslice [] 0, .vslice [] 0, .int .i64 0, .int .i64 0, .int .i64 0, .int .u8 1, .int .u8 0, .int .i64 2, .str [], .vslice [] 0, .vslice [] 0, .int .i64 0, .int .i64 0, .int .i64 0] [.oslice 9 b5 0 2 2]= [dXs [nb1,nb2]] by simp [fzs,fz,dXs,nb1,nb2,Al]];refine Ae.monoR (Eb G X7 [nb1,nb2] (by decide)) ?_;rw[Aw2];simp(disch:=omega)only[go_sem,e15,Ah,jA,jB,jE,jJ,jL,jH,jI,jG,List.getElem?_cons_zero,List.getElem?_cons_succ];intro b6 hb6;dsimp only at hb6;simp(disch:=omega)only[go_sem,Ah,jA,jB,jE,jJ,jL,jH,jI,jG,List.getElem?_cons_zero,List.getElem?_cons_succ];obtain⟨X8,hX8⟩: ∃K',K'=upd X7 b6 (some (.cells [.int .u8 2, .vslice (dEx nb1++dEx nb2) 2] 47)):=⟨_,rfl⟩;rw[<-hX8];have gb6:X8 b6=some (.cells [.int .u8 2, .vslice (dEx nb1++dEx nb2) 2] 47):=by rw[hX8];exact Aa _ _ _
       have sX8:Sub X7 X8:=by rw[hX8];exact(Sub.refl _).new hb6 _
       obtain⟨B3,sB3,hv5,kB3⟩:=(oc7.up fun _ q hq=>sX8 _ _ hq).j (by rw[Bs,Sa];rfl) (s7.trans sX8);refine Er.append (m:=1) hv5 rfl (by omega) fun v2 X9 hv6=> ?_;rw[<-Sa,<-Fg] at hv6;have k9: ∀b o,X7 b=some o->o≠ .cells (Bj i cC) 47->X9 b=some o:=fun b o h1 h2=>hv6.sub _ _ (kB3 b o (sX8 _ _ h1) h2);have oc9:=Bs1.of hv6 sB3 (Nat.succ_ne_zero i);have s9:=sB3.trans hv6.sub;have g913:=k9 _ _ g713 (cte (by decide));have g914:=k9 _ _ g714 (cte (by decide));have g9f:=k9 _ _ g7f (cte (by decide));have gc9:=k9 _ _ gc7 (Yn i);have gb9:=k9 _ _ gb7 (cte (by decide));have oa9:=oa7.up (M:=X9) fun _ q hq=>k9 _ _ hq (cte (by decide));have nbq:b3≠qb:=fun e=>by rw[e,gb9] at gc9;exact cte (by decide) (Option.some.inj gc9)
       obtain⟨T,hT⟩: ∃T,T=upd (upd X9 b3 none) qb (some (.cells (Bj (i+1) bC) 44)):=⟨_,rfl⟩;have hd: ∀b,X9 b=none->T b=none:=fun b hb=>by
        have h1:b≠qb:=fun e=>by rw[e,gb9] at hb;cases hb
        rw[hT,Aj _ _ _ _ h1];by_cases h2:b=b3
        ·rw[h2];exact Aa _ _ _
        ·rw[Aj _ _ _ _ h2];exact hb
       have kT: ∀b o,X9 b=some o->o≠(.cells [.int .u8 1, .vslice (dEx nb1) 1] 47)->o≠(.cells (Bj i bC++ [.oslice 2 b3 0 1 1, .int .u8 1, .int .u8 0, .int .i64 1, .str [], .vslice [] 0, .vslice [] 0, .int .i64 0, .int .i64 0, .int .i64 0]) 44)->T b=some o:=fun b o h1 h2 h3=>by
        have n1:b≠qb:=fun e=>by rw[e,gb9] at h1;exact h3 (Option.some.inj h1).symm
        have n2:b≠b3:=fun e=>by rw[e,gc9] at h1;exact h2 (Option.some.inj h1).symm
        rw[hT,Aj _ _ _ _ n1,Aj _ _ _ _ n2];exact h1
       simp(disch:=omega)only[go_sem,x91,Ah,jA,jB,jE,jJ,jL,jH,jI,jG,List.getElem?_cons_zero,List.getElem?_cons_succ];refine⟨i+1,_,Lq.cell (cs':=Bj (i+1) bC) (B:=upd X9 b3 none) gb9 (Ra _ _) ?_,(hJ _ _ _).2 ?_,by omega⟩
       ·rw[<-hT,Fg,Bx9];refine Df.append (Df.keepD hd _) (.cons (Fc.cellsD ?_ gc9 rfl (Df.keepD hd _)) (Df.keepD hd _));rw[hT,Aj _ _ _ _ nbq];exact Aa _ _ _
       ·simp(disch:=omega)only[go_sem,x6,x90,x13,x14,hwi];(repeat' apply And.intro)<;>(try first | rfl | assumption | omega);refine⟨va2, .oslice 10 qb 0 (i+1) (i+1), ?_⟩;rw[<-hT];refine⟨?_,hp.h13,hp.h14,hp.hf,kT _ _ g9f (cte (by decide)) (cte (by decide)),kT _ _ g913 (cte (by decide)) (cte (by decide)),kT _ _ g914 (cte (by decide)) (cte (by decide)),oa9.up fun _ q hq=>kT _ _ hq (cte (by decide)) (By1 i b3), .inr ⟨Nat.succ_ne_zero i,qb,hqb0,rfl,by rw[hT];exact Aa _ _ _⟩,oc9.up fun _ q hq=>kT _ _ hq (fun e=>Yn (i+1) e.symm) (cte (by decide))⟩;rw[hT];exact(s9.up hb30 _).up hqb0 _
     ·obtain rfl:i=k:=by omega
      have hlt2': ¬(i:Int)<(i:Int):=by omega
      obtain⟨sX,_,_,_,gf,g13,g14,pa,pb,pc⟩:=hp;rcases pa with⟨h,_⟩ | ⟨hi0,qa,-,rfl,gqa⟩
      ·omega
      rcases pb with⟨h,_⟩ | ⟨-,qb,-,rfl,gqb⟩
      ·omega
      rcases pc with⟨h,_⟩ | ⟨-,qc,-,rfl,gqc⟩
      ·omega
      simp(disch:=omega)only[go_sem,x6,x90,x91,x13,x14,e15,hlt2',Ah,jA,jB,jE,jJ,jL,jH,jI,jG,List.getElem?_cons_zero,List.getElem?_cons_succ];refine Ae.monoR (Bc G X 1) ?_;simp(disch:=omega)only[go_sem,dE,nmE,Bi,Al,List.flatMap_nil,Ah,jA,jB,jE,jJ,jL,jH,jI,jG,List.getElem?_cons_zero,List.getElem?_cons_succ];intro b1 hb1;dsimp only at hb1;simp(disch:=omega)only[go_sem,Ah,jA,jB,jE,jJ,jL,jH,jI,jG,List.getElem?_cons_zero,List.getElem?_cons_succ];obtain⟨X1,hX1⟩: ∃K',K'=upd X b1 (some (.cells [.oslice 2 qc 0 i i, .int .u8 1, .int .u8 0, .int .i64 1, .str [], .vslice [] 0, .vslice [] 0, .int .i64 0, .int .i64 0, .int .i64 0] 44)):=⟨_,rfl⟩;rw[<-hX1];have gb1:X1 b1=some (.cells [.oslice 2 qc 0 i i, .int .u8 1, .int .u8 0, .int .i64 1, .str [], .vslice [] 0, .vslice [] 0, .int .i64 0, .int .i64 0, .int .i64 0] 44):=by rw[hX1];exact Aa _ _ _
      have sX1:Sub X X1:=by rw[hX1];exact(Sub.refl _).new hb1 _
      intro r16 hr16;dsimp only at hr16;simp(disch:=omega)only[go_sem,Ah,jA,jB,jE,jJ,jL,jH,jI,jG,List.getElem?_cons_zero,List.getElem?_cons_succ];obtain⟨X2,hX2⟩: ∃K',K'=upd X1 r16 (some (.cells [.int .u8 9, .int .u8 0, .int .i64 0, .str [], .nilSlice, .oslice 10 b1 0 1 1, .int .i64 0, .int .i64 0, .int .i64 0] 27)):=⟨_,rfl⟩;rw[<-hX2];have sX2:Sub X1 X2:=by rw[hX2];exact(Sub.refl _).new hr16 _
      have g16:X2 r16=some (.cells [.int .u8 9, .int .u8 0, .int .i64 0, .str [], .nilSlice, .oslice 10 b1 0 1 1, .int .i64 0, .int .i64 0, .int .i64 0] 27):=by rw[hX2];exact Aa _ _ _
      have u2: ∀ {b o},X b=some o->X2 b=some o:=fun h=>sX2 _ _ (sX1 _ _ h);have gf:=u2 gf;have g13:=u2 g13;have g14:=u2 g14;have gqa:=u2 gqa;have gqb:=u2 gqb;have gqc:=u2 gqc;have gb1:=sX2 _ _ gb1;have hz:Sub h0 X2:=fun _ _ h=>by cases h
      have hi41:i<41:=by omega
      have hi1:1<=i:=by omega
      obtain⟨z1,z2,z3,z4,z5⟩:=Ap2 ⟨i,hi41⟩ hi1;obtain⟨y1,y2,y3,y4,y5⟩:=Ap3 ⟨i,hi41⟩;dsimp only at z1 z2 z3 z4 z5 y1 y2 y3 y4 y5;have v1:=Df.lent (.cons (Fc.agg (Fc.ex (k:=7) (o:=0) (n:=0) (s:= []) (l:= [exF]) (a:=List.replicate i Yu) (li:=0) (en:=0) (t:=0) hz (Cz5 hz gf) (Aw4 hz gqa))) .nil) (Eg hG h0 (Bg9 i) ⟨Nat.le_trans y1 (by decide),By3 i⟩) rfl;have v2:=Df.lent (.cons (Fc.agg (Fc.ex (k:=9) (o:=0) (n:=0) (s:= []) (l:= []) (a:=List.replicate i Ck2) (li:=0) (en:=0) (t:=0) hz (.exs0 hz) (Cz6 hz gqb))) .nil) (Eg hG h0 (Cz0 i) ⟨Nat.le_trans y2 (by decide),Cz4 i⟩) rfl;have v3:=Df.lent (.cons (Bs2 hz gqc) .nil) (Pd hG h0 (List.replicate i Xm) (Nat.le_trans y3 (by decide)) (By2 Aw3 i)) rfl;have v4:=Df.lent (.cons (Fc.agg (Fc.ex (k:=9) (o:=0) (n:=0) (s:= []) (l:= []) (a:= [.mk (List.replicate i Xm) nb1]) (li:=0) (en:=0) (t:=0) hz (.exs0 hz) (Cz7 hz gb1 gqc))) .nil) (Eg hG h0 (Bh0 i) ⟨Nat.le_trans y4 (by decide),By4 i⟩) rfl;have v5:=Df.lent (.cons (Aw4 hz gqa) .nil) (Us hG h0 (List.replicate i Yu) (Nat.le_trans y5 (by decide)) (Bh2 (a:=Yu) ⟨trivial,Tj⟩ i)) rfl;rw[z1] at v1;rw[z2] at v2;rw[z3] at v3;rw[z4] at v4;rw[z5] at v5;have sH2:Sub H X2:=(sX.trans sX1).trans sX2;by_cases c8:i<=8
      ·have w8:(i:Int)<=8:=by omega
       have w16:(i:Int)<=16:=by omega
       have w32:(i:Int)<=32:=by omega
       have d8:decide (i<=8)=decide ((i:Int)<=8):=by simp only[Int.ofNat_le,decide_eq_decide];omega
       have d16:decide (i<=16)=decide ((i:Int)<=16):=by simp only[decide_eq_decide];omega
       have d32:decide (i<=32)=decide ((i:Int)<=32):=by simp only[decide_eq_decide];omega
       simp only[d8,d16,d32,w8,w16,w32,decide_true,decide_false] at v1 v2 v3 v4 v5;simp(disch:=omega)only[go_sem,x13,g13,Ah,jA,jB,jE,jJ,jL,jH,jI,jG,List.getElem?_cons_zero,List.getElem?_cons_succ];refine Ae.monoR v1 ?_;simp(disch:=omega)only[go_sem,x6,x14,g14,w8,Ah,jA,jB,jE,jJ,jL,jH,jI,jG,List.getElem?_cons_zero,List.getElem?_cons_succ];refine Ae.monoR v2 ?_;simp(disch:=omega)only[go_sem,x6,e15,w32,Ah,jA,jB,jE,jJ,jL,jH,jI,jG,List.getElem?_cons_zero,List.getElem?_cons_succ];refine Ae.monoR v3 ?_;simp(disch:=omega)only[go_sem,x6,g16,w16,Ah,jA,jB,jE,jJ,jL,jH,jI,jG,List.getElem?_cons_zero,List.getElem?_cons_succ];refine Ae.monoR v4 ?_;simp(disch:=omega)only[go_sem,x6,x13,g13,w16,Ah,jA,jB,jE,jJ,jL,jH,jI,jG,List.getElem?_cons_zero,List.getElem?_cons_succ];refine Ae.monoR v5 ?_;simp(disch:=omega)only[go_sem,x6,w8,Ah,jA,jB,jE,jJ,jL,jH,jI,jG,List.getElem?_cons_zero,List.getElem?_cons_succ];refine Ae.monoR (Hd hG X2) ?_;simp(disch:=omega)only[go_sem];exact Pl.sub sH2 (.refl ⟨rfl,rfl⟩)
      ·have w8: ¬(i:Int)<=8:=by omega
       by_cases c16:i<=16
       ·have w16:(i:Int)<=16:=by omega
        have w32:(i:Int)<=32:=by omega
        have d8:decide (i<=8)=decide ((i:Int)<=8):=by simp only[Int.ofNat_le,decide_eq_decide];omega
        have d16:decide (i<=16)=decide ((i:Int)<=16):=by simp only[decide_eq_decide];omega
        have d32:decide (i<=32)=decide ((i:Int)<=32):=by simp only[decide_eq_decide];omega
        simp only[d8,d16,d32,w8,w16,w32,decide_true,decide_false] at v1 v2 v3 v4 v5;simp(disch:=omega)only[go_sem,x13,g13,Ah,jA,jB,jE,jJ,jL,jH,jI,jG,List.getElem?_cons_zero,List.getElem?_cons_succ];refine Ae.monoR v1 ?_;simp(disch:=omega)only[go_sem,x6,x14,g14,w8,Ah,jA,jB,jE,jJ,jL,jH,jI,jG,List.getElem?_cons_zero,List.getElem?_cons_succ];refine Ae.monoR v2 ?_;simp(disch:=omega)only[go_sem,x6,e15,w32,Ah,jA,jB,jE,jJ,jL,jH,jI,jG,List.getElem?_cons_zero,List.getElem?_cons_succ];refine Ae.monoR v3 ?_;simp(disch:=omega)only[go_sem,x6,g16,w16,Ah,jA,jB,jE,jJ,jL,jH,jI,jG,List.getElem?_cons_zero,List.getElem?_cons_succ];refine Ae.monoR v4 ?_;simp(disch:=omega)only[go_sem,x6,x13,g13,w16,Ah,jA,jB,jE,jJ,jL,jH,jI,jG,List.getElem?_cons_zero,List.getElem?_cons_succ];refine Ae.monoR v5 ?_;simp(disch:=omega)only[go_sem,x6,w8,Ah,jA,jB,jE,jJ,jL,jH,jI,jG,List.getElem?_cons_zero,List.getElem?_cons_succ];refine Ae.monoR (Hd hG X2) ?_;simp(disch:=omega)only[go_sem];exact Pl.sub sH2 (.refl ⟨rfl,rfl⟩)
       ·have w16: ¬(i:Int)<=16:=by omega
        by_cases c32:i<=32
        ·have w32:(i:Int)<=32:=by omega
         have d8:decide (i<=8)=decide ((i:Int)<=8):=by simp only[Int.ofNat_le,decide_eq_decide];omega
         have d16:decide (i<=16)=decide ((i:Int)<=16):=by simp only[decide_eq_decide];omega
         have d32:decide (i<=32)=decide ((i:Int)<=32):=by simp only[decide_eq_decide];omega
         simp only[d8,d16,d32,w8,w16,w32,decide_true,decide_false] at v1 v2 v3 v4 v5;simp(disch:=omega)only[go_sem,x13,g13,Ah,jA,jB,jE,jJ,jL,jH,jI,jG,List.getElem?_cons_zero,List.getElem?_cons_succ];refine Ae.monoR v1 ?_;simp(disch:=omega)only[go_sem,x6,x14,g14,w8,Ah,jA,jB,jE,jJ,jL,jH,jI,jG,List.getElem?_cons_zero,List.getElem?_cons_succ];refine Ae.monoR v2 ?_;simp(disch:=omega)only[go_sem,x6,e15,w32,Ah,jA,jB,jE,jJ,jL,jH,jI,jG,List.getElem?_cons_zero,List.getElem?_cons_succ];refine Ae.monoR v3 ?_;simp(disch:=omega)only[go_sem,x6,g16,w16,Ah,jA,jB,jE,jJ,jL,jH,jI,jG,List.getElem?_cons_zero,List.getElem?_cons_succ];refine Ae.monoR v4 ?_;simp(disch:=omega)only[go_sem,x6,x13,g13,w16,Ah,jA,jB,jE,jJ,jL,jH,jI,jG,List.getElem?_cons_zero,List.getElem?_cons_succ];refine Ae.monoR v5 ?_;simp(disch:=omega)only[go_sem,x6,w8,Ah,jA,jB,jE,jJ,jL,jH,jI,jG,List.getElem?_cons_zero,List.getElem?_cons_succ];refine Ae.monoR (Hd hG X2) ?_;simp(disch:=omega)only[go_sem];exact Pl.sub sH2 (.refl ⟨rfl,rfl⟩)
        ·have w32: ¬(i:Int)<=32:=by omega
         have d8:decide (i<=8)=decide ((i:Int)<=8):=by simp only[Int.ofNat_le,decide_eq_decide];omega
         have d16:decide (i<=16)=decide ((i:Int)<=16):=by simp only[decide_eq_decide];omega
         have d32:decide (i<=32)=decide ((i:Int)<=32):=by simp only[decide_eq_decide];omega
         simp only[d8,d16,d32,w8,w16,w32,decide_true,decide_false] at v1 v2 v3 v4 v5;simp(disch:=omega)only[go_sem,x13,g13,Ah,jA,jB,jE,jJ,jL,jH,jI,jG,List.getElem?_cons_zero,List.getElem?_cons_succ];refine Ae.monoR v1 ?_;simp(disch:=omega)only[go_sem,x6,x14,g14,w8,Ah,jA,jB,jE,jJ,jL,jH,jI,jG,List.getElem?_cons_zero,List.getElem?_cons_succ];refine Ae.monoR v2 ?_;simp(disch:=omega)only[go_sem,x6,e15,w32,Ah,jA,jB,jE,jJ,jL,jH,jI,jG,List.getElem?_cons_zero,List.getElem?_cons_succ];refine Ae.monoR v3 ?_;simp(disch:=omega)only[go_sem,x6,g16,w16,Ah,jA,jB,jE,jJ,jL,jH,jI,jG,List.getElem?_cons_zero,List.getElem?_cons_succ];refine Ae.monoR v4 ?_;simp(disch:=omega)only[go_sem,x6,x13,g13,w16,Ah,jA,jB,jE,jJ,jL,jH,jI,jG,List.getElem?_cons_zero,List.getElem?_cons_succ];refine Ae.monoR v5 ?_;simp(disch:=omega)only[go_sem,x6,w8,Ah,jA,jB,jE,jJ,jL,jH,jI,jG,List.getElem?_cons_zero,List.getElem?_cons_succ];refine Ae.monoR (Hd hG X2) ?_;simp(disch:=omega)only[go_sem];exact Pl.sub sH2 (.refl ⟨rfl,rfl⟩)
   ·have hy:=Ck1 (Vj j) (by omega) (by omega);rw[hy] at hfr;subst hfr;have hle: ¬(n:Int)<=32:=by omega
    rw[decide_eq_false c];simp(disch:=omega)only[go_sem,e5,e6,e7,e8,e9,g7,g10,hlj,hoj,hle];generalize hE2:upd _ 85 (DVal.bool false)=E2;have f6:E2 6=dI k:=by
     rw[<-hE2];simp(disch:=omega)only[go_sem,e6]
    clear hE2;refine Ae.monoR (Ez G L [102]) ?_;simp(disch:=omega)only[go_sem,dE,nmE,Bi,Al,List.flatMap_nil,Ah,jA,jB,jE,jJ,jL,jH,jI,jG,List.getElem?_cons_zero,List.getElem?_cons_succ];intro qf hqf;dsimp only at hqf;simp(disch:=omega)only[go_sem,Ah,jA,jB,jE,jJ,jL,jH,jI,jG,List.getElem?_cons_zero,List.getElem?_cons_succ];obtain⟨L1,hL1⟩: ∃K',K'=upd L qf (some (.cells [.int .u8 3, .int .u8 0, .int .i64 0, .str [102], .vslice [] 0, .vslice [] 0, .int .i64 0, .int .i64 0, .int .i64 0] 27)):=⟨_,rfl⟩;rw[<-hL1];have gqf:L1 qf=some (.cells [.int .u8 3, .int .u8 0, .int .i64 0, .str [102], .vslice [] 0, .vslice [] 0, .int .i64 0, .int .i64 0, .int .i64 0] 27):=by rw[hL1];exact Aa _ _ _
    have sL1:Sub L L1:=by rw[hL1];exact(Sub.refl _).new hqf _
    intro r13 hr13;dsimp only at hr13;simp(disch:=omega)only[go_sem,dE,nmE,Bi,Al,List.flatMap_nil,Ah,jA,jB,jE,jJ,jL,jH,jI,jG,List.getElem?_cons_zero,List.getElem?_cons_succ];obtain⟨L2,hL2⟩: ∃K',K'=upd L1 r13 (some (.cells [.int .u8 7, .int .u8 0, .int .i64 0, .str [], .oslice 9 qf 0 1 1, .nilSlice, .int .i64 0, .int .i64 0, .int .i64 0] 27)):=⟨_,rfl⟩;rw[<-hL2];intro r14 hr14;dsimp only at hr14;simp(disch:=omega)only[go_sem,dE,nmE,Bi,Al,List.flatMap_nil,Ah,jA,jB,jE,jJ,jL,jH,jI,jG,List.getElem?_cons_zero,List.getElem?_cons_succ];obtain⟨L3,hL3⟩: ∃K',K'=upd L2 r14 (some (.cells [.int .u8 9, .int .u8 0, .int .i64 0, .str [], .nilSlice, .nilSlice, .int .i64 0, .int .i64 0, .int .i64 0] 27)):=⟨_,rfl⟩;rw[<-hL3];simp(disch:=omega)only[go_sem,f6];have n14:r13≠r14:=Ad hr14 (by rw[hL2];exact Aa _ _ _);have nf:qf≠r13:=Ad hr13 gqf;have nf4:qf≠r14:=Ad hr14 (by rw[hL2];exact Af gqf nf);have sHL:Sub H L:=sK.trans sL;have sL2:Sub L1 L2:=by rw[hL2];exact(Sub.refl _).new hr13 _
    have sL3:Sub L2 L3:=by rw[hL3];exact(Sub.refl _).new hr14 _
    have hLp:Lp H r13 r14 qf 0 .nilSlice .nilSlice .nilSlice L3:=⟨((sHL.trans sL1).trans sL2).trans sL3,(sHL.trans sL1).lo hr13,((sHL.trans sL1).trans sL2).lo hr14,sHL.lo hqf,sL3 _ _ (sL2 _ _ gqf),by rw[hL3,Aj _ _ _ _ n14,hL2];exact Aa _ _ _,by rw[hL3];exact Aa _ _ _, .inl ⟨rfl,rfl,rfl⟩, .inl ⟨rfl,rfl,rfl⟩, .inl ⟨rfl,rfl,rfl⟩⟩;obtain⟨J,hJ⟩: ∃J:Nat->(Nat->DVal)->Ab->Prop,∀i env heap,J i env heap↔(env 6=dI k/\env 90=dI k/\env 91=dI i/\env 13= .optr r13 0/\env 14= .optr r14 0/\i<=k/\ ∃va vb,Lp H r13 r14 qf i (env 15) va vb heap):=⟨_,fun _ _ _=>Iff.rfl⟩;refine Bt4.run J (fun i=>k-i) 0 ((hJ _ _ _).2 ?_) ?_
    ·simp(disch:=omega)only[go_sem,f6];(repeat' apply And.intro)<;>(try first | rfl | assumption | omega);exact⟨_,_,hLp⟩
    ·intro i F X hx;clear hLp hL1 hL2 hL3 gqf sL1 sL2 sL3 n14 nf nf4 hqf hr13 hr14;obtain⟨x6,x90,x91,x13,x14,hik,va,vb,hp⟩:=(hJ _ _ _).1 hx;obtain⟨v,e15⟩: ∃v,F 15=v:=⟨_,rfl⟩;rw[e15] at hp;by_cases hlt2:i<k
     ·have hlt2':(i:Int)<(k:Int):=by omega
      have p13:=hp.g13;have hwi:IntKind.i64.wrap ((i:Int)+1)=((i+1:Nat):Int):=by rw[IntKind.wrap_i64];omega
      simp(disch:=omega)only[go_sem,x6,x90,x91,x13,x14,e15,hlt2'];refine Am (by kernel_rfl) pL9 (by kernel_rfl) ?_;simp(disch:=omega)only[go_sem,x13,p13,Ah,jA,jB,jE,jJ,jL,jH,jI,jG,List.getElem?_cons_zero,List.getElem?_cons_succ];refine Ae.monoR (Bc G X 1) ?_;simp(disch:=omega)only[go_sem,dE,nmE,Bi,Al,List.flatMap_nil,Ah,jA,jB,jE,jJ,jL,jH,jI,jG,List.getElem?_cons_zero,List.getElem?_cons_succ];intro b1 hb1;dsimp only at hb1;simp(disch:=omega)only[go_sem,Ah,jA,jB,jE,jJ,jL,jH,jI,jG,List.getElem?_cons_zero,List.getElem?_cons_succ];obtain⟨X1,hX1⟩: ∃K',K'=upd X b1 (some (.cells [.nilSlice, .int .u8 1, .int .u8 0, .int .i64 1, .str [], .vslice [] 0, .vslice [] 0, .int .i64 0, .int .i64 0, .int .i64 0] 44)):=⟨_,rfl⟩;rw[<-hX1];have gb1:X1 b1=some (.cells [.nilSlice, .int .u8 1, .int .u8 0, .int .i64 1, .str [], .vslice [] 0, .vslice [] 0, .int .i64 0, .int .i64 0, .int .i64 0] 44):=by rw[hX1];exact Aa _ _ _
      have sX1:Sub X X1:=by rw[hX1];exact(Sub.refl _).new hb1 _
      refine⟨by rw[if_neg (Ad hb1 p13)], ?_⟩;obtain⟨B1,sB1,hv1,kB1⟩:=(hp.a.up fun _ q hq=>sX1 _ _ hq).j (by rw[Bs,Bs0]) (hp.sub.trans sX1);refine Er.append (m:=1) hv1 rfl (by omega) fun va2 X2 hv2=> ?_;rw[<-Dn3,<-Fg] at hv2;obtain⟨w1,w2⟩:=hv2.cell1;have k2: ∀b o,X b=some o->o≠ .cells (Bj i aC) 44->X2 b=some o:=fun b o h1 h2=>hv2.sub _ _ (kB1 b o (sX1 _ _ h1) h2);have g2:=k2 _ _ p13 (cte (by decide));have a2:=Bs1.of hv2 sB1 (Nat.succ_ne_zero i);simp(disch:=omega)only[go_sem,x13,g2,w1,w2,Ah,jA,jB,jE,jJ,jL,jH,jI,jG,List.getElem?_cons_zero,List.getElem?_cons_succ];obtain⟨X3,hX3⟩: ∃K',K'=upd X2 r13 (some (.cells [.int .u8 7, .int .u8 0, .int .i64 0, .str [], .oslice 9 qf 0 1 1,va2, .int .i64 0, .int .i64 0, .int .i64 0] 27)):=⟨_,rfl⟩;rw[<-hX3];have k3: ∀b o,X2 b=some o->(∀v,o≠(.cells [.int .u8 7, .int .u8 0, .int .i64 0, .str [], .oslice 9 qf 0 1 1,v, .int .i64 0, .int .i64 0, .int .i64 0] 27))->X3 b=some o:=fun b o h1 h2=>by
       have:b≠r13:=fun e=>by rw[e,g2] at h1;cases h1;exact h2 _ rfl
       rw[hX3,Aj _ _ _ _ this];exact h1
      have g313:X3 r13=some (.cells [.int .u8 7, .int .u8 0, .int .i64 0, .str [], .oslice 9 qf 0 1 1,va2, .int .i64 0, .int .i64 0, .int .i64 0] 27):=by rw[hX3];exact Aa _ _ _
      have g314:X3 r14=some (.cells [.int .u8 9, .int .u8 0, .int .i64 0, .str [], .nilSlice,vb, .int .i64 0, .int .i64 0, .int .i64 0] 27):=k3 _ _ (k2 _ _ hp.g14 (cte (by decide))) fun v e=>by cases e
      have g3f:X3 qf=some (.cells [.int .u8 3, .int .u8 0, .int .i64 0, .str [102], .vslice [] 0, .vslice [] 0, .int .i64 0, .int .i64 0, .int .i64 0] 27):=k3 _ _ (k2 _ _ hp.gf (cte (by decide))) fun v e=>by cases e
      have s3:Sub H X3:=by rw[hX3];exact(sB1.trans hv2.sub).up hp.h13 _
      have oa:=a2.up (M:=X3) fun _ q hq=>k3 _ _ hq fun v=>cte (by decide);have ob:=hp.b.up (M:=X3) fun hi q hq=>k3 _ _ (k2 _ _ hq fun e=>by
       obtain⟨t1,u1⟩:=Lc hi (.vslice (dCh (.mk 1 [nb1])) 1) (dEx nb1);obtain⟨t2,u2⟩:=Lc hi .nilSlice (dEx nb1);rw[bC,aC,u1,u2] at e;cases e) fun v=>cte (by decide)
      have oc:=hp.c.up (M:=X3) fun hi q hq=>k3 _ _ (k2 _ _ hq (cte (by decide))) fun v=>cte (by decide);clear k3 k2 a2 g2 w1 w2 hv2 kB1 hv1 sB1 hX3;refine Am (by kernel_rfl) pL3 (by kernel_rfl) ?_;simp(disch:=omega)only[go_sem,x14,g314,Ah,jA,jB,jE,jJ,jL,jH,jI,jG,List.getElem?_cons_zero,List.getElem?_cons_succ];refine Ae.monoR (Bc G X3 1) ?_;simp(disch:=omega)only[go_sem,dE,nmE,Bi,Al,List.flatMap_nil,Ah,jA,jB,jE,jJ,jL,jH,jI,jG,List.getElem?_cons_zero,List.getElem?_cons_succ];intro b2 hb2;dsimp only at hb2;simp(disch:=omega)only[go_sem,Ah,jA,jB,jE,jJ,jL,jH,jI,jG,List.getElem?_cons_zero,List.getElem?_cons_succ];obtain⟨X4,hX4⟩: ∃K',K'=upd X3 b2 (some (.cells [.int .u8 1, .int .u8 0, .int .i64 1, .str [], .vslice [] 0, .vslice [] 0, .int .i64 0, .int .i64 0, .int .i64 0] 27)):=⟨_,rfl⟩;rw[<-hX4];have gb2:X4 b2=some (.cells [.int .u8 1, .int .u8 0, .int .i64 1, .str [], .vslice [] 0, .vslice [] 0, .int .i64 0, .int .i64 0, .int .i64 0] 27):=by rw[hX4];exact Aa _ _ _
      have sX4:Sub X3 X4:=by rw[hX4];exact(Sub.refl _).new hb2 _
      refine⟨by rw[if_neg (Ad hb2 g314)], ?_⟩;rw[hX4];refine Ae.fzA b2 hb2 ?_;rw[show fzs b2 [.int .u8 1, .int .u8 0, .int .i64 1, .str [], .vslice [] 0, .vslice [] 0, .int .i64 0, .int .i64 0, .int .i64 0] [.oslice 9 b2 0 1 1]= [dXs [nb1]] by simp [fzs,fz,dXs,nb1,Al]];refine Ae.monoR (Eb G X3 [nb1] (by decide)) ?_;rw[Cz3];clear gb2 sX4 hX4;simp(disch:=omega)only[go_sem,Ah,jA,jB,jE,jJ,jL,jH,jI,jG,List.getElem?_cons_zero,List.getElem?_cons_succ];refine⟨by rw[if_neg (Ad hb2 g314)], ?_, ?_⟩
      ·refine Ae.monoR (Bc G X3 1) ?_;simp(disch:=omega)only[go_sem,dE,nmE,Bi,Al,List.flatMap_nil,Ah,jA,jB,jE,jJ,jL,jH,jI,jG,List.getElem?_cons_zero,List.getElem?_cons_succ];intro b3 hb3;dsimp only at hb3;simp(disch:=omega)only[go_sem,Ah,jA,jB,jE,jJ,jL,jH,jI,jG,List.getElem?_cons_zero,List.getElem?_cons_succ];obtain⟨X4,hX4⟩: ∃K',K'=upd X3 b3 (some (.cells [.int .u8 1, .vslice (dEx nb1) 1] 47)):=⟨_,rfl⟩;rw[<-hX4];have gb3:X4 b3=some (.cells [.int .u8 1, .vslice (dEx nb1) 1] 47):=by rw[hX4];exact Aa _ _ _
       have sX4:Sub X3 X4:=by rw[hX4];exact(Sub.refl _).new hb3 _
       refine⟨by rw[if_neg (Ad hb3 g314)], ?_⟩;intro b4 hb4;dsimp only at hb4;simp(disch:=omega)only[go_sem,Ah,jA,jB,jE,jJ,jL,jH,jI,jG,List.getElem?_cons_zero,List.getElem?_cons_succ];obtain⟨X5,hX5⟩: ∃K',K'=upd X4 b4 (some (.cells [.oslice 2 b3 0 1 1, .int .u8 1, .int .u8 0, .int .i64 1, .str [], .vslice [] 0, .vslice [] 0, .int .i64 0, .int .i64 0, .int .i64 0] 44)):=⟨_,rfl⟩;rw[<-hX5];have gb4:X5 b4=some (.cells [.oslice 2 b3 0 1 1, .int .u8 1, .int .u8 0, .int .i64 1, .str [], .vslice [] 0, .vslice [] 0, .int .i64 0, .int .i64 0, .int .i64 0] 44):=by rw[hX5];exact Aa _ _ _
       have sX5:Sub X4 X5:=by rw[hX5];exact(Sub.refl _).new hb4 _
       try refine⟨by first | rw[if_neg (Ad hb4 (sX4 _ _ g314))] | rw[if_neg (Ad hb4 (sX4 _ _ g314)),if_neg (Ad hb3 g314)], ?_⟩
       obtain⟨B2,sB2,hv3,kB2⟩:=(ob.up fun _ q hq=>sX5 _ _ (sX4 _ _ hq)).j (by rw[Bs,Ai3]) ((s3.trans sX4).trans sX5);refine Er.append (m:=1) hv3 rfl (by omega) fun vb2 X6 hv4=> ?_;obtain⟨w1,w2⟩:=hv4.cell1;have k6: ∀b o,X5 b=some o->o≠ .cells (Bj i bC) 44->X6 b=some o:=fun b o h1 h2=>hv4.sub _ _ (kB2 b o h1 h2);have g6:=k6 _ _ (sX5 _ _ (sX4 _ _ g314)) (cte (by decide));simp(disch:=omega)only[go_sem,x14,g6,w1,w2,Ah,jA,jB,jE,jJ,jL,jH,jI,jG,List.getElem?_cons_zero,List.getElem?_cons_succ];obtain⟨X7,hX7⟩: ∃K',K'=upd X6 r14 (some (.cells [.int .u8 9, .int .u8 0, .int .i64 0, .str [], .nilSlice,vb2, .int .i64 0, .int .i64 0, .int .i64 0] 27)):=⟨_,rfl⟩;rw[<-hX7];have k7: ∀b o,X6 b=some o->(∀v,o≠(.cells [.int .u8 9, .int .u8 0, .int .i64 0, .str [], .nilSlice,v, .int .i64 0, .int .i64 0, .int .i64 0] 27))->X7 b=some o:=fun b o h1 h2=>by
        have:b≠r14:=fun e=>by rw[e,g6] at h1;cases h1;exact h2 _ rfl
        rw[hX7,Aj _ _ _ _ this];exact h1
       have u35: ∀ {b o},X3 b=some o->X5 b=some o:=fun h=>sX5 _ _ (sX4 _ _ h);have g714:X7 r14=some (.cells [.int .u8 9, .int .u8 0, .int .i64 0, .str [], .nilSlice,vb2, .int .i64 0, .int .i64 0, .int .i64 0] 27):=by rw[hX7];exact Aa _ _ _
       have g713:X7 r13=some (.cells [.int .u8 7, .int .u8 0, .int .i64 0, .str [], .oslice 9 qf 0 1 1,va2, .int .i64 0, .int .i64 0, .int .i64 0] 27):=k7 _ _ (k6 _ _ (u35 g313) (cte (by decide))) fun v e=>by cases e
       have g7f:X7 qf=some (.cells [.int .u8 3, .int .u8 0, .int .i64 0, .str [102], .vslice [] 0, .vslice [] 0, .int .i64 0, .int .i64 0, .int .i64 0] 27):=k7 _ _ (k6 _ _ (u35 g3f) (cte (by decide))) fun v e=>by cases e
       have gc7:X7 b3=some (.cells [.int .u8 1, .vslice (dEx nb1) 1] 47):=k7 _ _ (k6 _ _ (sX5 _ _ gb3) (cte (by decide))) fun v=>cte (by decide);have s7:Sub H X7:=by rw[hX7];exact(sB2.trans hv4.sub).up hp.h14 _
       have oa7:=oa.up (M:=X7) fun _ q hq=>k7 _ _ (k6 _ _ (u35 hq) (By0 i)) fun v=>cte (by decide);have oc7:=oc.up (M:=X7) fun hi q hq=>k7 _ _ (k6 _ _ (u35 hq) (cte (by decide))) fun v=>cte (by decide);have hb30:=s3.lo hb3;rcases hv4 with⟨h,_⟩ | ⟨qb,hqb,-,rfl,gqb,-⟩
       ·exact absurd h (Nat.succ_ne_zero i)
       have gb7:=k7 _ _ gqb fun v=>cte (by decide);have hqb0:=sB2.lo hqb;clear k7 k6 g6 w1 w2 kB2 hv3 hX7 u35 gqb hqb sB2 gb4 sX5 sX4 gb3 oa ob oc g314 g313 g3f hb4;refine Ae.monoR (Bc G X7 1) ?_;simp(disch:=omega)only[go_sem,dE,nmE,Bi,Al,List.flatMap_nil,Ah,jA,jB,jE,jJ,jL,jH,jI,jG,List.getElem?_cons_zero,List.getElem?_cons_succ];refine Ae.monoR (Bc G X7 2) ?_;simp(disch:=omega)only[go_sem,dE,nmE,Bi,Al,List.flatMap_nil,Ah,jA,jB,jE,jJ,jL,jH,jI,jG,List.getElem?_cons_zero,List.getElem?_cons_succ];intro b5 hb5;dsimp only at hb5;simp(disch:=omega)only[go_sem,Ah,jA,jB,jE,jJ,jL,jH,jI,jG,List.getElem?_cons_zero,List.getElem?_cons_succ,Cq];refine Ae.fzA b5 hb5 ?_;rw[show fzs b5 [.int .u8 1, .int .u8 0, .int .i64 1, .str [], .vslice [] 0, .vslice [] 0, .int .i64 0, .int .i64 0, .int .i64 0, .int .u8 1, .int .u8 0, .int .i64 2, .str [], .vslice [] 0, .vslice [] 0, .int .i64 0, .int .i64 0, .int .i64 0] [.oslice 9 b5 0 2 2]= [dXs [nb1,nb2]] by simp [fzs,fz,dXs,nb1,nb2,Al]];refine Ae.monoR (Eb G X7 [nb1,nb2] (by decide)) ?_;rw[Aw2];simp(disch:=omega)only[go_sem,e15,Ah,jA,jB,jE,jJ,jL,jH,jI,jG,List.getElem?_cons_zero,List.getElem?_cons_succ];intro b6 hb6;dsimp only at hb6;simp(disch:=omega)only[go_sem,Ah,jA,jB,jE,jJ,jL,jH,jI,jG,List.getElem?_cons_zero,List.getElem?_cons_succ];obtain⟨X8,hX8⟩: ∃K',K'=upd X7 b6 (some (.cells [.int .u8 2, .vslice (dEx nb1++dEx nb2) 2] 47)):=⟨_,rfl⟩;rw[<-hX8];have gb6:X8 b6=some (.cells [.int .u8 2, .vslice (dEx nb1++dEx nb2) 2] 47):=by rw[hX8];exact Aa _ _ _
       have sX8:Sub X7 X8:=by rw[hX8];exact(Sub.refl _).new hb6 _
       obtain⟨B3,sB3,hv5,kB3⟩:=(oc7.up fun _ q hq=>sX8 _ _ hq).j (by rw[Bs,Sa];rfl) (s7.trans sX8);refine Er.append (m:=1) hv5 rfl (by omega) fun v2 X9 hv6=> ?_;rw[<-Sa,<-Fg] at hv6;have k9: ∀b o,X7 b=some o->o≠ .cells (Bj i cC) 47->X9 b=some o:=fun b o h1 h2=>hv6.sub _ _ (kB3 b o (sX8 _ _ h1) h2);have oc9:=Bs1.of hv6 sB3 (Nat.succ_ne_zero i);have s9:=sB3.trans hv6.sub;have g913:=k9 _ _ g713 (cte (by decide));have g914:=k9 _ _ g714 (cte (by decide));have g9f:=k9 _ _ g7f (cte (by decide));have gc9:=k9 _ _ gc7 (Yn i);have gb9:=k9 _ _ gb7 (cte (by decide));have oa9:=oa7.up (M:=X9) fun _ q hq=>k9 _ _ hq (cte (by decide));have nbq:b3≠qb:=fun e=>by rw[e,gb9] at gc9;exact cte (by decide) (Option.some.inj gc9)
       obtain⟨T,hT⟩: ∃T,T=upd (upd X9 b3 none) qb (some (.cells (Bj (i+1) bC) 44)):=⟨_,rfl⟩;have hd: ∀b,X9 b=none->T b=none:=fun b hb=>by
        have h1:b≠qb:=fun e=>by rw[e,gb9] at hb;cases hb
        rw[hT,Aj _ _ _ _ h1];by_cases h2:b=b3
        ·rw[h2];exact Aa _ _ _
        ·rw[Aj _ _ _ _ h2];exact hb
       have kT: ∀b o,X9 b=some o->o≠(.cells [.int .u8 1, .vslice (dEx nb1) 1] 47)->o≠(.cells (Bj i bC++ [.oslice 2 b3 0 1 1, .int .u8 1, .int .u8 0, .int .i64 1, .str [], .vslice [] 0, .vslice [] 0, .int .i64 0, .int .i64 0, .int .i64 0]) 44)->T b=some o:=fun b o h1 h2 h3=>by
        have n1:b≠qb:=fun e=>by rw[e,gb9] at h1;exact h3 (Option.some.inj h1).symm
        have n2:b≠b3:=fun e=>by rw[e,gc9] at h1;exact h2 (Option.some.inj h1).symm
        rw[hT,Aj _ _ _ _ n1,Aj _ _ _ _ n2];exact h1
       simp(disch:=omega)only[go_sem,x91,Ah,jA,jB,jE,jJ,jL,jH,jI,jG,List.getElem?_cons_zero,List.getElem?_cons_succ];refine⟨i+1,_,Lq.cell (cs':=Bj (i+1) bC) (B:=upd X9 b3 none) gb9 (Ra _ _) ?_,(hJ _ _ _).2 ?_,by omega⟩
       ·rw[<-hT,Fg,Bx9];refine Df.append (Df.keepD hd _) (.cons (Fc.cellsD ?_ gc9 rfl (Df.keepD hd _)) (Df.keepD hd _));rw[hT,Aj _ _ _ _ nbq];exact Aa _ _ _
       ·simp(disch:=omega)only[go_sem,x6,x90,x13,x14,hwi];(repeat' apply And.intro)<;>(try first | rfl | assumption | omega);refine⟨va2, .oslice 10 qb 0 (i+1) (i+1), ?_⟩;rw[<-hT];refine⟨?_,hp.h13,hp.h14,hp.hf,kT _ _ g9f (cte (by decide)) (cte (by decide)),kT _ _ g913 (cte (by decide)) (cte (by decide)),kT _ _ g914 (cte (by decide)) (cte (by decide)),oa9.up fun _ q hq=>kT _ _ hq (cte (by decide)) (By1 i b3), .inr ⟨Nat.succ_ne_zero i,qb,hqb0,rfl,by rw[hT];exact Aa _ _ _⟩,oc9.up fun _ q hq=>kT _ _ hq (fun e=>Yn (i+1) e.symm) (cte (by decide))⟩;rw[hT];exact(s9.up hb30 _).up hqb0 _
      ·intro b3 hb3;dsimp only at hb3;simp(disch:=omega)only[go_sem,Ah,jA,jB,jE,jJ,jL,jH,jI,jG,List.getElem?_cons_zero,List.getElem?_cons_succ];obtain⟨X4,hX4⟩: ∃K',K'=upd X3 b3 (some (.cells [.int .u8 1, .vslice (dEx nb1) 1] 47)):=⟨_,rfl⟩;rw[<-hX4];have gb3:X4 b3=some (.cells [.int .u8 1, .vslice (dEx nb1) 1] 47):=by rw[hX4];exact Aa _ _ _
       have sX4:Sub X3 X4:=by rw[hX4];exact(Sub.refl _).new hb3 _
       refine⟨by rw[if_neg (Ad hb3 g314)], ?_⟩;refine Ae.monoR (Bc G X4 1) ?_;simp(disch:=omega)only[go_sem,dE,nmE,Bi,Al,List.flatMap_nil,Ah,jA,jB,jE,jJ,jL,jH,jI,jG,List.getElem?_cons_zero,List.getElem?_cons_succ];intro b4 hb4;dsimp only at hb4;simp(disch:=omega)only[go_sem,Ah,jA,jB,jE,jJ,jL,jH,jI,jG,List.getElem?_cons_zero,List.getElem?_cons_succ];obtain⟨X5,hX5⟩: ∃K',K'=upd X4 b4 (some (.cells [.oslice 2 b3 0 1 1, .int .u8 1, .int .u8 0, .int .i64 1, .str [], .vslice [] 0, .vslice [] 0, .int .i64 0, .int .i64 0, .int .i64 0] 44)):=⟨_,rfl⟩;rw[<-hX5];have gb4:X5 b4=some (.cells [.oslice 2 b3 0 1 1, .int .u8 1, .int .u8 0, .int .i64 1, .str [], .vslice [] 0, .vslice [] 0, .int .i64 0, .int .i64 0, .int .i64 0] 44):=by rw[hX5];exact Aa _ _ _
       have sX5:Sub X4 X5:=by rw[hX5];exact(Sub.refl _).new hb4 _
       try refine⟨by first | rw[if_neg (Ad hb4 (sX4 _ _ g314))] | rw[if_neg (Ad hb4 (sX4 _ _ g314)),if_neg (Ad hb3 g314)], ?_⟩
       obtain⟨B2,sB2,hv3,kB2⟩:=(ob.up fun _ q hq=>sX5 _ _ (sX4 _ _ hq)).j (by rw[Bs,Ai3]) ((s3.trans sX4).trans sX5);refine Er.append (m:=1) hv3 rfl (by omega) fun vb2 X6 hv4=> ?_;obtain⟨w1,w2⟩:=hv4.cell1;have k6: ∀b o,X5 b=some o->o≠ .cells (Bj i bC) 44->X6 b=some o:=fun b o h1 h2=>hv4.sub _ _ (kB2 b o h1 h2);have g6:=k6 _ _ (sX5 _ _ (sX4 _ _ g314)) (cte (by decide));simp(disch:=omega)only[go_sem,x14,g6,w1,w2,Ah,jA,jB,jE,jJ,jL,jH,jI,jG,List.getElem?_cons_zero,List.getElem?_cons_succ];obtain⟨X7,hX7⟩: ∃K',K'=upd X6 r14 (some (.cells [.int .u8 9, .int .u8 0, .int .i64 0, .str [], .nilSlice,vb2, .int .i64 0, .int .i64 0, .int .i64 0] 27)):=⟨_,rfl⟩;rw[<-hX7];have k7: ∀b o,X6 b=some o->(∀v,o≠(.cells [.int .u8 9, .int .u8 0, .int .i64 0, .str [], .nilSlice,v, .int .i64 0, .int .i64 0, .int .i64 0] 27))->X7 b=some o:=fun b o h1 h2=>by
        have:b≠r14:=fun e=>by rw[e,g6] at h1;cases h1;exact h2 _ rfl
        rw[hX7,Aj _ _ _ _ this];exact h1
       have u35: ∀ {b o},X3 b=some o->X5 b=some o:=fun h=>sX5 _ _ (sX4 _ _ h);have g714:X7 r14=some (.cells [.int .u8 9, .int .u8 0, .int .i64 0, .str [], .nilSlice,vb2, .int .i64 0, .int .i64 0, .int .i64 0] 27):=by rw[hX7];exact Aa _ _ _
       have g713:X7 r13=some (.cells [.int .u8 7, .int .u8 0, .int .i64 0, .str [], .oslice 9 qf 0 1 1,va2, .int .i64 0, .int .i64 0, .int .i64 0] 27):=k7 _ _ (k6 _ _ (u35 g313) (cte (by decide))) fun v e=>by cases e
       have g7f:X7 qf=some (.cells [.int .u8 3, .int .u8 0, .int .i64 0, .str [102], .vslice [] 0, .vslice [] 0, .int .i64 0, .int .i64 0, .int .i64 0] 27):=k7 _ _ (k6 _ _ (u35 g3f) (cte (by decide))) fun v e=>by cases e
       have gc7:X7 b3=some (.cells [.int .u8 1, .vslice (dEx nb1) 1] 47):=k7 _ _ (k6 _ _ (sX5 _ _ gb3) (cte (by decide))) fun v=>cte (by decide);have s7:Sub H X7:=by rw[hX7];exact(sB2.trans hv4.sub).up hp.h14 _
       have oa7:=oa.up (M:=X7) fun _ q hq=>k7 _ _ (k6 _ _ (u35 hq) (By0 i)) fun v=>cte (by decide);have oc7:=oc.up (M:=X7) fun hi q hq=>k7 _ _ (k6 _ _ (u35 hq) (cte (by decide))) fun v=>cte (by decide);have hb30:=s3.lo hb3;rcases hv4 with⟨h,_⟩ | ⟨qb,hqb,-,rfl,gqb,-⟩
       ·exact absurd h (Nat.succ_ne_zero i)
       have gb7:=k7 _ _ gqb fun v=>cte (by decide);have hqb0:=sB2.lo hqb;clear k7 k6 g6 w1 w2 kB2 hv3 hX7 u35 gqb hqb sB2 gb4 sX5 sX4 gb3 oa ob oc g314 g313 g3f hb4;refine Ae.monoR (Bc G X7 1) ?_;simp(disch:=omega)only[go_sem,dE,nmE,Bi,Al,List.flatMap_nil,Ah,jA,jB,jE,jJ,jL,jH,jI,jG,List.getElem?_cons_zero,List.getElem?_cons_succ];refine Ae.monoR (Bc G X7 2) ?_;simp(disch:=omega)only[go_sem,dE,nmE,Bi,Al,List.flatMap_nil,Ah,jA,jB,jE,jJ,jL,jH,jI,jG,List.getElem?_cons_zero,List.getElem?_cons_succ];intro b5 hb5;dsimp only at hb5;simp(disch:=omega)only[go_sem,Ah,jA,jB,jE,jJ,jL,jH,jI,jG,List.getElem?_cons_zero,List.getElem?_cons_succ,Cq];refine Ae.fzA b5 hb5 ?_;rw[show fzs b5 [.int .u8 1, .int .u8 0, .int .i64 1, .str [], .vslice [] 0, .vslice [] 0, .int .i64 0, .int .i64 0, .int .i64 0, .int .u8 1, .int .u8 0, .int .i64 2, .str [], .vslice [] 0, .vslice [] 0, .int .i64 0, .int .i64 0, .int .i64 0] [.oslice 9 b5 0 2 2]= [dXs [nb1,nb2]] by simp [fzs,fz,dXs,nb1,nb2,Al]];refine Ae.monoR (Eb G X7 [nb1,nb2] (by decide)) ?_;rw[Aw2];simp(disch:=omega)only[go_sem,e15,Ah,jA,jB,jE,jJ,jL,jH,jI,jG,List.getElem?_cons_zero,List.getElem?_cons_succ];intro b6 hb6;dsimp only at hb6;simp(disch:=omega)only[go_sem,Ah,jA,jB,jE,jJ,jL,jH,jI,jG,List.getElem?_cons_zero,List.getElem?_cons_succ];obtain⟨X8,hX8⟩: ∃K',K'=upd X7 b6 (some (.cells [.int .u8 2, .vslice (dEx nb1++dEx nb2) 2] 47)):=⟨_,rfl⟩;rw[<-hX8];have gb6:X8 b6=some (.cells [.int .u8 2, .vslice (dEx nb1++dEx nb2) 2] 47):=by rw[hX8];exact Aa _ _ _
       have sX8:Sub X7 X8:=by rw[hX8];exact(Sub.refl _).new hb6 _
       obtain⟨B3,sB3,hv5,kB3⟩:=(oc7.up fun _ q hq=>sX8 _ _ hq).j (by rw[Bs,Sa];rfl) (s7.trans sX8);refine Er.append (m:=1) hv5 rfl (by omega) fun v2 X9 hv6=> ?_;rw[<-Sa,<-Fg] at hv6;have k9: ∀b o,X7 b=some o->o≠ .cells (Bj i cC) 47->X9 b=some o:=fun b o h1 h2=>hv6.sub _ _ (kB3 b o (sX8 _ _ h1) h2);have oc9:=Bs1.of hv6 sB3 (Nat.succ_ne_zero i);have s9:=sB3.trans hv6.sub;have g913:=k9 _ _ g713 (cte (by decide));have g914:=k9 _ _ g714 (cte (by decide));have g9f:=k9 _ _ g7f (cte (by decide));have gc9:=k9 _ _ gc7 (Yn i);have gb9:=k9 _ _ gb7 (cte (by decide));have oa9:=oa7.up (M:=X9) fun _ q hq=>k9 _ _ hq (cte (by decide));have nbq:b3≠qb:=fun e=>by rw[e,gb9] at gc9;exact cte (by decide) (Option.some.inj gc9)
       obtain⟨T,hT⟩: ∃T,T=upd (upd X9 b3 none) qb (some (.cells (Bj (i+1) bC) 44)):=⟨_,rfl⟩;have hd: ∀b,X9 b=none->T b=none:=fun b hb=>by
        have h1:b≠qb:=fun e=>by rw[e,gb9] at hb;cases hb
        rw[hT,Aj _ _ _ _ h1];by_cases h2:b=b3
        ·rw[h2];exact Aa _ _ _
        ·rw[Aj _ _ _ _ h2];exact hb
       have kT: ∀b o,X9 b=some o->o≠(.cells [.int .u8 1, .vslice (dEx nb1) 1] 47)->o≠(.cells (Bj i bC++ [.oslice 2 b3 0 1 1, .int .u8 1, .int .u8 0, .int .i64 1, .str [], .vslice [] 0, .vslice [] 0, .int .i64 0, .int .i64 0, .int .i64 0]) 44)->T b=some o:=fun b o h1 h2 h3=>by
        have n1:b≠qb:=fun e=>by rw[e,gb9] at h1;exact h3 (Option.some.inj h1).symm
        have n2:b≠b3:=fun e=>by rw[e,gc9] at h1;exact h2 (Option.some.inj h1).symm
        rw[hT,Aj _ _ _ _ n1,Aj _ _ _ _ n2];exact h1
       simp(disch:=omega)only[go_sem,x91,Ah,jA,jB,jE,jJ,jL,jH,jI,jG,List.getElem?_cons_zero,List.getElem?_cons_succ];refine⟨i+1,_,Lq.cell (cs':=Bj (i+1) bC) (B:=upd X9 b3 none) gb9 (Ra _ _) ?_,(hJ _ _ _).2 ?_,by omega⟩
       ·rw[<-hT,Fg,Bx9];refine Df.append (Df.keepD hd _) (.cons (Fc.cellsD ?_ gc9 rfl (Df.keepD hd _)) (Df.keepD hd _));rw[hT,Aj _ _ _ _ nbq];exact Aa _ _ _
       ·simp(disch:=omega)only[go_sem,x6,x90,x13,x14,hwi];(repeat' apply And.intro)<;>(try first | rfl | assumption | omega);refine⟨va2, .oslice 10 qb 0 (i+1) (i+1), ?_⟩;rw[<-hT];refine⟨?_,hp.h13,hp.h14,hp.hf,kT _ _ g9f (cte (by decide)) (cte (by decide)),kT _ _ g913 (cte (by decide)) (cte (by decide)),kT _ _ g914 (cte (by decide)) (cte (by decide)),oa9.up fun _ q hq=>kT _ _ hq (cte (by decide)) (By1 i b3), .inr ⟨Nat.succ_ne_zero i,qb,hqb0,rfl,by rw[hT];exact Aa _ _ _⟩,oc9.up fun _ q hq=>kT _ _ hq (fun e=>Yn (i+1) e.symm) (cte (by decide))⟩;rw[hT];exact(s9.up hb30 _).up hqb0 _
     ·obtain rfl:i=k:=by omega
      have hlt2': ¬(i:Int)<(i:Int):=by omega
      obtain⟨sX,_,_,_,gf,g13,g14,pa,pb,pc⟩:=hp;rcases pa with⟨h,_⟩ | ⟨hi0,qa,-,rfl,gqa⟩
      ·omega
      rcases pb with⟨h,_⟩ | ⟨-,qb,-,rfl,gqb⟩
      ·omega
      rcases pc with⟨h,_⟩ | ⟨-,qc,-,rfl,gqc⟩
      ·omega
      simp(disch:=omega)only[go_sem,x6,x90,x91,x13,x14,e15,hlt2',Ah,jA,jB,jE,jJ,jL,jH,jI,jG,List.getElem?_cons_zero,List.getElem?_cons_succ];refine Ae.monoR (Bc G X 1) ?_;simp(disch:=omega)only[go_sem,dE,nmE,Bi,Al,List.flatMap_nil,Ah,jA,jB,jE,jJ,jL,jH,jI,jG,List.getElem?_cons_zero,List.getElem?_cons_succ];intro b1 hb1;dsimp only at hb1;simp(disch:=omega)only[go_sem,Ah,jA,jB,jE,jJ,jL,jH,jI,jG,List.getElem?_cons_zero,List.getElem?_cons_succ];obtain⟨X1,hX1⟩: ∃K',K'=upd X b1 (some (.cells [.oslice 2 qc 0 i i, .int .u8 1, .int .u8 0, .int .i64 1, .str [], .vslice [] 0, .vslice [] 0, .int .i64 0, .int .i64 0, .int .i64 0] 44)):=⟨_,rfl⟩;rw[<-hX1];have gb1:X1 b1=some (.cells [.oslice 2 qc 0 i i, .int .u8 1, .int .u8 0, .int .i64 1, .str [], .vslice [] 0, .vslice [] 0, .int .i64 0, .int .i64 0, .int .i64 0] 44):=by rw[hX1];exact Aa _ _ _
      have sX1:Sub X X1:=by rw[hX1];exact(Sub.refl _).new hb1 _
      intro r16 hr16;dsimp only at hr16;simp(disch:=omega)only[go_sem,Ah,jA,jB,jE,jJ,jL,jH,jI,jG,List.getElem?_cons_zero,List.getElem?_cons_succ];obtain⟨X2,hX2⟩: ∃K',K'=upd X1 r16 (some (.cells [.int .u8 9, .int .u8 0, .int .i64 0, .str [], .nilSlice, .oslice 10 b1 0 1 1, .int .i64 0, .int .i64 0, .int .i64 0] 27)):=⟨_,rfl⟩;rw[<-hX2];have sX2:Sub X1 X2:=by rw[hX2];exact(Sub.refl _).new hr16 _
      have g16:X2 r16=some (.cells [.int .u8 9, .int .u8 0, .int .i64 0, .str [], .nilSlice, .oslice 10 b1 0 1 1, .int .i64 0, .int .i64 0, .int .i64 0] 27):=by rw[hX2];exact Aa _ _ _
      have u2: ∀ {b o},X b=some o->X2 b=some o:=fun h=>sX2 _ _ (sX1 _ _ h);have gf:=u2 gf;have g13:=u2 g13;have g14:=u2 g14;have gqa:=u2 gqa;have gqb:=u2 gqb;have gqc:=u2 gqc;have gb1:=sX2 _ _ gb1;have hz:Sub h0 X2:=fun _ _ h=>by cases h
      have hi41:i<41:=by omega
      have hi1:1<=i:=by omega
      obtain⟨z1,z2,z3,z4,z5⟩:=Ap2 ⟨i,hi41⟩ hi1;obtain⟨y1,y2,y3,y4,y5⟩:=Ap3 ⟨i,hi41⟩;dsimp only at z1 z2 z3 z4 z5 y1 y2 y3 y4 y5;have v1:=Df.lent (.cons (Fc.agg (Fc.ex (k:=7) (o:=0) (n:=0) (s:= []) (l:= [exF]) (a:=List.replicate i Yu) (li:=0) (en:=0) (t:=0) hz (Cz5 hz gf) (Aw4 hz gqa))) .nil) (Eg hG h0 (Bg9 i) ⟨Nat.le_trans y1 (by decide),By3 i⟩) rfl;have v2:=Df.lent (.cons (Fc.agg (Fc.ex (k:=9) (o:=0) (n:=0) (s:= []) (l:= []) (a:=List.replicate i Ck2) (li:=0) (en:=0) (t:=0) hz (.exs0 hz) (Cz6 hz gqb))) .nil) (Eg hG h0 (Cz0 i) ⟨Nat.le_trans y2 (by decide),Cz4 i⟩) rfl;have v3:=Df.lent (.cons (Bs2 hz gqc) .nil) (Pd hG h0 (List.replicate i Xm) (Nat.le_trans y3 (by decide)) (By2 Aw3 i)) rfl;have v4:=Df.lent (.cons (Fc.agg (Fc.ex (k:=9) (o:=0) (n:=0) (s:= []) (l:= []) (a:= [.mk (List.replicate i Xm) nb1]) (li:=0) (en:=0) (t:=0) hz (.exs0 hz) (Cz7 hz gb1 gqc))) .nil) (Eg hG h0 (Bh0 i) ⟨Nat.le_trans y4 (by decide),By4 i⟩) rfl;have v5:=Df.lent (.cons (Aw4 hz gqa) .nil) (Us hG h0 (List.replicate i Yu) (Nat.le_trans y5 (by decide)) (Bh2 (a:=Yu) ⟨trivial,Tj⟩ i)) rfl;rw[z1] at v1;rw[z2] at v2;rw[z3] at v3;rw[z4] at v4;rw[z5] at v5;have sH2:Sub H X2:=(sX.trans sX1).trans sX2;by_cases c8:i<=8
      ·have w8:(i:Int)<=8:=by omega
       have w16:(i:Int)<=16:=by omega
       have w32:(i:Int)<=32:=by omega
       have d8:decide (i<=8)=decide ((i:Int)<=8):=by simp only[Int.ofNat_le,decide_eq_decide];omega
       have d16:decide (i<=16)=decide ((i:Int)<=16):=by simp only[decide_eq_decide];omega
       have d32:decide (i<=32)=decide ((i:Int)<=32):=by simp only[decide_eq_decide];omega
       simp only[d8,d16,d32,w8,w16,w32,decide_true,decide_false] at v1 v2 v3 v4 v5;simp(disch:=omega)only[go_sem,x13,g13,Ah,jA,jB,jE,jJ,jL,jH,jI,jG,List.getElem?_cons_zero,List.getElem?_cons_succ];refine Ae.monoR v1 ?_;simp(disch:=omega)only[go_sem,x6,x14,g14,w8,Ah,jA,jB,jE,jJ,jL,jH,jI,jG,List.getElem?_cons_zero,List.getElem?_cons_succ];refine Ae.monoR v2 ?_;simp(disch:=omega)only[go_sem,x6,e15,w32,Ah,jA,jB,jE,jJ,jL,jH,jI,jG,List.getElem?_cons_zero,List.getElem?_cons_succ];refine Ae.monoR v3 ?_;simp(disch:=omega)only[go_sem,x6,g16,w16,Ah,jA,jB,jE,jJ,jL,jH,jI,jG,List.getElem?_cons_zero,List.getElem?_cons_succ];refine Ae.monoR v4 ?_;simp(disch:=omega)only[go_sem,x6,x13,g13,w16,Ah,jA,jB,jE,jJ,jL,jH,jI,jG,List.getElem?_cons_zero,List.getElem?_cons_succ];refine Ae.monoR v5 ?_;simp(disch:=omega)only[go_sem,x6,w8,Ah,jA,jB,jE,jJ,jL,jH,jI,jG,List.getElem?_cons_zero,List.getElem?_cons_succ];refine Ae.monoR (Hd hG X2) ?_;simp(disch:=omega)only[go_sem];exact Pl.sub sH2 (.refl ⟨rfl,rfl⟩)
      ·have w8: ¬(i:Int)<=8:=by omega
       by_cases c16:i<=16
       ·have w16:(i:Int)<=16:=by omega
        have w32:(i:Int)<=32:=by omega
        have d8:decide (i<=8)=decide ((i:Int)<=8):=by simp only[Int.ofNat_le,decide_eq_decide];omega
        have d16:decide (i<=16)=decide ((i:Int)<=16):=by simp only[decide_eq_decide];omega
        have d32:decide (i<=32)=decide ((i:Int)<=32):=by simp only[decide_eq_decide];omega
        simp only[d8,d16,d32,w8,w16,w32,decide_true,decide_false] at v1 v2 v3 v4 v5;simp(disch:=omega)only[go_sem,x13,g13,Ah,jA,jB,jE,jJ,jL,jH,jI,jG,List.getElem?_cons_zero,List.getElem?_cons_succ];refine Ae.monoR v1 ?_;simp(disch:=omega)only[go_sem,x6,x14,g14,w8,Ah,jA,jB,jE,jJ,jL,jH,jI,jG,List.getElem?_cons_zero,List.getElem?_cons_succ];refine Ae.monoR v2 ?_;simp(disch:=omega)only[go_sem,x6,e15,w32,Ah,jA,jB,jE,jJ,jL,jH,jI,jG,List.getElem?_cons_zero,List.getElem?_cons_succ];refine Ae.monoR v3 ?_;simp(disch:=omega)only[go_sem,x6,g16,w16,Ah,jA,jB,jE,jJ,jL,jH,jI,jG,List.getElem?_cons_zero,List.getElem?_cons_succ];refine Ae.monoR v4 ?_;simp(disch:=omega)only[go_sem,x6,x13,g13,w16,Ah,jA,jB,jE,jJ,jL,jH,jI,jG,List.getElem?_cons_zero,List.getElem?_cons_succ];refine Ae.monoR v5 ?_;simp(disch:=omega)only[go_sem,x6,w8,Ah,jA,jB,jE,jJ,jL,jH,jI,jG,List.getElem?_cons_zero,List.getElem?_cons_succ];refine Ae.monoR (Hd hG X2) ?_;simp(disch:=omega)only[go_sem];exact Pl.sub sH2 (.refl ⟨rfl,rfl⟩)
       ·have w16: ¬(i:Int)<=16:=by omega
        by_cases c32:i<=32
        ·have w32:(i:Int)<=32:=by omega
         have d8:decide (i<=8)=decide ((i:Int)<=8):=by simp only[Int.ofNat_le,decide_eq_decide];omega
         have d16:decide (i<=16)=decide ((i:Int)<=16):=by simp only[decide_eq_decide];omega
         have d32:decide (i<=32)=decide ((i:Int)<=32):=by simp only[decide_eq_decide];omega
         simp only[d8,d16,d32,w8,w16,w32,decide_true,decide_false] at v1 v2 v3 v4 v5;simp(disch:=omega)only[go_sem,x13,g13,Ah,jA,jB,jE,jJ,jL,jH,jI,jG,List.getElem?_cons_zero,List.getElem?_cons_succ];refine Ae.monoR v1 ?_;simp(disch:=omega)only[go_sem,x6,x14,g14,w8,Ah,jA,jB,jE,jJ,jL,jH,jI,jG,List.getElem?_cons_zero,List.getElem?_cons_succ];refine Ae.monoR v2 ?_;simp(disch:=omega)only[go_sem,x6,e15,w32,Ah,jA,jB,jE,jJ,jL,jH,jI,jG,List.getElem?_cons_zero,List.getElem?_cons_succ];refine Ae.monoR v3 ?_;simp(disch:=omega)only[go_sem,x6,g16,w16,Ah,jA,jB,jE,jJ,jL,jH,jI,jG,List.getElem?_cons_zero,List.getElem?_cons_succ];refine Ae.monoR v4 ?_;simp(disch:=omega)only[go_sem,x6,x13,g13,w16,Ah,jA,jB,jE,jJ,jL,jH,jI,jG,List.getElem?_cons_zero,List.getElem?_cons_succ];refine Ae.monoR v5 ?_;simp(disch:=omega)only[go_sem,x6,w8,Ah,jA,jB,jE,jJ,jL,jH,jI,jG,List.getElem?_cons_zero,List.getElem?_cons_succ];refine Ae.monoR (Hd hG X2) ?_;simp(disch:=omega)only[go_sem];exact Pl.sub sH2 (.refl ⟨rfl,rfl⟩)
        ·have w32: ¬(i:Int)<=32:=by omega
         have d8:decide (i<=8)=decide ((i:Int)<=8):=by simp only[Int.ofNat_le,decide_eq_decide];omega
         have d16:decide (i<=16)=decide ((i:Int)<=16):=by simp only[decide_eq_decide];omega
         have d32:decide (i<=32)=decide ((i:Int)<=32):=by simp only[decide_eq_decide];omega
         simp only[d8,d16,d32,w8,w16,w32,decide_true,decide_false] at v1 v2 v3 v4 v5;simp(disch:=omega)only[go_sem,x13,g13,Ah,jA,jB,jE,jJ,jL,jH,jI,jG,List.getElem?_cons_zero,List.getElem?_cons_succ];refine Ae.monoR v1 ?_;simp(disch:=omega)only[go_sem,x6,x14,g14,w8,Ah,jA,jB,jE,jJ,jL,jH,jI,jG,List.getElem?_cons_zero,List.getElem?_cons_succ];refine Ae.monoR v2 ?_;simp(disch:=omega)only[go_sem,x6,e15,w32,Ah,jA,jB,jE,jJ,jL,jH,jI,jG,List.getElem?_cons_zero,List.getElem?_cons_succ];refine Ae.monoR v3 ?_;simp(disch:=omega)only[go_sem,x6,g16,w16,Ah,jA,jB,jE,jJ,jL,jH,jI,jG,List.getElem?_cons_zero,List.getElem?_cons_succ];refine Ae.monoR v4 ?_;simp(disch:=omega)only[go_sem,x6,x13,g13,w16,Ah,jA,jB,jE,jJ,jL,jH,jI,jG,List.getElem?_cons_zero,List.getElem?_cons_succ];refine Ae.monoR v5 ?_;simp(disch:=omega)only[go_sem,x6,w8,Ah,jA,jB,jE,jJ,jL,jH,jI,jG,List.getElem?_cons_zero,List.getElem?_cons_succ];refine Ae.monoR (Hd hG X2) ?_;simp(disch:=omega)only[go_sem];exact Pl.sub sH2 (.refl ⟨rfl,rfl⟩)
end
end Go.Dl
