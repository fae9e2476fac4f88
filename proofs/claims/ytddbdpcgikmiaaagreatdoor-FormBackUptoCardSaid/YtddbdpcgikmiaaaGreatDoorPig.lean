/- The data level and the contracts of the functions that are reached (part 7). -/
import Derived.Test.YtddbdpcgikmiaaaGreatDoorPif
set_option linter.unusedSimpArgs false
set_option linter.unusedVariables false
set_option linter.unusedSectionVars false
set_option maxHeartbeats 400000000
-- Uu
namespace Go.Dl
open Go Go.Proofs
set_option maxRecDepth 100000
section
variable {G:Nat->DVal} {H0 H H' K T B:Ab} {r k:Nat} {l:List Tok}
theorem Wd (y: ∀b,K b=none->T b=none) (w:World):Lasts K w T w:=⟨λb i x hb hc=>⟨y b hb,hc⟩,Nat.le_refl _,λ_ _=>rfl⟩
theorem Ln.keepD (y: ∀b,K b=none->T b=none) (v:DVal):Ln K v T v:=λw _ x hx=>Rel.lasts (Wd y w) _ _ hx
theorem Km.keepD (y: ∀b,K b=none->T b=none) (vs:List DVal):Km K vs T vs:=λw _ x hx=>Ar.lasts (Wd y w) _ _ hx
theorem Ln.cellsD {e:TypeId} {size q n:Nat} {cs cs':List DVal} (hr:T q=none) (D:K q=some (.cells cs e)) (hl:cs.length=n*size) (hs:Km K cs T cs'):Ln K (.oslice size q 0 n n) T (.vslice cs' n):=λw hw x hx=>by
 simp only[Rel] at hx⊢
 obtain⟨o,cap,rfl,h1,h2,h3,h4⟩:=hx;refine⟨_,cap,rfl,h2, ?_⟩;by_cases h0:cs= []
 ·subst h0;have:=hs w hw [] (by simp [Ar]);cases cs' with
  |nil=>exact .inl rfl
  |cons c cs'=>simp [Ar] at this
 ·obtain⟨C,E,hh⟩:=hw.holds D;have ho:o=0:=by
   rcases h3 with h3|h3
   ·exfalso;(have:n=0:=by omega);subst this;rw[Nat.zero_mul] at hl;exact h0 (List.length_eq_zero_iff.1 hl)
   ·exact h3
  subst ho;exact .inr ⟨q,0,C,rfl,.inr ⟨hr,λi y I=>by simpa using hh i y I⟩,hs w hw C E⟩
theorem Ln.ownD {e:TypeId} {size n:Nat} {cs:List DVal} {v:DVal} (y: ∀b,K b=none->T b=none) (C: ∀b,B b=none->T b=none) (hv:Ik B e size n cs v K):Ln K v T (.vslice cs n):=by
 rcases hv with⟨rfl,rfl,rfl,_⟩|⟨q,h1,h2,rfl,h4,_⟩
 ·exact λw _ x hx=>Rel.lasts (Wd y w) _ _ (DLe.nil w K x hx)
 ·exact Ln.cellsD (C q h1) h4 h2 (Km.keepD y _)
theorem Km.exD {k o n:Int} {s:List UInt8} {C D:DVal} {m:List Ex} {a:List As} {li en t:Int} (y: ∀b,K b=none->T b=none) (hl:Ln K C T (dXs m)) (ha:Ln K D T (dAl a)):
  Km K [.int .u8 k,.int .u8 o,.int .i64 n,.str s,C,D,.int .i64 li,.int .i64 en,.int .i64 t] T (dEx (.mk k o n s m a li en t)):=by
 rw[Ys];exact .cons (.keepD y _) (.cons (.keepD y _) (.cons (.keepD y _) (.cons (.keepD y _) (.cons hl (.cons ha (.keepD y _))))))
theorem Ln.as0D (y: ∀b,K b=none->T b=none):Ln K .nilSlice T (dAl []):=λw _ x hx=>Rel.lasts (Wd y w) _ _ (DLe.nil w K x hx)
theorem Ln.exs0D (y: ∀b,K b=none->T b=none):Ln K .nilSlice T (dXs []):=λw _ x hx=>Rel.lasts (Wd y w) _ _ (DLe.nil w K x hx)
theorem Fl6 {y:Ab} {C k':Nat} {o z:DObj} {l:List Tok} {r:Nat} (D:RAt r l k' y K) (E:K C=some o): ∀b,K b=none->(upd (upd y r (some (rdO l k'))) C (some z)) b=none:=λb hb=>by
 simp only[upd];split
 ·rename_i e1;rw[e1,E] at hb;cases hb
 ·have:=Sub.lo D hb;simpa only[upd] using this
theorem Rn.cell {env:Nat->DVal} {y:Nat} {cs cs':List DVal} {e:TypeId} (D:K y=some (.cells cs e)) (E:Sub B K) (hs:Km K cs (upd B y (some (.cells cs' e))) cs'):Rn G ⟨env,K⟩ ⟨env,upd B y (some (.cells cs' e))⟩:=λw C hG=>by
 have hd: ∀b,K b=none->(upd B y (some (.cells cs' e))) b=none:=λb hb=>by
  simp only[upd];split
  ·rename_i e1;rw[e1,D] at hb;cases hb
  ·exact E.lo hb
 refine⟨λb o hb=> ?_,λb hb h=>hb (hd b h),hG.lasts (Wd hd w),λi x hx=>Rel.lasts (Wd hd w) _ _ hx⟩;simp only[upd] at hb;split at hb
 ·rename_i e1
  subst e1;cases hb;obtain⟨xs,c,fz,I,J,L,M⟩:=C _ _ D;exact⟨xs,c,fz,I,J,hs w C xs L,M⟩
 ·exact(C b o (E b o hb)).lasts (Wd hd w)
theorem RAt.up {r k C:Nat} {l:List Tok} {H y K:Ab} (h:RAt r l k y K) (D:RAt r l C H y):RAt r l k H K:=λb o hb=>by
 simp only[upd] at hb;by_cases c:b=r
 ·rw[if_pos c] at hb;exact h b o (by simp only[upd];rw[if_pos c];exact hb)
 ·rw[if_neg c] at hb;exact h b o (by simp only[upd];rw[if_neg c];exact D b o (by simp only[upd];rw[if_neg c];exact hb))
theorem Yy {y:Ab} {C q k':Nat} {x:Ex} {e:TypeId} {o:DObj} {z:DObj} {l:List Tok} {r:Nat} {D:DVal} {a:List As} {E li:Int} {s:List UInt8} (I:RAt r l k' y K) (J:K C=some o) (L:y q=none) (M:q≠r) (O:q≠C) (S:K q=some (.cells (dEx x) e)) (ha: ∀T,(∀b,K b=none->T b=none)->Ln K D T (dAl a)):
  Km K (zX E 0 0 s (.oslice 9 q 0 1 1) D li) (upd (upd y r (some (rdO l k'))) C (some z)) (dEx (.mk E 0 0 s [x] a li 0 0)):=by
 have hd: ∀b,K b=none->(upd (upd y r (some (rdO l k'))) C (some z)) b=none:=λb hb=>by
  simp only[upd];split
  ·rename_i e1;rw[e1,J] at hb;cases hb
  ·have:=Sub.lo I hb;simpa only[upd] using this
 refine Km.exD hd ?_ (ha _ hd);show Ln K _ _ (.vslice ([x].flatMap dEx) 1);rw[List.flatMap_singleton];exact Ln.cellsD (by simp only[upd];rw[if_neg O,if_neg M];exact L) S (by rw[Af]) (Km.keepD hd _)
theorem Ds7 {C B:Ab} {D k':Nat} {x y:Ex} {e:TypeId} {o:DObj} {z:DObj} {l:List Tok} {r:Nat} {v:DVal} {I li:Int} {s:List UInt8} (J:RAt r l k' C K) (E:K D=some o) (L:RAt r l k' C B) (M:B D≠none) (hv:Ik B e 9 2 ([x,y].flatMap dEx) v K):
  Km K (zX I 0 0 s v .nilSlice li) (upd (upd C r (some (rdO l k'))) D (some z)) (dEx (.mk I 0 0 s [x,y] [] li 0 0)):=by
 have key: ∀K':Ab,RAt r l k' C K'->K' D≠none-> ∀b,K' b=none->(upd (upd C r (some (rdO l k'))) D (some z)) b=none:=λK' ht E b hb=>by
  simp only[upd];split
  ·rename_i e1;rw[e1] at hb;exact absurd hb E
  ·have:=Sub.lo ht hb;simpa only[upd] using this
 have hd:=key K J (by rw[E];simp);exact Km.exD hd (Ln.ownD hd (key B L M) hv) (.as0D hd)
end
section
variable {G:Nat->DVal} {H0 H H':Ab} {r k:Nat} {l:List Tok}
theorem Es5 (hG:GX G) (hl:l.length<=12800000) (n:Nat) (cg: ∀m≤n,RdC Tryz.prog G l 251 r λk=>((P l m).arg k).mp dA) (ci: ∀m≤n,RdC Tryz.prog G l 173 r λk=>((P l m).paren k).mp dE):RdC Tryz.prog G l 65 r λk=>((P l (n+1)).name k).mp dE:=by
 intro H k hr hk hn;obtain⟨t,ht⟩: ∃t,t=tk l k:=⟨_,rfl⟩;have e:(P l (n+1)).name k=Jg l k λs k1=>(P l n).nameL (tk l k).line (.mk 3 0 0 s [] [] (tk l k).line 0 0) k1:=rfl;dsimp only at hn⊢
 rw[e,Jg,<-ht] at hn⊢
 refine dci Tryz.func65 Tryz.call65 ?_;simp(disch:=omega)only[go_sem];intro r2 a9;dsimp only at a9;obtain⟨Ha,be⟩: ∃K,K=upd H r2 (some (.cells zY 27)):=⟨_,rfl⟩;rw[<-be];have cj:Ha r2=some (.cells zY 27):=by rw[be];exact Aa _ _ _
 have n2:r≠r2:=Ac a9 hr;have q2:=n2.symm;have ha:RAt r l k H Ha:=by rw[be];exact(RAt.refl hr).new a9 _
 simp(disch:=omega)only[go_sem];refine(Bb8 G Ha 1 ha.get (by omega) (by omega)).mono ?_;intro e1 H1 hq;rw[<-ht] at hq;by_cases c:t.kind=1
 ·rw[if_pos c] at hn hq⊢
  obtain⟨rfl,ba⟩:=hq;have dl:k+1<=l.length:=Ry (by rw[<-ht,c];decide);have J:RAt r l (k+1) H H1:=by rw[ba];exact ha.set _
  have bw:H1 r2=some (.cells zY 27):=by rw[ba];exact Aj cj q2
  simp(disch:=omega)only[go_sem,Cu];intro r3 au;dsimp only at au;have ck:r2≠r3:=Ac au bw;have n3:r≠r3:=Ac au J.get;have q3:=n3.symm;have dm:H r3=none:=J.lo au;simp(disch:=omega)only[go_sem];obtain⟨O,bb⟩: ∃K,K=upd H1 r3 (some (.cells [.int .u8 t.kind,dI t.line,.str t.text,dI t.n] 31)):=⟨_,rfl⟩;rw[<-bb];have bx:O r3=some (.cells [.int .u8 t.kind,dI t.line,.str t.text,dI t.n] 31):=by rw[bb];exact Aa _ _ _
  have bz:O r2=some (.cells zY 27):=by rw[bb];exact Aj bw ck
  have af:RAt r l (k+1) H O:=by rw[bb];exact J.new au _
  intro E ac;dsimp only at ac;have dn:r2≠E:=Ac ac bz;have dp:r3≠E:=Ac ac bx;have n4:r≠E:=Ac ac af.get;have S:=n4.symm;simp(disch:=omega)only[go_sem,jB];obtain⟨x0,bf⟩: ∃x0,x0=Ex.mk 3 0 0 t.text [] [] t.line 0 0:=⟨_,rfl⟩;have dq:dEx x0= (zX 3 0 0 (t.text) (.vslice [] 0) (.vslice [] 0) (t.line)):=by rw[bf,Ys];rfl
  rw[<-bf] at hn⊢
  obtain⟨n',rfl⟩: ∃n',n=n'+1:=by
   cases n with
   |zero=>exact absurd rfl hn
   |succ n'=>exact⟨n',rfl⟩
  obtain⟨bg,hres⟩: ∃bg,bg=(P l (n'+1)).nameL t.line x0 (k+1):=⟨_,rfl⟩;rw[<-hres] at hn⊢
  have hT: ∀x k' b o,b≠E->upd O r (some (rdO l k')) b=some o->upd (upd O r (some (rdO l k'))) E (some (.cells (dEx x) 27)) b=some o:=λx k' b o hb h=>by rw[Ah _ _ _ _ hb];exact h
  obtain⟨I,hI⟩: ∃I:Nat×Ex×Nat->(Nat->DVal)->Ab->Prop,∀s env heap,I s env heap↔(env 0= .optr r 0/\env 2= .optr r2 0/\env 3= .optr r3 0/\env 4= .optr E 0/\s.2.2<=l.length/\s.1<=n'/\bg=(P l (s.1+1)).nameL t.line s.2.1 s.2.2/\heap=upd (upd O r (some (rdO l s.2.2))) E (some (.cells (dEx s.2.1) 27))):=⟨_,λ_ _ _=>Iff.rfl⟩;have bc:RAt r l (k+1) O (upd O E (some (.cells (zX 3 0 0 (t.text) .nilSlice .nilSlice (t.line)) 27))):=(RAt.refl af.get).own ac S _;refine Ea9.runG I (λs=>s.1) (n',x0,k+1) ⟨_,upd (upd O r (some (rdO l (k+1)))) E (some (.cells (dEx x0) 27))⟩ (Rn.cell (Aa _ _ _) bc ?_) ((hI _ _ _).2 ?_) ?_
  ·rw[bf];exact Km.exD (Fl6 bc (Aa _ _ _)) (.exs0D (Fl6 bc (Aa _ _ _))) (.as0D (Fl6 bc (Aa _ _ _)))
  ·simp(disch:=omega)only[go_sem]
  ·rintro⟨m,x,k1⟩ env heap cl;obtain⟨W,e2,e3,e4,al,hm,C,hh⟩:=(hI _ _ _).1 cl;dsimp only at al hm C hh;have eP:(P l (m+1)).nameL t.line x k1=if isW l k1 [Ju,Ae1] then(P l m).nameL t.line (.mk 5 0 0 [] [x] [] t.line 0 0) (k1+2) else if isW l k1 [Ju] then Jg l (k1+1) λs k=>(P l m).nameL t.line (.mk 4 0 0 s [x] [] t.line 0 0) k
     else if isW l k1 [Bc] then((P l m).arg (k1+1)).then λa k=>((P l m).argsL [a] k).then λxs k=>must l Bs k λk=>(P l m).nameL t.line (.mk 7 0 0 [] [x] xs t.line 0 0) k
     else if isW l k1 [Iy,Bc] then((P l m).paren (k1+1)).then λy k=>(P l m).nameL t.line (.mk 8 0 0 [] [x,y] [] t.line 0 0) k
     else if isW l k1 [Iy] then Jg l (k1+1) λs k=>(P l m).nameL t.line (.mk 6 0 0 s [x] [] t.line 0 0) k else .ok x k1:=rfl
   rw[eP] at C;have am:=hh.symm▸((RAt.refl af.get).set k1).own ac S _;have h4:=hh.symm▸Aa _ _ _;have h3:heap r3=some (.cells [.int .u8 t.kind,dI t.line,.str t.text,dI t.n] 31):=am _ _ (by rw[Ah _ _ _ _ q3];exact bx);have bh:=Af x;simp(disch:=omega)only[go_sem,e4,h4];rw[Bt6 bh];simp(disch:=omega)only[go_sem];intro q hq0;have p3:r3≠q:=Ac hq0 h3;have p4:E≠q:=Ac hq0 h4;have Y:r≠q:=Ac hq0 am.get;have av:O q=none:=am.lo hq0;simp(disch:=omega)only[go_sem,e3,h3,p3];intro X b0;obtain⟨m5,cm,bi⟩:=Aq.1 b0;have aj:E≠X:=Ac bi h4;have Z:r≠X:=Ac bi am.get;have aw:O X=none:=am.lo bi;simp(disch:=omega)only[go_sem,W];(have ao:q≠X:=by first|exact m5|exact cm);obtain⟨K1,ax⟩: ∃K,K=upd (upd heap q (some (.cells (dEx x) 27))) X (some (.cells (zX 0 0 0 [] (.oslice 9 q 0 1 1) .nilSlice (t.line)) 27)):=⟨_,rfl⟩;rw[<-ax];have J:=ax.symm▸(am.new hq0 _).new b0 _;have ay:=ax.symm▸Aa _ _ _;(have a0:K1 q=some (.cells (dEx x) 27):=by rw[ax];exact Aj (Aa _ _ _) ao);(have ap:K1 E=some (.cells (dEx x) 27):=by rw[ax];exact Aj (Aj h4 p4) aj);have aq:K1 r2=some (.cells zY 27):=J _ _ (by rw[Ah _ _ _ _ q2];exact bz);intro w1 b6;dsimp only at b6;simp(disch:=omega)only[go_sem];refine(He3 hG K1 w1 Ju Ae1 b6 J.get (by omega) (by omega)).mono ?_;rintro _ H2 ⟨rfl,ag⟩;by_cases b1:isW l k1 [Ju,Ae1]=true
   ·rw[if_pos b1] at ag C;have ad:=Bf b1 al;rw[show [Ju,Ae1].length=2 from rfl] at ad;(have U:RAt r l (k1+2) O H2:=by rw[ag];exact J.set _);(have cn:H2 X=some (.cells (zX 0 0 0 [] (.oslice 9 q 0 1 1) .nilSlice (t.line)) 27):=by rw[ag];exact Aj ay Z.symm);(have co:H2 E=some (.cells (dEx x) 27):=by rw[ag];exact Aj ap S);(have cp:H2 q=some (.cells (dEx x) 27):=by rw[ag];exact Aj a0 Y.symm);(have dr:H2 r2=some (.cells zY 27):=by rw[ag];exact Aj aq q2);obtain⟨D,rfl⟩: ∃D,m=D+1:=by
     cases m with
     |zero=>rw[C] at hn;exact absurd rfl hn
     |succ D=>exact⟨D,rfl⟩
    simp(disch:=omega)only[go_sem,b1,e4,cn,co,aj];have ae:=λz M=>(U.own aw Z.symm z).own ac S M;have ak:=λz M=>Aj (y:=M) (Aj (y:=z) cp ao) p4.symm;refine⟨(D,.mk 5 0 0 [] [x] [] t.line 0 0,k1+2),_,Rn.cell (Aa _ _ _) (ae _ _) (Yy (a:= []) (ae _ _) (Aa _ _ _) av Y.symm p4.symm (ak _ _) (λT hd=> .as0D hd)),(hI _ _ _).2 ?_,by dsimp only;omega⟩;simp(disch:=omega)only[go_sem,W,e2,e3,e4]
   ·(have cq:isW l k1 [Ju,Ae1]=false:=by simpa using b1);rw[if_neg b1,Ef J.get] at ag;rw[if_neg b1] at C;rw[ag];simp(disch:=omega)only[go_sem,cq,W];intro w2 b7;dsimp only at b7;simp(disch:=omega)only[go_sem];refine(Bb7 hG K1 w2 Ju b7 J.get (by omega) (by omega)).mono ?_;rintro _ H3 ⟨rfl,ah⟩;by_cases b2:isW l k1 [Ju]=true
    ·rw[if_pos b2] at ah C;have ad:=Bf b2 al;rw[jQ] at ad;(have U:RAt r l (k1+1) O H3:=by rw[ah];exact J.set _);(have cr:H3 X=some (.cells (zX 0 0 0 [] (.oslice 9 q 0 1 1) .nilSlice (t.line)) 27):=by rw[ah];exact Aj ay Z.symm);(have ct:H3 E=some (.cells (dEx x) 27):=by rw[ah];exact Aj ap S);(have cu:H3 q=some (.cells (dEx x) 27):=by rw[ah];exact Aj a0 Y.symm);(have ds:H3 r2=some (.cells zY 27):=by rw[ah];exact Aj aq q2);simp(disch:=omega)only[go_sem,b2,W];have bj: ∃t2,t2=tk l (k1+1):=⟨_,rfl⟩;obtain⟨t2,a1⟩:=bj;unfold Jg at C;refine(Bb8 G H3 1 U.get (by omega) (by omega)).mono ?_;intro e1 H9 V;rw[<-a1] at V C;by_cases c9:t2.kind=1
     ·rw[if_pos c9] at V C;obtain⟨rfl,L⟩:=V;have bk:k1+2<=l.length:=Ry (by rw[<-a1,c9];decide);have a2:=L.symm▸U.set _;(have bl:H9 X=some (.cells (zX 0 0 0 [] (.oslice 9 q 0 1 1) .nilSlice (t.line)) 27):=by rw[L];exact Aj cr Z.symm);(have bm:H9 E=some (.cells (dEx x) 27):=by rw[L];exact Aj ct S);(have bn:H9 q=some (.cells (dEx x) 27):=by rw[L];exact Aj cu Y.symm);obtain⟨D,rfl⟩: ∃D,m=D+1:=by
       cases m with
       |zero=>rw[C] at hn;exact absurd rfl hn
       |succ D=>exact⟨D,rfl⟩
      simp(disch:=omega)only[go_sem,Cu,e4,bl,bm,aj];have ae:=λz M=>(a2.own aw Z.symm z).own ac S M;have ak:=λz M=>Aj (y:=M) (Aj (y:=z) bn ao) p4.symm;refine⟨(D,.mk 4 0 0 t2.text [x] [] t.line 0 0,k1+2),_,Rn.cell (Aa _ _ _) (ae _ _) (Yy (a:= []) (ae _ _) (Aa _ _ _) av Y.symm p4.symm (ak _ _) (λT hd=> .as0D hd)),(hI _ _ _).2 ?_,by dsimp only;omega⟩;simp(disch:=omega)only[go_sem,W,e2,e3,e4]
     ·rw[if_neg c9] at V C;obtain⟨rfl,L⟩:=V;simp(disch:=omega)only[go_sem];rw[C];exact RAt.finP (by rw[L];exact RAt.up (U.set _) af) ⟨rfl,rfl⟩
    ·(have cv:isW l k1 [Ju]=false:=by simpa using b2);rw[if_neg b2,Ef J.get] at ah;rw[if_neg b2] at C;rw[ah];simp(disch:=omega)only[go_sem,cv,W];intro w3 b8;dsimp only at b8;simp(disch:=omega)only[go_sem];refine(Bb7 hG K1 w3 Bc b8 J.get (by omega) (by omega)).mono ?_;rintro _ H4 ⟨rfl,ai⟩;by_cases b3:isW l k1 [Bc]=true
     ·rw[if_pos b3] at ai C;have ad:=Bf b3 al;rw[jQ] at ad;(have U:RAt r l (k1+1) O H4:=by rw[ai];exact J.set _);(have cw:H4 X=some (.cells (zX 0 0 0 [] (.oslice 9 q 0 1 1) .nilSlice (t.line)) 27):=by rw[ai];exact Aj ay Z.symm);(have cx:H4 E=some (.cells (dEx x) 27):=by rw[ai];exact Aj ap S);(have cy:H4 q=some (.cells (dEx x) 27):=by rw[ai];exact Aj a0 Y.symm);(have dt:H4 r2=some (.cells zY 27):=by rw[ai];exact Aj aq q2);simp(disch:=omega)only[go_sem,b3,W];(have cz: ∀(a:Res As) (f:As->Nat->Res (List As)) (g:List As->Nat->Res Ex),(a.then λx k=>(f x k).then g)=(a.then f).then g:=λa f g=>by cases a<;>rfl);rw[cz] at C;have a3:=Es4 hG hl m (λi hi=>cg i (by omega)) H4 (k1+1) U.get ad;dsimp only at a3;cases hcc:(((P l m).arg (k1+1)).then λa k=>(P l m).argsL [a] k) with
      |bot=>rw[hcc,Ra] at C;rw[C] at hn;exact absurd rfl hn
      |fail k3=>
       rw[hcc] at a3;rw[hcc,Ol] at C;refine(a3 (Cb (by simp))).mono ?_;rintro e H7 ⟨rfl,ab⟩;simp(disch:=omega)only[go_sem];rw[C];exact RAt.finP (by rw[ab];exact RAt.up (U.set _) af) ⟨rfl,rfl⟩
      |ok xs k3=>
       rw[hcc] at a3;rw[hcc,Nf] at C;have c0:k3<=l.length:=by
        have:=Ca ((Jw (l:=l) m).arg (k1+1) ad) (λa j h1 h2=>Ek ((Jw (l:=l) m).argsL [a] j h2) h1);rw[hcc] at this;exact this.2
       refine(a3 (Cb (by simp))).mono ?_;rintro e H7 ⟨rfl,ab⟩;have bo:=ab.symm▸U.set _;have ar:=ab.symm▸Aj cw Z.symm;have bp:=ab.symm▸Aj cx S;have a4:=ab.symm▸Aj cy Y.symm;simp(disch:=omega)only[go_sem,dAl,W,ar];obtain⟨H8,a5⟩: ∃K,K=upd H7 X (some (.cells (zX 7 0 0 [] (.oslice 9 q 0 1 1) (.vslice (xs.flatMap dAs) xs.length) (t.line)) 27)):=⟨_,rfl⟩;rw[<-a5];have bq:=a5.symm▸bo.own aw Z.symm _;have c1:=a5.symm▸Aa _ _ _;have c2:=a5.symm▸Aj bp aj;have c3:=a5.symm▸Aj a4 ao;refine(Sw hG H8 Bs bq.get (by omega) (by omega)).mono ?_;intro e1 H9 V;unfold must at V C;by_cases c9:isW l k3 [Bs]=true
       ·rw[if_pos c9] at V C;obtain⟨rfl,L⟩:=V;have bk:=Bf c9 c0;rw[jQ] at bk;have a2:=L.symm▸bq.set _;(have c4:H9 X=some (.cells (zX 7 0 0 [] (.oslice 9 q 0 1 1) (.vslice (xs.flatMap dAs) xs.length) (t.line)) 27):=by rw[L];exact Aj c1 Z.symm);(have c5:H9 E=some (.cells (dEx x) 27):=by rw[L];exact Aj c2 S);(have c6:H9 q=some (.cells (dEx x) 27):=by rw[L];exact Aj c3 Y.symm);dsimp only at C;obtain⟨D,rfl⟩: ∃D,m=D+1:=by
         cases m with
         |zero=>rw[C] at hn;exact absurd rfl hn
         |succ D=>exact⟨D,rfl⟩
        simp(disch:=omega)only[go_sem,e4,c4,c5];have ae:=λM=>a2.own ac S M;have ak:=λM=>Aj (y:=M) c6 p4.symm;refine⟨(D,.mk 7 0 0 [] [x] xs t.line 0 0,k3+1),_,Rn.cell (Aa _ _ _) (ae _) (Yy (a:=xs) (ae _) (Aa _ _ _) av Y.symm p4.symm (ak _) (λT hd=>Ln.keepD hd _)),(hI _ _ _).2 ?_,by dsimp only;omega⟩;simp(disch:=omega)only[go_sem,W,e2,e3,e4]
       ·rw[if_neg c9] at V C;obtain⟨rfl,L⟩:=V;simp(disch:=omega)only[go_sem];rw[C];exact RAt.finP (by rw[L];exact RAt.up (bq.set _) af) ⟨rfl,rfl⟩
     ·(have c7:isW l k1 [Bc]=false:=by simpa using b3);rw[if_neg b3,Ef J.get] at ai;rw[if_neg b3] at C;rw[ai];simp(disch:=omega)only[go_sem,c7,W];intro w4 b9;dsimp only at b9;simp(disch:=omega)only[go_sem];refine(is2 hG K1 w4 Iy Bc b9 J.get (by omega) (by omega)).mono ?_;rintro _ H5 ⟨rfl,c8⟩;rw[c8];by_cases b4:isW l k1 [Iy,Bc]=true
      ·rw[if_pos b4] at C;have ad:=Bf b4 al;rw[show [Iy,Bc].length=2 from rfl] at ad;have gr:=J.get;unfold rdO at gr;(have da:IntKind.i64.wrap ((k1:Int)+1)=((k1+1:Nat):Int):=by rw[IntKind.wrap_i64];omega);simp(disch:=omega)only[go_sem,b4,W,gr,da];obtain⟨H6,aa⟩: ∃H6,H6=upd K1 r (some (rdO l (k1+1))):=⟨_,rfl⟩;have ca:=aa;unfold rdO at ca;rw[<-ca];(have U:RAt r l (k1+1) O H6:=by rw[aa];exact J.set _);(have a6:H6 X=some (.cells (zX 0 0 0 [] (.oslice 9 q 0 1 1) .nilSlice (t.line)) 27):=by rw[aa];exact Aj ay Z.symm);(have br:H6 E=some (.cells (dEx x) 27):=by rw[aa];exact Aj ap S);(have bs:H6 q=some (.cells (dEx x) 27):=by rw[aa];exact Aj a0 Y.symm);(have db:H6 r2=some (.cells zY 27):=by rw[aa];exact Aj aq q2);refine An (.take 0 (.take 1 (.take 2 (.take 6 (.go 3 [1] (.go 4 [1] (.go 5 [] (.go 7 [] (.take 8 (.go 9 [] .done)))))))))) ?_;simp(disch:=omega)only[go_sem,W,a6];have a7:=ci m (by omega) H6 (k1+1) U.get (by omega);have cb:=(Jw (l:=l) m).paren (k1+1) (by omega);dsimp only at a7;cases hcc:(P l m).paren (k1+1) with
       |bot=>rw[hcc,Ra] at C;rw[C] at hn;exact absurd rfl hn
       |fail k3=>
        rw[hcc] at a7;rw[hcc,Ol] at C;refine(a7 (Cb (by simp))).mono ?_;rintro e H7 ⟨rfl,ab⟩;simp(disch:=omega)only[go_sem];rw[C];exact RAt.finP (by rw[ab];exact RAt.up (U.set _) af) ⟨rfl,rfl⟩
       |ok y k3=>
        rw[hcc] at a7 cb;rw[hcc,Nf] at C;dsimp only[Adv] at cb;refine(a7 (Cb (by simp))).mono ?_;rintro e H7 ⟨rfl,ab⟩;have bo:=ab.symm▸U.set _;have ar:=ab.symm▸Aj a6 Z.symm;have bp:=ab.symm▸Aj br S;have a4:=ab.symm▸Aj bs Y.symm;have cc:=Af y;simp(disch:=omega)only[go_sem,dE,a6,ar];rw[Bt6 cc];simp(disch:=omega)only[go_sem];intro r8 bt;have p8:q≠r8:=Ac bt a4;have dc:X≠r8:=Ac bt ar;simp(disch:=omega)only[go_sem,ar,dc];rw[if_neg p8,a4];obtain⟨Bq,a8⟩: ∃K,K=upd H7 q none:=⟨_,rfl⟩;have dd:Sub Bq H7:=by
         rw[a8];intro b o hb;simp only[upd] at hb;split at hb
         ·cases hb
         ·exact hb
        (have de:RAt r l k3 O Bq:=by rw[a8];exact bo.own av Y.symm none);(have cd:Bq X=some (.cells (zX 0 0 0 [] (.oslice 9 q 0 1 1) .nilSlice (t.line)) 27):=by rw[a8];exact Aj ar ao.symm);(have ce:Bq E=some (.cells (dEx x) 27):=by rw[a8];exact Aj bp p4);have df:Ik Bq 27 9 1 (dEx x) (.oslice 9 q 0 1 1) H7:= .inr ⟨q,by rw[a8];exact Aa _ _ _,by rw[bh],rfl,a4,dd⟩;refine Ik.appendO (m:=1) (df.new bt _) cc (by omega) λv2 du bd=> ?_;have dg:=bd.keep cd;have dh:=bd.keep ce;obtain⟨j1,j2⟩:=bd.cell1;obtain⟨D,rfl⟩: ∃D,m=D+1:=by
         cases m with
         |zero=>rw[C] at hn;exact absurd rfl hn
         |succ D=>exact⟨D,rfl⟩
        simp(disch:=omega)only[go_sem,e4,dg,dh,aj,j1,j2];have bu:=λz M=>(bd.at cd (some z)).at (r:=E) (by rw[Ah _ _ _ _ aj];exact ce) (some M);have bv:=λz M=>(de.own aw Z.symm (some z)).own ac S (some M);refine⟨(D,.mk 8 0 0 [] [x,y] [] t.line 0 0,k3),_,Rn.cell (Aa _ _ _) (Sub.trans (bv _ _) (bu _ _).sub) (Ds7 (Sub.trans (bv _ _) (bu _ _).sub) (Aa _ _ _) (bv _ _) (by rw[Aa];simp) (by rw[show [x,y].flatMap dEx=dEx x++dEx y by simp];exact bu _ _)),(hI _ _ _).2 ?_,by dsimp only;omega⟩;simp(disch:=omega)only[go_sem,W,e2,e3,e4]
      ·(have di:isW l k1 [Iy,Bc]=false:=by simpa using b4);rw[if_neg b4] at C;simp(disch:=omega)only[go_sem,di,W];intro w5 cf;dsimp only at cf;simp(disch:=omega)only[go_sem];refine(Bb7 hG K1 w5 Iy cf J.get (by omega) (by omega)).mono ?_;rintro _ H6 ⟨rfl,aa⟩;by_cases b5:isW l k1 [Iy]=true
       ·rw[if_pos b5] at aa C;have ad:=Bf b5 al;rw[jQ] at ad;(have U:RAt r l (k1+1) O H6:=by rw[aa];exact J.set _);(have a6:H6 X=some (.cells (zX 0 0 0 [] (.oslice 9 q 0 1 1) .nilSlice (t.line)) 27):=by rw[aa];exact Aj ay Z.symm);(have br:H6 E=some (.cells (dEx x) 27):=by rw[aa];exact Aj ap S);(have bs:H6 q=some (.cells (dEx x) 27):=by rw[aa];exact Aj a0 Y.symm);(have db:H6 r2=some (.cells zY 27):=by rw[aa];exact Aj aq q2);simp(disch:=omega)only[go_sem,b5,W];have bj: ∃t2,t2=tk l (k1+1):=⟨_,rfl⟩;obtain⟨t2,a1⟩:=bj;unfold Jg at C;refine(Bb8 G H6 1 U.get (by omega) (by omega)).mono ?_;intro e1 H9 V;rw[<-a1] at V C;by_cases c9:t2.kind=1
        ·rw[if_pos c9] at V C;obtain⟨rfl,L⟩:=V;have bk:k1+2<=l.length:=Ry (by rw[<-a1,c9];decide);(have a2:RAt r l (k1+2) O H9:=by rw[L];exact U.set _);(have bl:H9 X=some (.cells (zX 0 0 0 [] (.oslice 9 q 0 1 1) .nilSlice (t.line)) 27):=by rw[L];exact Aj a6 Z.symm);(have bm:H9 E=some (.cells (dEx x) 27):=by rw[L];exact Aj br S);(have bn:H9 q=some (.cells (dEx x) 27):=by rw[L];exact Aj bs Y.symm);obtain⟨D,rfl⟩: ∃D,m=D+1:=by
          cases m with
          |zero=>rw[C] at hn;exact absurd rfl hn
          |succ D=>exact⟨D,rfl⟩
         simp(disch:=omega)only[go_sem,Cu,e4,bl,bm,aj];have ae:=λz M=>(a2.own aw Z.symm z).own ac S M;have ak:=λz M=>Aj (y:=M) (Aj (y:=z) bn ao) p4.symm;refine⟨(D,.mk 6 0 0 t2.text [x] [] t.line 0 0,k1+2),_,Rn.cell (Aa _ _ _) (ae _ _) (Yy (a:= []) (ae _ _) (Aa _ _ _) av Y.symm p4.symm (ak _ _) (λT hd=> .as0D hd)),(hI _ _ _).2 ?_,by dsimp only;omega⟩;simp(disch:=omega)only[go_sem,W,e2,e3,e4]
        ·rw[if_neg c9] at V C;obtain⟨rfl,L⟩:=V;simp(disch:=omega)only[go_sem];rw[C];exact RAt.finP (by rw[L];exact RAt.up (U.set _) af) ⟨rfl,rfl⟩
       ·(have dj:isW l k1 [Iy]=false:=by simpa using b5);rw[if_neg b5,Ef J.get] at aa;rw[if_neg b5] at C;rw[aa];have dk:=Cd x;simp(disch:=omega)only[go_sem,dj,e2,e4,ap,aq,bh,dk];rw[C];exact RAt.fin ((RAt.up J af).own a9 q2 _) ⟨rfl,rfl⟩
 ·rw[if_neg c] at hn hq⊢
  obtain⟨rfl,ba⟩:=hq;simp only[go_sem];exact RAt.finP (by rw[ba];exact ha.set k) ⟨rfl,rfl⟩
end
section
variable {G:Nat->DVal} {r:Nat} {l:List Tok}
structure RdAll (G:Nat->DVal) (l:List Tok) (r:Nat) (m:Nat):Prop where
 expr:RdC Tryz.prog G l 58 r λk=>((P l m).expr k).mp dE
 rest: ∀x,Ds5 Tryz.prog G l 164 r (.agg (dEx x)) λk=>((P l m).rest x k).mp dE
 relation: ∀x,Ds5 Tryz.prog G l 60 r (.agg (dEx x)) λk=>((P l m).relation x k).mp dE
 simple:RdC Tryz.prog G l 61 r λk=>((P l m).simple k).mp dE
 term:RdC Tryz.prog G l 62 r λk=>((P l m).term k).mp dE
 factor:RdC Tryz.prog G l 63 r λk=>((P l m).factor k).mp dE
 primary:RdC Tryz.prog G l 64 r λk=>((P l m).primary k).mp dE
 paren:RdC Tryz.prog G l 173 r λk=>((P l m).paren k).mp dE
 assoc:RdC Tryz.prog G l 250 r λk=>((P l m).assoc k).mp dA
 choice:RdC Tryz.prog G l 294 r λk=>((P l m).choice k).mp dC
 arg:RdC Tryz.prog G l 251 r λk=>((P l m).arg k).mp dA
 name:RdC Tryz.prog G l 65 r λk=>((P l m).name k).mp dE
theorem Gw0 (hG:GX G) (hl:l.length<=12800000): ∀n m,m<=n->RdAll G l r m:=by
 intro n
 induction n with
 |zero=>
  intro m hm;have:m=0:=by omega
  subst this;constructor<;>intros<;>intro H k _ _ hn<;>exact absurd rfl hn
 |succ n ih=>
  intro m hm;rcases Nat.lt_or_ge m (n+1) with h|h
  ·exact ih m (by omega)
  ·(have:m=n+1:=by omega);subst this;have h0:=ih n (Nat.le_refl _);exact⟨Es0 hl _ (Jw n) h0.simple h0.rest,Es2 hG hl n (λm hm=>(ih m hm).simple) (λm hm=>(ih m hm).relation),Cc8 hG hl _ (Jw n) h0.simple,
    Dd0 hG hl n (λm hm=>(ih m hm).term),Er9 hG hl n (λm hm=>(ih m hm).factor),Dc8 hG hl _ (Jw n) h0.primary,Cp1 hG hl _ h0.paren h0.name,
    Ds6 hG hl n h0.expr (λm hm=>(ih m hm).assoc),Cp4 hG hl n (λm hm=>(ih m hm).choice) h0.expr,Dd1 hG hl _ (Jw n) h0.simple h0.rest,Cc9 hG hl _ h0.expr,
    Es5 hG hl n (λm hm=>(ih m hm).arg) (λm hm=>(ih m hm).paren)⟩
theorem Fl7 (hG:GX G) (hl:l.length<=12800000) (m:Nat):RdAll G l r m:=Gw0 hG hl m m (Nat.le_refl _)
end
section
variable {G:Nat->DVal} {l:List Tok}
def Fl8:Res Ex->DVal
 | .ok x k=> .tuple [dE x,dI k,dI 0]
 | .fail k=> .tuple [dE ex0,dI k,dI 30]
 | .bot=> .nilPtr
theorem Ds8 (hG:GX G) (H:Ab) (hl:l.length<=12800000) (g:FuncId) (aa:Res Ex) (hn:aa≠ .bot) (hf: ∀r H,H r=some (rdO l 0)->Ad Tryz.prog G g [.optr r 0] H (RdR r l H (aa.mp dE))):
  Ad Tryz.prog G 66 [Be l,.func (.func g) [] []] H (Am (Fl8 aa) H):=by
 refine Jx Tryz.func66 Tryz.func177 Tryz.call66 Tryz.call177 rfl rfl (by kernel_rfl) (by kernel_rfl) rfl ?_;simp only[go_sem];intro D X;simp only[go_sem];intro C L;obtain⟨av,a1,am⟩:=Aq.1 L;simp only[go_sem];intro E U;have a5:upd (upd H D (some (.cells zY 27))) C (some (.cells [dI 0] 3)) C=some (.cells [dI 0] 3):=Aa _ _ _;have a4:upd (upd H D (some (.cells zY 27))) C (some (.cells [dI 0] 3)) D=some (.cells zY 27):=Aj (Aa _ _ _) (Ac L (Aa _ _ _));have V:C≠E:=Ac U a5;have Y:D≠E:=Ac U a4;have ao:D≠C:=Ac L (Aa _ _ _);have aw:(Be l).cells= [Be l]:=rfl;simp only[go_sem,aw,jA,jB,jE,jJ,jI,jG];intro M W;have ag:D≠M:=Ac W (Aj a4 Y);have ab:C≠M:=Ac W (Aj a5 V);have ac:E≠M:=Ac W (Aa _ _ _);have ap:H E=none:=((((Sub.refl H).new X _).new L _).lo U);have aq:H M=none:=(((((Sub.refl H).new X _).new L _).new U _).lo W);have ax:=ag.symm;have ay:=Y.symm;have ar:=V.symm;simp only[go_sem];refine(hf M _ (Aa _ _ _)).mono ?_;intro e Z hq;have g4: ∀z,upd (upd (upd (upd (upd H D (some (.cells zY 27))) C (some (.cells [dI 0] 3))) E (some (.cells [dI 0] 36))) M (some (rdO l 0))) M z D=some (.cells zY 27):=λz=>by
  rw[Ah _ _ _ _ ag,Ah _ _ _ _ ag,Ah _ _ _ _ Y];exact a4
 cases hres:aa with
 |bot=>exact absurd hres hn
 |ok x k=>
  rw[hres] at hq;obtain⟨rfl,I⟩:=hq;have ah:=Af x;have au:=Cd x;have ad:=I.symm▸g4 _;have ae:Z C=some (.cells [dI 0] 3):=by rw[I,Ah _ _ _ _ ab,Ah _ _ _ _ ab,Ah _ _ _ _ V];exact a5
  have af:Z E=some (.cells [dI 0] 36):=by rw[I,Ah _ _ _ _ ac,Ah _ _ _ _ ac];exact Aa _ _ _
  have a0:=I.symm▸Aa _ _ _;have ai:=I.symm▸((((((Sub.refl H).new X _).new L _).new U _).new W _).up aq _);simp only[go_sem,dE,ad,ah,au];refine An pL3 ?_;simp only[go_sem,ae,af,a0,av,ax,ay,ar,ah,au];intro O J;obtain⟨K,hK⟩: ∃K,K=upd (upd (upd Z D (some (.cells (dEx x) 27))) C (some (.cells [dI k] 3))) E (some (.cells [dI 0] 36)):=⟨_,rfl⟩;have S:=hK.symm▸((ai.up X _).up am _).up ap _;have k4:=hK.symm▸Aj (Aj (Aa _ _ _) ao) Y;have k5:=hK.symm▸Aj (Aa _ _ _) V;have k6:=hK.symm▸Aa _ _ _;rw[<-hK] at J⊢
  have aj:D≠O:=Ac J k4;have ak:C≠O:=Ac J k5;have al:E≠O:=Ac J k6;simp only[go_sem,k4,k5,k6,aj,ak,al,ah];exact Dj.sub (S.new J _) (.refl ⟨rfl,rfl⟩)
 |fail k=>
  rw[hres] at hq;obtain⟨rfl,I⟩:=hq;have ad:=I.symm▸g4 _;have ae:Z C=some (.cells [dI 0] 3):=by rw[I,Ah _ _ _ _ ab,Ah _ _ _ _ ab,Ah _ _ _ _ V];exact a5
  have af:Z E=some (.cells [dI 0] 36):=by rw[I,Ah _ _ _ _ ac,Ah _ _ _ _ ac];exact Aa _ _ _
  have ai:=I.symm▸((((((Sub.refl H).new X _).new L _).new U _).new W _).up aq _);simp only[go_sem,Cp0];intro O J;have aj:D≠O:=Ac J ad;have ak:C≠O:=Ac J ae;have al:E≠O:=Ac J af;simp only[go_sem,ad,ae,af,aj,ak,al,ao,Y,V,ar];have S:=λx y z=>(((ai.new J x).up am y).up ap z);exact Ln.fin (S _ _ _) (Ln.tuple (.cons (Ln.agg (Ln.ex (l:= []) (a:= []) (S _ _ _) (.exs0 (S _ _ _)) (.as0 (S _ _ _)))) (Km.keep (S _ _ _) _))) ⟨rfl,rfl⟩
def Fl9:Res DVal->DVal
 | .ok v k=> .tuple [v,dI k,dI 0]
 | .fail k=> .tuple [.vslice [] 0,dI k,dI 30]
 | .bot=> .nilPtr
theorem Dd3 (hG:GX G) (H:Ab) (hl:l.length<=12800000) (g:FuncId) (M:Res DVal) (hn:M≠ .bot) (hv: ∀v k,M= .ok v k->v.cells= [v]/\v.one=true) (hf: ∀r H,H r=some (rdO l 0)->Ad Tryz.prog G g [.optr r 0] H (RdR r l H M)):
  Ad Tryz.prog G 318 [Be l,.func (.func g) [] []] H (Am (Fl9 M) H):=by
 refine Jx Tryz.func318 Tryz.func324 Tryz.call318 Tryz.call324 rfl rfl (by kernel_rfl) (by kernel_rfl) rfl ?_;simp only[go_sem];intro I J;simp only[go_sem];intro C O;have L:I≠C:=Ac O (Aa _ _ _);have af:=L.symm;have ai:(Be l).cells= [Be l]:=rfl;simp only[go_sem,ai,jA,jB,jE,jJ,jI,jG];intro X S;have Y:I≠X:=Ac S (Aj (Aa _ _ _) L);have Z:C≠X:=Ac S (Aa _ _ _);have ag:H C=none:=((Sub.refl H).new J _).lo O;have ah:H X=none:=(((Sub.refl H).new J _).new O _).lo S;simp only[go_sem];refine(hf X _ (Aa _ _ _)).mono ?_;intro e U hq;cases hres:M with
 |bot=>exact absurd hres hn
 |ok x k=>
  obtain⟨v1,v2⟩:=hv x k hres;rw[hres] at hq;obtain⟨rfl,D⟩:=hq;have aa:U I=some (.cells [dI 0] 3):=by rw[D,Ah _ _ _ _ Y,Ah _ _ _ _ Y,Ah _ _ _ _ L];exact Aa _ _ _
  have ab:U C=some (.cells [dI 0] 36):=by rw[D,Ah _ _ _ _ Z,Ah _ _ _ _ Z];exact Aa _ _ _
  have aj:=D.symm▸Aa _ _ _;have ac:=D.symm▸(((((Sub.refl H).new J _).new O _).new S _).up ah _);simp only[go_sem];refine An pL4 ?_;simp only[go_sem,aa,ab,aj,af];intro V E;obtain⟨K,hK⟩: ∃K,K=upd (upd U I (some (.cells [dI k] 3))) C (some (.cells [dI 0] 36)):=⟨_,rfl⟩;have W:=hK.symm▸(ac.up J _).up ag _;have k5:=hK.symm▸Aj (Aa _ _ _) L;have k6:=hK.symm▸Aa _ _ _;rw[<-hK] at E⊢
  have ad:I≠V:=Ac E k5;have ae:C≠V:=Ac E k6;simp only[go_sem,k5,k6,ad,ae];exact Dj.sub (W.new E _) (.refl ⟨rfl,rfl⟩)
 |fail k=>
  rw[hres] at hq;obtain⟨rfl,D⟩:=hq;have aa:U I=some (.cells [dI 0] 3):=by rw[D,Ah _ _ _ _ Y,Ah _ _ _ _ Y,Ah _ _ _ _ L];exact Aa _ _ _
  have ab:U C=some (.cells [dI 0] 36):=by rw[D,Ah _ _ _ _ Z,Ah _ _ _ _ Z];exact Aa _ _ _
  have ac:=D.symm▸(((((Sub.refl H).new J _).new O _).new S _).up ah _);simp only[go_sem,Cp0];intro V E;have ad:I≠V:=Ac E aa;have ae:C≠V:=Ac E ab;simp only[go_sem,aa,ab,ad,ae,L,af];have W:=λx y z=>(((ac.new E x).up J y).up ag z);exact Ln.fin (W _ _ _) (Ln.tuple (.cons (Ln.nil (W _ _ _)) (Km.keep (W _ _ _) _))) ⟨rfl,rfl⟩
end
end Go.Dl
-- S4
namespace Go.Dl
open Go
set_option maxRecDepth 10000
section
variable {l:List Tok}
theorem Cy {α β:Type} {a:Nat} {r:Res α} {f:α->Nat->Res β} (h:r≠ .bot) (ha:Adv l a r) (k: ∀x n,a<=n->n<=l.length->f x n≠ .bot):r.then f≠ .bot:=by
 cases r with
 |bot=>exact absurd rfl h
 |fail n=>intro e;cases e
 |ok x n=>exact k x n ha.1 ha.2
theorem Kn {α:Type} {x:α} {k:Nat}:(Res.ok x k)≠ .bot:=λe=>by cases e
theorem Cp5 {α:Type} {k:Nat}:(Res.fail k:Res α)≠ .bot:=λe=>by cases e
theorem Vo {α:Type} {s:List UInt8} {k:Nat} {f:Nat->Res α} (hk:k<=l.length) (h:k+1<=l.length->f (k+1)≠ .bot):must l s k f≠ .bot:=by
 unfold must;split
 ·rename_i hw
  exact h (Bf hw hk)
 ·exact Cp5
theorem Bt7 {α:Type} {k:Nat} {f:List UInt8->Nat->Res α} (h:k+1<=l.length-> ∀s,f s (k+1)≠ .bot):Jg l k f≠ .bot:=by
 unfold Jg;split
 ·rename_i hw
  exact h (Ry (by rw[hw];decide)) _
 ·exact Cp5
structure PS.Tot (l:List Tok) (n:Nat) (p:PS):Prop where
 expr: ∀k,k<=l.length->8*(l.length-k)+6<=n->p.expr k≠ .bot
 rest: ∀x k,k<=l.length->8*(l.length-k)+2<=n->p.rest x k≠ .bot
 restL: ∀o x k,k<=l.length->8*(l.length-k)+1<=n->p.restL o x k≠ .bot
 relation: ∀x k,k<=l.length->8*(l.length-k)+1<=n->p.relation x k≠ .bot
 simple: ∀k,k<=l.length->8*(l.length-k)+5<=n->p.simple k≠ .bot
 addL: ∀x k,k<=l.length->8*(l.length-k)+1<=n->p.addL x k≠ .bot
 term: ∀k,k<=l.length->8*(l.length-k)+4<=n->p.term k≠ .bot
 mulL: ∀x k,k<=l.length->8*(l.length-k)+1<=n->p.mulL x k≠ .bot
 factor: ∀k,k<=l.length->8*(l.length-k)+3<=n->p.factor k≠ .bot
 primary: ∀k,k<=l.length->8*(l.length-k)+2<=n->p.primary k≠ .bot
 paren: ∀k,k<=l.length->8*(l.length-k)+1<=n->p.paren k≠ .bot
 assoc: ∀k,k<=l.length->8*(l.length-k)+7<=n->p.assoc k≠ .bot
 assocsL: ∀a k,k<=l.length->8*(l.length-k)+1<=n->p.assocsL a k≠ .bot
 choice: ∀k,k<=l.length->8*(l.length-k)+6<=n->p.choice k≠ .bot
 choicesL: ∀a k,k<=l.length->8*(l.length-k)+1<=n->p.choicesL a k≠ .bot
 arg: ∀k,k<=l.length->8*(l.length-k)+7<=n->p.arg k≠ .bot
 argsL: ∀a k,k<=l.length->8*(l.length-k)+1<=n->p.argsL a k≠ .bot
 name: ∀k,k<=l.length->8*(l.length-k)+1<=n->p.name k≠ .bot
 nameL: ∀i x k,k<=l.length->8*(l.length-k)+1<=n->p.nameL i x k≠ .bot
theorem Es6 {p:PS} {n:Nat} (h:p.Tot l n) (ha:p.Adv l):(Bi l p).Tot l (n+1) where
 expr k hk hn:=Cy (h.simple k hk (by omega)) (ha.simple k hk) λx m h1 h2=>h.rest x m h2 (by omega)
 rest x k hk hn:=Cy (h.relation x k hk (by omega)) (ha.relation x k hk) λx m h1 h2=>h.restL _ x m h2 (by omega)
 restL o x k hk hn:=by
  dsimp only[Bi]
  split
  ·exact Kn
  ·obtain⟨D,q2,C,E⟩:=Er (want:=o) Hi1.1 hk
   split
   ·exact Kn
   ·rename_i hq
    have:=q2 hq
    exact Cy (h.simple _ C (by omega)) (ha.simple _ C) λy n h1 h2=>Cy (h.relation y n h2 (by omega)) (ha.relation y n h2) λz m h3 h4=>h.restL _ _ m h4 (by omega)
 relation x k hk hn:=by
  dsimp only[Bi]
  obtain⟨D,q2,C,E⟩:=Er (want:=0) Hi1.2.1 hk
  have J: ∀kind j,k+1<=j->j<=l.length->inK l x kind j p≠ .bot:=λkind j h1 h2=>by
   refine Cy (h.simple j h2 (by omega)) (ha.simple j h2) λy m h3 h4=> ?_
   split
   ·rename_i hw
    have:=Bf hw h4
    have:=this
    simp only[jA,jB] at this
    exact Cy (h.simple (m+1) (by omega) (by omega)) (ha.simple (m+1) (by omega)) λz m _ _=>Kn
   ·split
    ·exact Kn
    ·exact Cp5
  split
  ·rename_i hq
   have:=q2 hq
   exact Cy (h.simple _ C (by omega)) (ha.simple _ C) λy n h1 h2=>Kn
  ·split
   ·rename_i hw
    have:=Bf hw hk
    simp only[jA,jB] at this
    exact J _ _ (by omega) (by omega)
   ·split
    ·rename_i hw
     have:=Bf hw hk
     simp only[jA,jB] at this
     exact J _ _ (by omega) (by omega)
    ·exact Kn
 simple k hk hn:=by
  obtain⟨D,q2,C,E⟩:=Er (want:=0) Hi1.2.2.1 hk
  exact Cy (h.term _ C (by omega)) (ha.term _ C) λx n h1 h2=>h.addL _ n h2 (by omega)
 addL x k hk hn:=by
  dsimp only[Bi]
  obtain⟨D,q2,C,E⟩:=Er (want:=0) Hi1.2.2.2.1 hk
  split
  ·exact Kn
  ·rename_i hq
   have:=q2 hq
   exact Cy (h.term _ C (by omega)) (ha.term _ C) λx n h1 h2=>h.addL _ n h2 (by omega)
 term k hk hn:=Cy (h.factor k hk (by omega)) (ha.factor k hk) λx n h1 h2=>h.mulL _ n h2 (by omega)
 mulL x k hk hn:=by
  dsimp only[Bi]
  obtain⟨D,q2,C,E⟩:=Er (want:=0) Hi1.2.2.2.2.1 hk
  split
  ·exact Kn
  ·rename_i hq
   have:=q2 hq
   exact Cy (h.factor _ C (by omega)) (ha.factor _ C) λx n h1 h2=>h.mulL _ n h2 (by omega)
 factor k hk hn:=by
  obtain⟨D,q2,C,E⟩:=Er (want:=0) Hi1.2.2.2.2.2 hk
  exact Cy (h.primary _ C (by omega)) (ha.primary _ C) λx n h1 h2=>Kn
 primary k hk hn:=by
  dsimp only[Bi]
  split
  ·exact Kn
  ·split
   ·exact Kn
   ·split
    ·exact h.paren k hk (by omega)
    ·exact h.name k hk (by omega)
 paren k hk hn:=by
  dsimp only[Bi]
  refine Vo hk λI=> ?_
  split
  ·rename_i hw
   have:=Bf hw I
   simp only[jA,jB] at this
   refine Cy (h.expr _ this (by omega)) (ha.expr _ this) λa L h1 h2=>Vo h2 λh3=>Cy (h.expr _ h3 (by omega)) (ha.expr _ h3) λb M h4 h5=>Vo h5 λh6=>Cy (h.expr _ h6 (by omega)) (ha.expr _ h6) λc O h7 h8=>Vo h8 λh9=>Kn
  ·exact Cy (h.assoc _ I (by omega)) (ha.assoc _ I) λa L h1 h2=>Cy (h.assocsL _ _ h2 (by omega)) (ha.assocsL _ _ h2) λaz M h3 h4=>Vo h4 λh5=>Kn
 assoc k hk hn:=by
  refine Cy (h.choice k hk (by omega)) (ha.choice k hk) λc n h1 h2=> ?_
  split
  ·exact Kn
  ·split
   ·exact Vo h2 λh3=>Cy (h.expr _ h3 (by omega)) (ha.expr _ h3) λe m h4 h5=>Kn
   ·exact Cy (h.choicesL _ _ h2 (by omega)) (ha.choicesL _ _ h2) λcs m h3 h4=>Vo h4 λh5=>Cy (h.expr _ h5 (by omega)) (ha.expr _ h5) λe m h6 h7=>Kn
 assocsL az k hk hn:=by
  dsimp only[Bi]
  split
  ·rename_i hw
   have:=Bf hw hk
   simp only[jA,jB] at this
   exact Cy (h.assoc _ this (by omega)) (ha.assoc _ this) λa n h1 h2=>h.assocsL _ n h2 (by omega)
  ·exact Kn
 choice k hk hn:=by
  dsimp only[Bi]
  split
  ·exact Kn
  ·refine Cy (h.simple k hk (by omega)) (ha.simple k hk) λx n h1 h2=> ?_
   split
   ·rename_i hw
    have:=Bf hw h2
    simp only[jA,jB] at this
    exact Cy (h.simple _ this (by omega)) (ha.simple _ this) λy m h3 h4=>Kn
   ·exact Cy (h.rest x n h2 (by omega)) (ha.rest x n h2) λy m h3 h4=>Kn
 choicesL az k hk hn:=by
  dsimp only[Bi]
  split
  ·rename_i hw
   have:=Bf hw hk
   simp only[jA,jB] at this
   exact Cy (h.choice _ this (by omega)) (ha.choice _ this) λa n h1 h2=>h.choicesL _ n h2 (by omega)
  ·exact Kn
 arg k hk hn:=by
  dsimp only[Bi]
  split
  ·rename_i hw
   have h1:=Ry (l:=l) (k:=k) (by rw[hw.1];decide)
   have:=Bf hw.2 h1
   simp only[jA,jB] at this
   exact Cy (h.expr _ this (by omega)) (ha.expr _ this) λy m h3 h4=>Kn
  ·exact Cy (h.expr k hk (by omega)) (ha.expr k hk) λy m h3 h4=>Kn
 argsL az k hk hn:=by
  dsimp only[Bi]
  split
  ·rename_i hw
   have:=Bf hw hk
   simp only[jA,jB] at this
   exact Cy (h.arg _ this (by omega)) (ha.arg _ this) λa n h1 h2=>h.argsL _ n h2 (by omega)
  ·exact Kn
 name k hk hn:=Bt7 λh1 s=>h.nameL _ _ _ h1 (by omega)
 nameL i x k hk hn:=by
  dsimp only[Bi]
  split
  ·rename_i hw
   have:=Bf hw hk
   simp only[jA,jB] at this
   exact h.nameL _ _ _ (by omega) (by omega)
  ·split
   ·rename_i hw
    have:=Bf hw hk
    simp only[jA,jB] at this
    exact Bt7 λh1 s=>h.nameL _ _ _ h1 (by omega)
   ·split
    ·rename_i hw
     have:=Bf hw hk
     simp only[jA,jB] at this
     exact Cy (h.arg _ this (by omega)) (ha.arg _ this) λa n h1 h2=>Cy (h.argsL _ _ h2 (by omega)) (ha.argsL _ _ h2) λaz m h3 h4=>Vo h4 λh5=>h.nameL _ _ _ h5 (by omega)
    ·split
     ·rename_i hw
      have:=Bf hw hk
      simp only[jA,jB] at this
      exact Cy (h.paren _ (by omega) (by omega)) (ha.paren _ (by omega)) λa n h1 h2=>h.nameL _ _ _ h2 (by omega)
     ·split
      ·rename_i hw
       have:=Bf hw hk
       simp only[jA,jB] at this
       exact Bt7 λh1 s=>h.nameL _ _ _ h1 (by omega)
      ·exact Kn
theorem Gm7: ∀n,(P l n).Tot l n
 | 0=>by constructor<;>intros<;>omega
 |n+1=>Es6 (Gm7 n) (Jw n)
def Cj (l:List Tok):Nat:=8*l.length+20
def Q (l:List Tok):PS:=P l (Cj l)
theorem Pe {α:Type} {r y:Res α} (h:r.Le y) (C:r≠ .bot):y=r:=by
 rcases h with h|h
 ·exact absurd h C
 ·exact h.symm
structure PS.Fix (l:List Tok) (p:PS):Prop where
 expr: ∀k,k<=l.length->p.expr k=(Bi l p).expr k
 rest: ∀x k,k<=l.length->p.rest x k=(Bi l p).rest x k
 restL: ∀o x k,k<=l.length->p.restL o x k=(Bi l p).restL o x k
 relation: ∀x k,k<=l.length->p.relation x k=(Bi l p).relation x k
 simple: ∀k,k<=l.length->p.simple k=(Bi l p).simple k
 addL: ∀x k,k<=l.length->p.addL x k=(Bi l p).addL x k
 term: ∀k,k<=l.length->p.term k=(Bi l p).term k
 mulL: ∀x k,k<=l.length->p.mulL x k=(Bi l p).mulL x k
 factor: ∀k,k<=l.length->p.factor k=(Bi l p).factor k
 primary: ∀k,k<=l.length->p.primary k=(Bi l p).primary k
 paren: ∀k,k<=l.length->p.paren k=(Bi l p).paren k
 assoc: ∀k,k<=l.length->p.assoc k=(Bi l p).assoc k
 assocsL: ∀a k,k<=l.length->p.assocsL a k=(Bi l p).assocsL a k
 choice: ∀k,k<=l.length->p.choice k=(Bi l p).choice k
 choicesL: ∀a k,k<=l.length->p.choicesL a k=(Bi l p).choicesL a k
 arg: ∀k,k<=l.length->p.arg k=(Bi l p).arg k
 argsL: ∀a k,k<=l.length->p.argsL a k=(Bi l p).argsL a k
 name: ∀k,k<=l.length->p.name k=(Bi l p).name k
 nameL: ∀i x k,k<=l.length->p.nameL i x k=(Bi l p).nameL i x k
theorem Fm0:(Q l).Tot l (Cj l):=Gm7 _
theorem Fm1:(Q l).Adv l:=Jw _
theorem He6:(Q l).Fix l:=by
 have h:(Q l).Le (Bi l (Q l)):=Cg2 _;have t:=Fm0 (l:=l);have f: ∀k,8*(l.length-k)+7<=Cj l:=λk=>by unfold Cj;omega
 have y: ∀ {k a:Nat},a<=7->8*(l.length-k)+a<=Cj l:=λ{k a} ha=>by have:=f k;omega
 exact⟨λk hk=>(Pe (h.expr k) (t.expr k hk (y (by omega)))).symm,
  λx k hk=>(Pe (h.rest x k) (t.rest x k hk (y (by omega)))).symm,
  λo x k hk=>(Pe (h.restL o x k) (t.restL o x k hk (y (by omega)))).symm,
  λx k hk=>(Pe (h.relation x k) (t.relation x k hk (y (by omega)))).symm,
  λk hk=>(Pe (h.simple k) (t.simple k hk (y (by omega)))).symm,
  λx k hk=>(Pe (h.addL x k) (t.addL x k hk (y (by omega)))).symm,
  λk hk=>(Pe (h.term k) (t.term k hk (y (by omega)))).symm,
  λx k hk=>(Pe (h.mulL x k) (t.mulL x k hk (y (by omega)))).symm,
  λk hk=>(Pe (h.factor k) (t.factor k hk (y (by omega)))).symm,
  λk hk=>(Pe (h.primary k) (t.primary k hk (y (by omega)))).symm,
  λk hk=>(Pe (h.paren k) (t.paren k hk (y (by omega)))).symm,
  λk hk=>(Pe (h.assoc k) (t.assoc k hk (y (by omega)))).symm,
  λx k hk=>(Pe (h.assocsL x k) (t.assocsL x k hk (y (by omega)))).symm,
  λk hk=>(Pe (h.choice k) (t.choice k hk (y (by omega)))).symm,
  λx k hk=>(Pe (h.choicesL x k) (t.choicesL x k hk (y (by omega)))).symm,
  λk hk=>(Pe (h.arg k) (t.arg k hk (y (by omega)))).symm,
  λx k hk=>(Pe (h.argsL x k) (t.argsL x k hk (y (by omega)))).symm,
  λk hk=>(Pe (h.name k) (t.name k hk (y (by omega)))).symm,
  λi x k hk=>(Pe (h.nameL i x k) (t.nameL i x k hk (y (by omega)))).symm⟩
end
def Ag (s:List UInt8):Tok:=⟨Im s,0,s,0⟩
def Eg (s:List UInt8):Tok:=⟨1,0,s,0⟩
def Dd4 (n:Int):Tok:=⟨3,0,[],n⟩
def Wz (b:Bool) (t:List Tok):List Tok:=if b then Ag Bc::(t++ [Ag Bs]) else t
def Dw (s:List UInt8):List (List Tok)->List Tok
 | []=> []
 | [x]=>x
 |x::r=>x++Ag s::Dw s r
def Kz (e:Ex):Int:=if Aw e=2 then 3 else 5
def Gi (e:Ex):Int:=if Aw e=1 then 2 else if Aw e=0/\((e.l.getD 0 ex0).kind≠12\/(e.l.getD 0 ex0).oper≠e.oper) then 1 else Aw e
def Hx (e:Ex):Int:=if Aw e=1 then 2 else Aw e+1
def Rb (k:Int):Bool:=decide (k=9) || decide (k=10)
def Om (e:Ex) (tl ta:List (List Tok)):List Tok:=
 let p:=λ(i:Nat) (lv:Int)=>Wz (decide (Aw (e.l.getD i ex0)<lv)) (tl.getD i [])
 if e.kind=1 then [Dd4 e.n] else if e.kind=2 then [Ag Gg] else if e.kind=3 then [Eg e.s]
 else if e.kind=4 then tl.getD 0 []++ [Ag Ju,Eg e.s]
 else if e.kind=5 then tl.getD 0 []++ [Ag Ju,Ag Ae1]
 else if e.kind=6 then tl.getD 0 []++ [Ag Iy,Eg e.s]
 else if e.kind=7 then tl.getD 0 []++Ag Bc::(Dw Dm ta++ [Ag Bs])
 else if e.kind=8 then tl.getD 0 []++Ag Iy::Wz (!Rb (e.l.getD 1 ex0).kind) (tl.getD 1 [])
 else if e.kind=9 then Ag Bc::(Dw Dm ta++ [Ag Bs])
 else if e.kind=10 then Ag Bc::Ag wIf::(tl.getD 0 []++Ag Pp::(tl.getD 1 []++Ag Qv::(tl.getD 2 []++ [Ag Bs])))
 else if e.kind=11 then(Ay e.oper.toNat).map Ag++p 0 (Kz e)
 else if e.kind=12 then p 0 (Gi e)++((Ay e.oper.toNat).map Ag++p 1 (Hx e))
 else if e.kind=13 then p 0 2++Ag wIn::(if e.l.length=3 then p 1 2++Ag Et::p 2 2 else tl.getD 1 [])
 else p 0 2++Ag Wa::Ag wIn::(if e.l.length=3 then p 1 2++Ag Et::p 2 2 else tl.getD 1 [])
def Dd5 (k:Int) (l:List Ex) (tl:List (List Tok)):List Tok:=
 let p:=λ(i:Nat) (lv:Int)=>Wz (decide (Aw (l.getD i ex0)<lv)) (tl.getD i [])
 if k=1 then tl.getD 0 [] else if k=2 then p 0 2++Ag Et::p 1 2 else [Ag La]
def Ee2 (tc:List (List Tok)) (te:List Tok):List Tok:=if tc.isEmpty then te else Dw Gp tc++Ag Bp::te
mutual
def Ai:Ex->List Tok
 | .mk k o n s l a li en t=>Om (.mk k o n s l a li en t) (Yz l) (Ae5 a)
def Yz:List Ex->List (List Tok)
 | []=> []
 |x::l=>Ai x::Yz l
def Hl:As->List Tok
 | .mk c e=>Ee2 (Ae6 c) (Ai e)
def Ae5:List As->List (List Tok)
 | []=> []
 |x::l=>Hl x::Ae5 l
def Da:Ch->List Tok
 | .mk k l=>Dd5 k l (Yz l)
def Ae6:List Ch->List (List Tok)
 | []=> []
 |x::l=>Da x::Ae6 l
end
theorem Ao8: ∀l:List Ex,Yz l=l.map Ai
 | []=>rfl
 |x::l=>by rw[Yz,Ao8 l,jN]
theorem Bt8: ∀l:List As,Ae5 l=l.map Hl
 | []=>rfl
 |x::l=>by rw[Ae5,Bt8 l,jN]
theorem Bt9: ∀l:List Ch,Ae6 l=l.map Da
 | []=>rfl
 |x::l=>by rw[Ae6,Bt9 l,jN]
theorem Iz (e:Ex):Ai e=Om e (e.l.map Ai) (e.a.map Hl):=by
 cases e;rw[Ai,Ao8,Bt8];rfl
theorem Rc (x:As):Hl x=if x.c.isEmpty then Ai x.e else Dw Gp (x.c.map Da)++Ag Bp::Ai x.e:=by
 cases x with
 |mk c e=>rw[Hl,Bt9,Ee2];cases c<;>rfl
def Ap (e:Ex) (lv:Int):List Tok:=Wz (decide (Aw e<lv)) (Ai e)
theorem Fm2 {α β:Type} (f:α->β) (l:List α) (i:Nat) (d:α) (e:β) (h:i<l.length):(l.map f).getD i e=f (l.getD i d):=by
 simp [List.getD,List.getElem?_map,List.getElem?_eq_getElem h]
theorem Ng (c:Ch):Da c=if c.kind=1 then(c.l.map Ai).getD 0 [] else if c.kind=2 then Wz (decide (Aw (c.l.getD 0 ex0)<2)) ((c.l.map Ai).getD 0 [])++Ag Et::Wz (decide (Aw (c.l.getD 1 ex0)<2)) ((c.l.map Ai).getD 1 []) else [Ag La]:=by
 cases c;rw[Da,Ao8];rfl
def tE (e:Ex) (i:Nat):List Tok:=(e.l.map Ai).getD i []
def pE (e:Ex) (i:Nat) (lv:Int):List Tok:=Wz (decide (Aw (e.l.getD i ex0)<lv)) (tE e i)
def Jy (e:Ex):List Tok:=if e.l.length=3 then pE e 1 2++Ag Et::pE e 2 2 else tE e 1
def taE (e:Ex):List Tok:=Dw Dm (e.a.map Hl)
section
variable {e:Ex}
theorem Fm3 (h:e.kind=1):Ai e= [Dd4 e.n]:=by rw[Iz];unfold Om;rw[h];rfl
theorem Fm4 (h:e.kind=2):Ai e= [Ag Gg]:=by rw[Iz];unfold Om;rw[h];rfl
theorem Dd6 (h:e.kind=3):Ai e= [Eg e.s]:=by rw[Iz];unfold Om;rw[h];rfl
theorem Ee3 (h:e.kind=4):Ai e=tE e 0++ [Ag Ju,Eg e.s]:=by rw[Iz];unfold Om;rw[h];rfl
theorem Fm5 (h:e.kind=5):Ai e=tE e 0++ [Ag Ju,Ag Ae1]:=by rw[Iz];unfold Om;rw[h];rfl
theorem Fm6 (h:e.kind=6):Ai e=tE e 0++ [Ag Iy,Eg e.s]:=by rw[Iz];unfold Om;rw[h];rfl
theorem Fm7 (h:e.kind=7):Ai e=tE e 0++Ag Bc::(taE e++ [Ag Bs]):=by rw[Iz];unfold Om;rw[h];rfl
theorem Fm8 (h:e.kind=8):Ai e=tE e 0++Ag Iy::Wz (!Rb (e.l.getD 1 ex0).kind) (tE e 1):=by rw[Iz];unfold Om;rw[h];rfl
theorem Ee4 (h:e.kind=9):Ai e=Ag Bc::(taE e++ [Ag Bs]):=by rw[Iz];unfold Om;rw[h];rfl
theorem Cp6 (h:e.kind=10):Ai e=Ag Bc::Ag wIf::(tE e 0++Ag Pp::(tE e 1++Ag Qv::(tE e 2++ [Ag Bs]))):=by rw[Iz];unfold Om;rw[h];rfl
theorem Ds9 (h:e.kind=11):Ai e=(Ay e.oper.toNat).map Ag++pE e 0 (Kz e):=by rw[Iz];unfold Om;rw[h];rfl
theorem Dt0 (h:e.kind=12):Ai e=pE e 0 (Gi e)++((Ay e.oper.toNat).map Ag++pE e 1 (Hx e)):=by rw[Iz];unfold Om;rw[h];rfl
theorem Dt1 (h:e.kind=13):Ai e=pE e 0 2++Ag wIn::Jy e:=by rw[Iz];unfold Om;rw[h];rfl
theorem Dt2 (h:e.kind=14):Ai e=pE e 0 2++Ag Wa::Ag wIn::Jy e:=by rw[Iz];unfold Om;rw[h];rfl
theorem He7 {i:Nat} (h:i<e.l.length):tE e i=Ai (e.l.getD i ex0):=Fm2 Ai e.l i ex0 [] h
theorem Gm8 {i:Nat} (h:i<e.l.length) (y:Int):pE e i y=Ap (e.l.getD i ex0) y:=by rw[pE,He7 h];rfl
end
theorem Es7 {s:List UInt8}:Im s≠1/\Im s≠3/\Im s≠0:=by
 unfold Im;split<;>decide
theorem Sy (s:List UInt8) (x:List Tok) (r:List (List Tok)) (h:r≠ []):Dw s (x::r)=x++Ag s::Dw s r:=by
 cases r with
 |nil=>exact absurd rfl h
 |cons y r=>rfl
theorem Xa (s:List UInt8): ∀(l:List (List Tok)) (x:List Tok),l≠ []->Dw s (l++ [x])=Dw s l++Ag s::x
 | [],_,h=>absurd rfl h
 | [y],x,_=>rfl
 |y::z::r,x,_=>by
  rw[jI,Sy s y _ (by simp),Xa s (z::r) x (by simp),Sy s y (z::r) (by simp)];simp
section
variable {l:List Tok}
theorem Bu0 {k:Nat} {s:List UInt8}:isW l k [s]=(decide ((tk l k).kind=Im s)&&decide ((tk l k).text=s)):=by rw[isW,isW,Bool.and_true]
theorem Fm9 {k:Nat} {s t:List UInt8}:isW l k [s,t]=(isW l k [s]&&isW l (k+1) [t]):=by rw[isW,Bu0 (s:=s),Bu0 (s:=t)]
theorem Gm {k:Nat} {s t:List UInt8} (h:isW l k [s]=true) (hs:s≠t):isW l k [t]=false:=by
 rw[Bu0,jF,decide_eq_true_eq,decide_eq_true_eq] at h;rw[Bu0,h.2,decide_eq_false hs,Bool.and_false]
end
section
variable {l:List Tok} {n:Nat}
theorem Fn0 {k:Nat} {ws:List (List UInt8)} {s:List UInt8} (h:isW l k ws=true) (hs:ws.head? =some s):isW l k [s]=true:=by
 cases ws with
 |nil=>cases hs
 |cons a r=>
  cases hs;rw[isW,jF] at h;rw[Bu0];exact h.1
theorem Bu1 {want k:Nat} {l:List Tok}: ∀ {os:List Nat},(∀o∈os,isW l k (Ay o)=false)->opF l want k os=(0,k)
 | [],_=>rfl
 |o::r,h=>by rw[opF,h o (by simp),if_neg (by simp)];exact Bu1 λx hx=>h x (by simp [hx])
end
section
variable {l:List Tok}
theorem Au3 (b:Bool) (t:List Tok):(Wz b t).length=t.length+if b then 2 else 0:=by
 cases b<;>simp [Wz]
theorem Rf (e:Ex):0<=Aw e/\Aw e<=5:=by
 unfold Aw;repeat' split
 all_goals omega
def Lg {α:Type} (R:α->Nat->Prop) (r:Res α):Prop:= ∀x k',r= .ok x k'->R x k'
theorem Bt {α β:Type} {r:Res α} {f:α->Nat->Res β} {R:α->Nat->Prop} {S:β->Nat->Prop} (h:Lg R r) (hf: ∀x k1,R x k1->Lg S (f x k1)):Lg S (r.then f):=λy k' e=>by
 cases r with
 |bot=>cases e
 |fail n=>cases e
 |ok x n=>exact hf x n (h x n rfl) y k' e
theorem Fd {α:Type} {R:α->Nat->Prop} {k:Nat} {x:α} (h:R x k):Lg R (.ok x k):=λy k' e=>by cases e;exact h
theorem Bc0 {α:Type} {R:α->Nat->Prop} {k:Nat}:Lg R (.fail k):=λy k' e=>by cases e
theorem On {α:Type} {R:α->Nat->Prop} {k:Nat} {s:List UInt8} {f:Nat->Res α} (h:isW l k [s]=true->Lg R (f (k+1))):Lg R (must l s k f):=by
 unfold must;split
 ·exact h ‹_›
 ·exact Bc0
theorem Bc1 {α:Type} {R:α->Nat->Prop} {k:Nat} {f:List UInt8->Nat->Res α} (h:(tk l k).kind=1->Lg R (f (tk l k).text (k+1))):Lg R (Jg l k f):=by
 unfold Jg;split
 ·exact h ‹_›
 ·exact Bc0
theorem Dx {α:Type} {R S:α->Nat->Prop} {r:Res α} (h:Lg R r) (g:Lg S r):Lg (λx k=>R x k/\S x k) r:=λx k e=>⟨h x k e,g x k e⟩
theorem Dy {α:Type} {a:Nat} {r:Res α} (h:Adv l a r):Lg (λ_ k'=>a<=k'/\k'<=l.length) r:=λx k' e=>by rw[e] at h;exact h
def Fn1 (ta:List (List Tok)):Nat:=(ta.map λt=>t.length+1).sum-1
theorem Bu2 (s:List UInt8): ∀l:List (List Tok),(Dw s l).length=Fn1 l
 | []=>rfl
 | [x]=>by simp [Dw,Fn1]
 |x::y::r=>by
  have ih:=Bu2 s (y::r);rw[Sy s x _ (by simp),jC,jA,ih];simp only[Fn1,jN,List.sum_cons];omega
def Cp7 (ta:List (List Tok)):Nat:=(ta.map λt=>t.length+1).sum
theorem Vp {e:Ex} (h:Bn e=true):Aw e=5:=by
 unfold Bn at h;rw[jF,decide_eq_true_eq,decide_eq_true_eq] at h;unfold Aw;rw[if_neg (by omega),if_neg (by omega),if_neg (by omega)]
theorem Cp8 {want k:Nat}: ∀ {os:List Nat},(opF l want k os).1≠0->(opF l want k os).1∈os/\(opF l want k os).2=k+(Ay (opF l want k os).1).length/\isW l k (Ay (opF l want k os).1)=true
 | [],h=>absurd rfl h
 |o::r,h=>by
  rw[opF] at h⊢
  split
  ·rename_i hw
   rw[if_pos hw] at h;split
   ·rename_i hc
    rw[if_pos hc] at h;exact absurd rfl h
   ·exact⟨List.mem_cons_self,rfl,hw⟩
  ·rename_i hw
   rw[if_neg hw] at h;have:=Cp8 h;exact⟨List.mem_cons_of_mem _ this.1,this.2⟩
theorem Fn2 {o:Nat} (h:o∈Hh):o=18\/o=19:=by simp [Hh] at h;omega
theorem Gg6 {o:Nat} (h:o∈Ky):o=20\/o=21:=by simp [Ky] at h;omega
theorem Fn3 (s:List UInt8) (y:List (List Tok)) (h:y≠ []):(Dw s y).length+1=Cp7 y:=by
 rw[Bu2,Fn1,Cp7];cases y with
 |nil=>exact absurd rfl h
 |cons t r=>simp only[jN,List.sum_cons];omega
end
end Go.Dl
-- Ux
namespace Go.Dl
open Go Go.Proofs
set_option maxRecDepth 100000
section
variable {l:List Tok}
theorem Ao9 (a:As): ∀l:List As,El (l++ [a])=El l+Us a
 | []=>by simp [El]
 |x::l=>by rw[jI,El,El,Ao9 a l];omega
theorem Bu3 (a:Ch): ∀l:List Ch,Gq (l++ [a])=Gq l+Ak5 a
 | []=>by simp [Gq]
 |x::l=>by rw[jI,Gq,Gq,Bu3 a l];omega
theorem Bc2 (a:As): ∀l:List As,Mu (l++ [a])↔Mu l/\okA a
 | []=>by simp [Mu]
 |x::l=>by rw[jI,Mu,Mu,Bc2 a l];exact and_assoc.symm
theorem Ch3 (a:Ch): ∀l:List Ch,Ts (l++ [a])↔Ts l/\okC a
 | []=>by simp [Ts]
 |x::l=>by rw[jI,Ts,Ts,Ch3 a l];exact and_assoc.symm
def FE (k:Nat) (x:Ex) (k':Nat):Prop:=Ej x+1+2*k<=2*k'/\okE x
def FL (k:Nat) (x y:Ex) (k':Nat):Prop:=Ej y+2*k<=Ej x+2*k'/\okE y
structure PS.Fits (l:List Tok) (p:PS):Prop where
 expr: ∀k,k<=l.length->Lg (FE k) (p.expr k)
 rest: ∀x k,k<=l.length->okE x->Lg (FL k x) (p.rest x k)
 restL: ∀o x k,k<=l.length->okE x->Lg (FL k x) (p.restL o x k)
 relation: ∀x k,k<=l.length->okE x->Lg (FL k x) (p.relation x k)
 simple: ∀k,k<=l.length->Lg (FE k) (p.simple k)
 addL: ∀x k,k<=l.length->okE x->Lg (FL k x) (p.addL x k)
 term: ∀k,k<=l.length->Lg (FE k) (p.term k)
 mulL: ∀x k,k<=l.length->okE x->Lg (FL k x) (p.mulL x k)
 factor: ∀k,k<=l.length->Lg (FE k) (p.factor k)
 primary: ∀k,k<=l.length->Lg (FE k) (p.primary k)
 paren: ∀k,k<=l.length->Lg (FE k) (p.paren k)
 assoc: ∀k,k<=l.length->Lg (λx k'=>Us x+1+2*k<=2*k'/\okA x) (p.assoc k)
 assocsL: ∀a k,k<=l.length->Mu a->Lg (λb k'=>El b+2*k<=El a+2*k'/\Mu b) (p.assocsL a k)
 choice: ∀k,k<=l.length->Lg (λx k'=>Ak5 x+2*k<=2*k'/\okC x) (p.choice k)
 choicesL: ∀a k,k<=l.length->Ts a->Lg (λb k'=>Gq b+2*k<=Gq a+2*k'/\Ts b) (p.choicesL a k)
 arg: ∀k,k<=l.length->Lg (λx k'=>Us x+1+2*k<=2*k'/\okA x) (p.arg k)
 argsL: ∀a k,k<=l.length->Mu a->Lg (λb k'=>El b+2*k<=El a+2*k'/\Mu b) (p.argsL a k)
 name: ∀k,k<=l.length->Lg (FE k) (p.name k)
 nameL: ∀i x k,k<=l.length->okE x->Lg (FL k x) (p.nameL i x k)
theorem Au4 (o:Nat) (x y:Ex):Ej (both o x y)=1+Ej x+Ej y:=by
 rw[both,Ej];simp only[He,El];omega
theorem Bm2 {o:Nat} {x y:Ex} (h1:okE x) (h2:okE y):okE (both o x y):=by
 rw[both,okE];simp only[okL,Mu];exact⟨by decide,⟨h1,h2,trivial⟩,trivial⟩
theorem Dd7 (o:Nat) (x:Ex) (li:Int):Ej (Qw o li x)=if o=0 then Ej x else 1+Ej x:=by
 unfold Qw;split
 ·rfl
 ·rw[Ej];simp only[He,El];omega
theorem Ee5 {o:Nat} {x:Ex} {li:Int} (h1:okE x):okE (Qw o li x):=by
 unfold Qw;split
 ·exact h1
 ·rw[okE];simp only[okL,Mu];exact⟨by decide,⟨h1,trivial⟩,trivial⟩
theorem Dt3 (hT: ∀k,(tk l k).text.length<=9223372036854775807) {p:PS} (h:p.Fits l) (J:p.Adv l):(Bi l p).Fits l where
 expr k hk:=Bt (Dx (h.simple k hk) (Dy (J.simple k hk))) λx m ⟨h1,h2⟩ y k' e=>by
  obtain⟨C,E⟩:=h.rest x m h2.2 h1.2 y k' e
  exact⟨by have:=h1.1;omega,E⟩
 rest x k hk hx:=Bt (Dx (h.relation x k hk hx) (Dy (J.relation x k hk))) λy m ⟨h1,h2⟩ z k' e=>by
  obtain⟨C,E⟩:=h.restL _ y m h2.2 h1.2 z k' e
  exact⟨by have:=h1.1;omega,E⟩
 restL o x k hk hx:=by
  dsimp only[Bi]
  split
  ·exact Fd ⟨Nat.le_refl _,hx⟩
  ·obtain⟨Y,q2,L,Z⟩:=Er (want:=o) Hi1.1 hk
   split
   ·exact Fd ⟨Nat.le_refl _,hx⟩
   ·rename_i hq
    have:=q2 hq
    refine Bt (Dx (h.simple _ L) (Dy (J.simple _ L))) λy j ⟨h1,h2⟩=>Bt (Dx (h.relation y j h2.2 h1.2) (Dy (J.relation y j h2.2))) λz i ⟨h3,h4⟩ w k' e=> ?_
    obtain⟨C,E⟩:=h.restL o (both o x z) i h4.2 (Bm2 hx h3.2) w k' e
    rw[Au4] at C
    have:=h1.1
    have:=h3.1
    exact⟨by omega,E⟩
 relation x k hk hx:=by
  dsimp only[Bi]
  obtain⟨Y,q2,L,Z⟩:=Er (want:=0) Hi1.2.1 hk
  have ad: ∀(kind:Int) (j:Nat),k+1<=j->j<=l.length->Lg (FL k x) (inK l x kind j p):=λkind j af hj=>by
   refine Bt (Dx (h.simple _ hj) (Dy (J.simple _ hj))) λy i ⟨h1,h2⟩=> ?_
   have:=h1.1
   split
   ·rename_i hw
    have D:=Bf hw h2.2
    simp only[jA,jB] at D
    refine Bt (h.simple _ D) λz n h3=>Fd ⟨?_, ?_⟩
    ·have:=h3.1
     rw[Ej];simp only[He,El];omega
    ·rw[okE];simp only[okL,Mu];exact⟨by decide,⟨hx,h1.2,h3.2,trivial⟩,trivial⟩
   ·split
    ·refine Fd ⟨?_, ?_⟩
     ·rw[Ej];simp only[He,El];omega
     ·rw[okE];simp only[okL,Mu];exact⟨by decide,⟨hx,h1.2,trivial⟩,trivial⟩
    ·exact Bc0
  split
  ·rename_i hq
   have:=q2 hq
   refine Bt (h.simple _ L) λy j h1=>Fd ⟨?_,Bm2 hx h1.2⟩
   have:=h1.1
   rw[Au4];omega
  ·split
   ·rename_i hw
    have D:=Bf hw hk
    simp only[jA,jB] at D
    exact ad _ _ (by omega) D
   ·split
    ·rename_i hw
     have D:=Bf hw hk
     simp only[jA,jB] at D
     exact ad _ _ (by omega) D
    ·exact Fd ⟨Nat.le_refl _,hx⟩
 simple k hk:=by
  obtain⟨Y,q2,L,Z⟩:=Er (want:=0) Hi1.2.2.1 hk
  refine Bt (Dx (h.term _ L) (Dy (J.term _ L))) λx j ⟨h1,h2⟩ y k' e=> ?_
  obtain⟨C,E⟩:=h.addL _ j h2.2 (Ee5 h1.2) y k' e
  have:=h1.1
  rw[Dd7] at C
  refine⟨?_,E⟩
  by_cases c:(opF l 0 k Hh).1=0
  ·rw[if_pos c] at C;omega
  ·have:=q2 c
   rw[if_neg c] at C;omega
 addL x k hk hx:=by
  dsimp only[Bi]
  obtain⟨Y,q2,L,Z⟩:=Er (want:=0) Hi1.2.2.2.1 hk
  split
  ·exact Fd ⟨Nat.le_refl _,hx⟩
  ·rename_i hq
   have:=q2 hq
   refine Bt (Dx (h.term _ L) (Dy (J.term _ L))) λy j ⟨h1,h2⟩ z k' e=> ?_
   obtain⟨C,E⟩:=h.addL _ j h2.2 (Bm2 hx h1.2) z k' e
   have:=h1.1
   rw[Au4] at C
   exact⟨by omega,E⟩
 term k hk:=Bt (Dx (h.factor k hk) (Dy (J.factor k hk))) λx j ⟨h1,h2⟩ y k' e=>by
  obtain⟨C,E⟩:=h.mulL x j h2.2 h1.2 y k' e
  have:=h1.1
  exact⟨by omega,E⟩
 mulL x k hk hx:=by
  dsimp only[Bi]
  obtain⟨Y,q2,L,Z⟩:=Er (want:=0) Hi1.2.2.2.2.1 hk
  split
  ·exact Fd ⟨Nat.le_refl _,hx⟩
  ·rename_i hq
   have:=q2 hq
   refine Bt (Dx (h.factor _ L) (Dy (J.factor _ L))) λy j ⟨h1,h2⟩ z k' e=> ?_
   obtain⟨C,E⟩:=h.mulL _ j h2.2 (Bm2 hx h1.2) z k' e
   have:=h1.1
   rw[Au4] at C
   exact⟨by omega,E⟩
 factor k hk:=by
  obtain⟨Y,q2,L,Z⟩:=Er (want:=0) Hi1.2.2.2.2.2 hk
  refine Bt (h.primary _ L) λx j h1=>Fd ⟨?_,Ee5 h1.2⟩
  have:=h1.1
  rw[Dd7]
  by_cases c:(opF l 0 k Ky).1=0
  ·rw[if_pos c];omega
  ·have:=q2 c
   rw[if_neg c];omega
 primary k hk:=by
  dsimp only[Bi]
  split
  ·exact Fd ⟨by rw[Ej];simp only[He,El];omega,by rw[okE];exact⟨by decide,trivial,trivial⟩⟩
  ·split
   ·exact Fd ⟨by rw[Ej];simp only[He,El];omega,by rw[okE];exact⟨by decide,trivial,trivial⟩⟩
   ·split
    ·exact h.paren k hk
    ·exact h.name k hk
 paren k hk:=by
  dsimp only[Bi]
  refine On λhw=> ?_
  have ab:=Bf hw hk
  simp only[jA,jB] at ab
  split
  ·rename_i ae
   have ac:=Bf ae ab
   simp only[jA,jB] at ac
   refine Bt (Dx (h.expr _ ac) (Dy (J.expr _ ac))) λa M ⟨C,E⟩=>On λw1=> ?_
   have D:=Bf w1 E.2
   refine Bt (Dx (h.expr _ D) (Dy (J.expr _ D))) λb W ⟨I,X⟩=>On λw2=> ?_
   have O:=Bf w2 X.2
   refine Bt (Dx (h.expr _ O) (Dy (J.expr _ O))) λc i3 ⟨g5,g6⟩=>On λw3=>Fd ⟨?_, ?_⟩
   ·have:=C.1;have:=I.1;have:=g5.1
    rw[Ej];simp only[He,El];omega
   ·rw[okE];simp only[okL,Mu];exact⟨by decide,⟨C.2,I.2,g5.2,trivial⟩,trivial⟩
  ·refine Bt (Dx (h.assoc _ ab) (Dy (J.assoc _ ab))) λa M ⟨C,E⟩=>Bt (Dx (h.assocsL [a] M E.2 ⟨C.2,trivial⟩) (Dy (J.assocsL [a] M E.2))) λb W ⟨I,X⟩=>On λw1=>Fd ?_
   have S:=C.1
   have V:=I.1
   simp only[El] at V
   have key: ∀li,FE k (.mk 9 0 0 [] [] b li 0 0) (W+1):=λli=>⟨by rw[Ej];simp only[He];omega,by rw[okE];exact⟨by decide,trivial,I.2⟩⟩
   match b,I,V,key with
   | [],I,_,key=>exact key _
   |x::y::r,I,_,key=>exact key _
   | [x],I,V,key=>
    show FE k (if x.c= [] then x.e else _) _
    split
    ·simp only[El] at V
     have h6:=Sh x
     have h5:=I.2
     simp only[Mu] at h5
     exact⟨by omega,(Gv5.1 h5.1).2⟩
    ·exact key _
 assoc k hk:=by
  refine Bt (Dx (h.choice k hk) (Dy (J.choice k hk))) λc M ⟨⟨C,S⟩,E⟩=> ?_
  rw[Nm] at C
  split
  ·refine Fd ?_
   rw[Gv6] at S
   rw[Us,okA]
   simp only[Gq,Ts]
   obtain⟨m,hm⟩: ∃m,m=c.l:=⟨_,rfl⟩
   rw[<-hm] at C S⊢
   cases m with
   |nil=>exact⟨by show 0+Ej ex0+1+2*k<=_;rw[show Ej ex0=1 from rfl];omega,trivial,by simp [ex0,okE,okL,Mu]⟩
   |cons x r=>
    rw[He] at C
    rw[okL] at S
    exact⟨by show 0+Ej x+1+2*k<=_;omega,trivial,S.1⟩
  ·split
   ·refine On λw1=> ?_
    have D:=Bf w1 E.2
    simp only[jA,jB] at D
    refine Bt (h.expr _ D) λe W I=>Fd ⟨?_, ?_⟩
    ·have:=I.1
     rw[Us];simp only[Gq,Nm];omega
    ·rw[okA];exact⟨⟨S,trivial⟩,I.2⟩
   ·refine Bt (Dx (h.choicesL [c] M E.2 ⟨S,trivial⟩) (Dy (J.choicesL [c] M E.2))) λb W ⟨⟨I,V⟩,X⟩=>On λw1=> ?_
    have D:=Bf w1 X.2
    simp only[jA,jB] at D
    refine Bt (h.expr _ D) λe i3 g5=>Fd ⟨?_, ?_⟩
    ·have:=g5.1
     simp only[Gq,Nm] at I
     rw[Us];omega
    ·rw[okA];exact⟨V,g5.2⟩
 assocsL a k hk ha:=by
  dsimp only[Bi]
  split
  ·rename_i hw
   have:=Bf hw hk
   simp only[jA,jB] at this
   refine Bt (Dx (h.assoc _ this) (Dy (J.assoc _ this))) λx n ⟨h1,h2⟩ y k' e=> ?_
   obtain⟨g,U⟩:=h.assocsL _ n h2.2 ((Bc2 _ _).2 ⟨ha,h1.2⟩) y k' e
   rw[Ao9] at g
   have:=h1.1
   exact⟨by omega,U⟩
  ·exact Fd ⟨Nat.le_refl _,ha⟩
 choice k hk:=by
  dsimp only[Bi]
  split
  ·exact Fd ⟨by rw[Ak5];simp only[He];omega,by rw[okC];trivial⟩
  ·refine Bt (Dx (h.simple k hk) (Dy (J.simple k hk))) λx M ⟨C,E⟩=> ?_
   have:=C.1
   split
   ·rename_i hw
    have D:=Bf hw E.2
    simp only[jA,jB] at D
    refine Bt (h.simple _ D) λy W I=>Fd ⟨?_, ?_⟩
    ·have:=I.1
     rw[Ak5];simp only[He];omega
    ·rw[okC];exact⟨C.2,I.2,trivial⟩
   ·refine Bt (h.rest x M E.2 C.2) λy W I=>Fd ⟨?_, ?_⟩
    ·have:=I.1
     rw[Ak5];simp only[He];omega
    ·rw[okC];exact⟨I.2,trivial⟩
 choicesL a k hk ha:=by
  dsimp only[Bi]
  split
  ·rename_i hw
   have:=Bf hw hk
   simp only[jA,jB] at this
   refine Bt (Dx (h.choice _ this) (Dy (J.choice _ this))) λx n ⟨h1,h2⟩ y k' e=> ?_
   obtain⟨g,U⟩:=h.choicesL _ n h2.2 ((Ch3 _ _).2 ⟨ha,h1.2⟩) y k' e
   rw[Bu3] at g
   have:=h1.1
   exact⟨by omega,U⟩
  ·exact Fd ⟨Nat.le_refl _,ha⟩
 arg k hk:=by
  dsimp only[Bi]
  split
  ·rename_i hw
   have j0:=Ry (l:=l) (k:=k) (by rw[hw.1];decide)
   have D:=Bf hw.2 j0
   simp only[jA,jB] at D
   refine Bt (h.expr _ D) λe M C=>Fd ⟨?_, ?_⟩
   ·have:=C.1
    rw[Us];simp only[Gq,Ak5,He,Ej,El];omega
   ·rw[okA];simp only[Ts,okC,okL,okE,Mu];exact⟨⟨⟨⟨hT k,trivial,trivial⟩,trivial⟩,trivial⟩,C.2⟩
  ·refine Bt (h.expr k hk) λe M C=>Fd ⟨?_, ?_⟩
   ·have:=C.1
    rw[Us];simp only[Gq];omega
   ·rw[okA];exact⟨trivial,C.2⟩
 argsL a k hk ha:=by
  dsimp only[Bi]
  split
  ·rename_i hw
   have:=Bf hw hk
   simp only[jA,jB] at this
   refine Bt (Dx (h.arg _ this) (Dy (J.arg _ this))) λx n ⟨h1,h2⟩ y k' e=> ?_
   obtain⟨g,U⟩:=h.argsL _ n h2.2 ((Bc2 _ _).2 ⟨ha,h1.2⟩) y k' e
   rw[Ao9] at g
   have:=h1.1
   exact⟨by omega,U⟩
  ·exact Fd ⟨Nat.le_refl _,ha⟩
 name k hk:=by
  dsimp only[Bi]
  refine Bc1 λaa=> ?_
  have j0:=Ry (l:=l) (k:=k) (by rw[aa];decide)
  intro x k' e
  obtain⟨g,U⟩:=h.nameL _ (.mk 3 0 0 (tk l k).text [] [] (tk l k).line 0 0) (k+1) j0 (by rw[okE];exact⟨hT k,trivial,trivial⟩) x k' e
  rw[Ej] at g
  simp only[He,El] at g
  exact⟨by omega,U⟩
 nameL i x k hk hx:=by
  have hn: ∀(y:Ex) (j:Nat),j<=l.length->okE y->Ej y+2*k<=Ej x+2*j->Lg (FL k x) (p.nameL i y j):=λy j hj hy hl z k' e=>by
   obtain⟨g,U⟩:=h.nameL i y j hj hy z k' e
   exact⟨by omega,U⟩
  dsimp only[Bi]
  split
  ·rename_i hw
   have D:=Bf hw hk
   simp only[jA,jB] at D
   refine hn _ _ D ?_ ?_
   ·rw[okE];exact⟨by decide,⟨hx,trivial⟩,trivial⟩
   ·rw[Ej];simp only[He,El];omega
  ·split
   ·rename_i hw
    have D:=Bf hw hk
    refine Bc1 λaa=> ?_
    have O:=Ry (l:=l) (k:=k+1) (by rw[aa];decide)
    refine hn _ _ O ?_ ?_
    ·rw[okE];exact⟨hT _,⟨hx,trivial⟩,trivial⟩
    ·rw[Ej];simp only[He,El];omega
   ·split
    ·rename_i hw
     have D:=Bf hw hk
     simp only[jA,jB] at D
     refine Bt (Dx (h.arg _ D) (Dy (J.arg _ D))) λa M ⟨C,E⟩=>Bt (Dx (h.argsL [a] M E.2 ⟨C.2,trivial⟩) (Dy (J.argsL [a] M E.2))) λb W ⟨I,X⟩=>On λw1=> ?_
     have O:=Bf w1 X.2
     have S:=C.1
     have V:=I.1
     simp only[El] at V
     refine hn _ _ O ?_ ?_
     ·rw[okE];exact⟨by decide,⟨hx,trivial⟩,I.2⟩
     ·rw[Ej];simp only[He];omega
    ·split
     ·rename_i hw
      have D:=Bf hw hk
      simp only[jA,jB] at D
      have O:k+1<=l.length:=by omega
      refine Bt (Dx (h.paren _ O) (Dy (J.paren _ O))) λy M ⟨C,E⟩=> ?_
      have S:=C.1
      refine hn _ _ E.2 ?_ ?_
      ·rw[okE];exact⟨by decide,⟨hx,C.2,trivial⟩,trivial⟩
      ·rw[Ej];simp only[He,El];omega
     ·split
      ·rename_i hw
       refine Bc1 λaa=> ?_
       have O:=Ry (l:=l) (k:=k+1) (by rw[aa];decide)
       refine hn _ _ O ?_ ?_
       ·rw[okE];exact⟨hT _,⟨hx,trivial⟩,trivial⟩
       ·rw[Ej];simp only[He,El];omega
      ·exact Fd ⟨Nat.le_refl _,hx⟩
theorem Dt4 (y: ∀k,(tk l k).text.length<=9223372036854775807): ∀n,(P l n).Fits l
 | 0=>by constructor<;>intros<;>intro x k' e<;>cases e
 |n+1=>Dt3 y (Dt4 y n) (Jw n)
end
def We (l:List Tok):Nat->Res Ex
 | 0=>(Q l).expr 0
 | 1=>((Q l).simple 0).then λx k=>(Q l).relation x k
 | 2=>(Q l).simple 0
 | 3=>(Q l).term 0
 | 4=>(Q l).factor 0
 | 5=>(Q l).primary 0
 |_=>(Q l).name 0
def Bc3 (l:List Tok):Res (List Ch):=((Q l).choice 0).then λa k=>(Q l).choicesL [a] k
def Gj (l:List Tok) (level:Int):Ex×Int×Int:=
 if level<0\/7<=level then(ex0,0,2) else match We l level.toNat with
  | .ok x k=>if Bu x then(x,k,0) else(ex0,0,3)
  | .fail k=>(ex0,k,30)
  | .bot=>(ex0,0,0)
def Ji (l:List Tok):List Ch×Int×Int:=match Bc3 l with
  | .ok x k=>if Ia x then(x,k,0) else([],0,3)
  | .fail k=>([],k,30)
  | .bot=>([],0,0)
section
variable {l:List Tok}
theorem Bc4 (j:Nat):We l j≠ .bot:=by
 have t:=Fm0 (l:=l);have y: ∀ {k a:Nat},a<=7->8*(l.length-k)+a<=Cj l:=λ{k a} ha=>by unfold Cj;omega
 unfold We;split
 ·exact t.expr _ (by omega) (y (by omega))
 ·exact Cy (t.simple _ (by omega) (y (by omega))) (Fm1.simple 0 (by omega)) λx n _ h=>t.relation _ _ h (y (by omega))
 ·exact t.simple _ (by omega) (y (by omega))
 ·exact t.term _ (by omega) (y (by omega))
 ·exact t.factor _ (by omega) (y (by omega))
 ·exact t.primary _ (by omega) (y (by omega))
 ·exact t.name _ (by omega) (y (by omega))
theorem Au5:Bc3 l≠ .bot:=by
 have t:=Fm0 (l:=l);have y: ∀ {k a:Nat},a<=7->8*(l.length-k)+a<=Cj l:=λ{k a} ha=>by unfold Cj;omega
 exact Cy (t.choice _ (by omega) (y (by omega))) (Fm1.choice 0 (by omega)) λx n _ h=>t.choicesL _ _ h (y (by omega))
theorem Cp9 (j:Nat):Adv l 1 (We l j):=by
 have t:=Fm1 (l:=l);unfold We;split
 ·exact t.expr _ (by omega)
 ·exact Ca (t.simple _ (by omega)) λx n h1 h=>Ek (t.relation x n h) h1
 ·exact t.simple _ (by omega)
 ·exact t.term _ (by omega)
 ·exact t.factor _ (by omega)
 ·exact t.primary _ (by omega)
 ·exact t.name _ (by omega)
theorem Fn4:Adv l 1 (Bc3 l):=Ca (Fm1.choice 0 (by omega)) λx n h1 h=>Ek (Fm1.choicesL _ n h) h1
def Bv (l:List Tok):Prop:= ∀k,(tk l k).text.length<=9223372036854775807
theorem Dd8 (C:Bv l) (j:Nat):Lg (FE 0) (We l j):=by
 have t:=Dt4 C (Cj l);change (Q l).Fits l at t;unfold We;split
 ·exact t.expr _ (by omega)
 ·exact Bt (Dx (t.simple _ (by omega)) (Dy (Fm1.simple _ (by omega)))) λx n ⟨h1,h2⟩ y k' e=>by
   obtain⟨g,D⟩:=t.relation x n h2.2 h1.2 y k' e;have:=h1.1;exact⟨by omega,D⟩
 ·exact t.simple _ (by omega)
 ·exact t.term _ (by omega)
 ·exact t.factor _ (by omega)
 ·exact t.primary _ (by omega)
 ·exact t.name _ (by omega)
theorem Ch4 (C:Bv l):Lg (λa k'=>Gq a<=2*k'/\Ts a) (Bc3 l):=by
 have t:=Dt4 C (Cj l);change (Q l).Fits l at t;exact Bt (Dx (t.choice 0 (by omega)) (Dy (Fm1.choice 0 (by omega)))) λx n ⟨h1,h2⟩ y k' e=>by
  obtain⟨g,D⟩:=t.choicesL [x] n h2.2 ⟨h1.2,trivial⟩ y k' e;simp only[Gq] at g;exact⟨by omega,D⟩
end
section
variable {G:Nat->DVal} {l:List Tok}
theorem Dd9 (hG:GX G) (hl:l.length<=12800000) (r:Nat) (H:Ab) (hr:H r=some (rdO l 0)):Ad Tryz.prog G 59 [.optr r 0] H (RdR r l H ((We l 1).mp dE)):=by
 have ha:=Fl7 (r:=r) hG hl (Cj l);have C:=Bc4 (l:=l) 1;refine dci Tryz.func59 Tryz.call59 ?_;simp only[go_sem];intro I E;have S:r≠I:=Ac E hr;have q2:=S.symm;simp only[go_sem];have h0:RAt r l 0 H (upd H I (some (.cells zY 27))):=(RAt.refl hr).new E _;have hp:=ha.simple _ 0 h0.get (by omega);have J:=Fm1.simple (l:=l) 0 (by omega);unfold We at C⊢
 dsimp only at hp;change ((P l (Cj l)).simple 0).then _≠_ at C
 change Ad _ _ _ _ _ _;cases hc:(P l (Cj l)).simple 0 with
 |bot=>rw[hc] at C;exact absurd rfl C
 |fail k=>
  rw[hc] at hp;refine(hp (Cb (by simp))).mono ?_;rintro e L ⟨rfl,rfl⟩;simp only[go_sem];have:(Q l).simple 0= .fail k:=hc;rw[this];exact RAt.finP (h0.set k) ⟨rfl,rfl⟩
 |ok x k=>
  rw[hc] at hp C;have hq:(Q l).simple 0= .ok x k:=hc;rw[hq] at J;refine(hp (Cb (by simp))).mono ?_;rintro e L ⟨rfl,M⟩;have h4:=M.symm▸h0.set k;have U:=M.symm▸Aj (Aa _ _ _) q2;simp only[go_sem,dE];have hp2:=ha.relation x L k h4.get J.2;dsimp only at hp2;rw[hq,Nf];change (P l (Cj l)).relation x k≠_ at C;cases hc2:(P l (Cj l)).relation x k with
  |bot=>exact absurd hc2 C
  |fail D=>
   rw[hc2] at hp2;refine(hp2 (Cb (by simp))).mono ?_;rintro e V ⟨rfl,rfl⟩;simp only[go_sem];have:(Q l).relation x k= .fail D:=hc2;rw[this];exact RAt.finP (h4.set D) ⟨rfl,rfl⟩
  |ok y D=>
   rw[hc2] at hp2;refine(hp2 (Cb (by simp))).mono ?_;rintro e V ⟨rfl,O⟩;have h5:=O.symm▸h4.set D;have W:=O.symm▸Aj U q2;have X:=Af y;have Y:=Cd y;simp only[go_sem,dE,W,X,Y];have:(Q l).relation x k= .ok y D:=hc2;rw[this];exact RAt.fin (h5.own E q2 _) ⟨rfl,rfl⟩
theorem Es8 (hG:GX G) (hl:l.length<=12800000) (j:Nat) (D:j<7): ∃g,([.func (.func 58) [] [],.func (.func 59) [] [],.func (.func 61) [] [],.func (.func 62) [] [],.func (.func 63) [] [],.func (.func 64) [] [],.func (.func 65) [] []]:List DVal)[j]? =some (.func (.func g) [] [])/\ ∀r H,H r=some (rdO l 0)->Ad Tryz.prog G g [.optr r 0] H (RdR r l H ((We l j).mp dE)):=by
 have ha:=λr=>Fl7 (r:=r) hG hl (Cj l);have y:=Bc4 (l:=l) j;have C:j=0\/j=1\/j=2\/j=3\/j=4\/j=5\/j=6:=by omega
 rcases C with rfl|rfl|rfl|rfl|rfl|rfl|rfl
 ·exact⟨_,rfl,λr H hr=>(ha r).expr H 0 hr (by omega) (Cb y)⟩
 ·exact⟨_,rfl,λr H hr=>Dd9 hG hl r H hr⟩
 ·exact⟨_,rfl,λr H hr=>(ha r).simple H 0 hr (by omega) (Cb y)⟩
 ·exact⟨_,rfl,λr H hr=>(ha r).term H 0 hr (by omega) (Cb y)⟩
 ·exact⟨_,rfl,λr H hr=>(ha r).factor H 0 hr (by omega) (Cb y)⟩
 ·exact⟨_,rfl,λr H hr=>(ha r).primary H 0 hr (by omega) (Cb y)⟩
 ·exact⟨_,rfl,λr H hr=>(ha r).name H 0 hr (by omega) (Cb y)⟩
def Bu4 (p:Ex×Int×Int):DVal:= .tuple [dE p.1,dI p.2.1,dI p.2.2]
theorem Ln.ex0 {H H':Ab} (hs:Sub H H'):Ln H' (.agg zY) H (dE ex0):=Ln.agg (Ln.ex (l:= []) (a:= []) hs (.exs0 hs) (.as0 hs))
theorem Dt5 (hG:GX G) (H:Ab) (level:Int) (hl:l.length<=12800000) (hT:Bv l):Ad Tryz.prog G 11 [Be l,dI level] H (Am (Bu4 (Gj l level)) H):=by
 refine dci Tryz.func11 Tryz.call11 ?_;simp only[go_sem];intro r4 C;have aa:=λz=>(Sub.refl H).new C z;simp only[go_sem];intro M E;have I:r4≠M:=Ac E (Aa _ _ _);have ag:H M=none:=(aa _).lo E;simp only[go_sem];have J:=λy=>((Sub.refl H).new C (some (.cells zY 27))).new E y;by_cases D:level<0
 ·simp only[go_sem,D,I];have hf:Gj l level=(ex0,0,2):=by rw[Gj,if_pos (.inl D)]
  rw[hf];have hs:=λy z=>((J y).up C z);exact Ln.fin (hs _ _) (Ln.tuple (.cons (Ln.ex0 (hs _ _)) (Km.keep (hs _ _) _))) ⟨rfl,rfl⟩
 ·by_cases c7:7<=level
  ·simp(disch:=omega)only[go_sem,D,I];(have hf:Gj l level=(ex0,0,2):=by rw[Gj,if_pos (.inr c7)]);rw[hf];have hs:=λy z=>((J y).up C z);exact Ln.fin (hs _ _) (Ln.tuple (.cons (Ln.ex0 (hs _ _)) (Km.keep (hs _ _) _))) ⟨rfl,rfl⟩
  ·obtain⟨j,hj⟩: ∃j:Nat,level=j:=⟨level.toNat,by omega⟩;subst hj;obtain⟨g,ab,ac⟩:=Es8 (l:=l) hG hl j (by omega);have hf:Gj l j=match We l j with
    | .ok x k=>if Bu x then(x,k,0) else(ex0,0,3)
    | .fail k=>(ex0,k,30)
    | .bot=>(ex0,0,0):=by rw[Gj,if_neg (by omega),jD]
   simp(disch:=omega)only[go_sem,D,ab,jD];refine(Ds8 hG _ hl g (We l j) (Bc4 j) ac).mono ?_;rintro _ H1 ⟨rfl,O⟩;have S:=Cp9 (l:=l) j;have U:=Dd8 hT j;have V:=O.symm▸J _;have W:=O.symm▸Aj (Aa _ _ _) I;cases hres:We l j with
   |bot=>exact absurd hres (Bc4 j)
   |fail k=>
    rw[hres] at hf;rw[hf,Fl8];have ad:=Af ex0;have ae:=Cd ex0;simp(disch:=omega)only[go_sem,dE,W,ad,ae];have hs:=λz=>V.up C z;exact Ln.fin (hs _) (Ln.tuple (.cons (Ln.ex0 (hs _)) (Km.keep (hs _) _))) ⟨rfl,rfl⟩
   |ok x k=>
    rw[hres] at hf U S;rw[hf,Fl8];obtain⟨hb,hok⟩:=U x k rfl;have hk:=S.2;have hF:Fit x:=⟨by omega,hok⟩;have L:=Af x;have X:=Cd x;simp only[go_sem,dE,W,L,X];refine(Ae3 hG _ x hF).mono ?_;rintro _ H2 ⟨rfl,Y⟩;have Z:=Y.symm▸Aa _ _ _;have af:=Y.symm▸V.up C _;have hs:=λz=>af.up C z;cases hm:Bu x with
    |true=>
     simp only[go_sem,Z,L,X];exact Dj.sub (hs _) (.refl ⟨rfl,rfl⟩)
    |false=>
     simp only[go_sem,Z,L];exact Ln.fin (hs _) (Ln.tuple (.cons (Ln.ex0 (hs _)) (Km.keep (hs _) _))) ⟨rfl,rfl⟩
def De0 (p:List Ch×Int×Int):DVal:= .tuple [dCl p.1,dI p.2.1,dI p.2.2]
theorem Cq0 (hG:GX G) (H:Ab) (hl:l.length<=12800000) (D:Bv l):Ad Tryz.prog G 304 [Be l] H (Am (De0 (Ji l)) H):=by
 have ha:=λr=>Fl7 (r:=r) hG hl;refine dci Tryz.func304 Tryz.call304 ?_;simp only[go_sem];refine(Dd3 hG H hl 319 ((Bc3 l).mp dCl) (Cb Au5) ?_ ?_).mono ?_
 ·intro v k e;cases hc:Bc3 l with
  |bot=>rw[hc] at e;cases e
  |fail k=>rw[hc] at e;cases e
  |ok x k=>rw[hc] at e;cases e;exact⟨rfl,rfl⟩
 ·intro r H hr;exact Cp2 hG hl (Cj l) (λm _=>(ha r m).choice) H 0 hr (by omega) (Cb Au5)
 ·rintro _ H1 ⟨rfl,rfl⟩;have y:=Fn4 (l:=l);have C:=Ch4 D;unfold Ji;cases hres:Bc3 l with
  |bot=>exact absurd hres Au5
  |fail k=>
   simp only[go_sem,Fl9,Res.mp];exact Ln.fin (Sub.refl _) (Ln.tuple (.cons (Ln.nil (Sub.refl _)) (Km.keep (Sub.refl _) _))) ⟨rfl,rfl⟩
  |ok x k=>
   rw[hres] at C y;obtain⟨hb,hok⟩:=C x k rfl;have hk:=y.2;simp only[go_sem,Fl9,Res.mp];refine(Nn hG _ x (by omega) hok).mono ?_;rintro _ H2 ⟨rfl,rfl⟩;cases hm:Ia x with
   |true=>
    simp only[go_sem];exact Dj.refl ⟨rfl,rfl⟩
   |false=>
    simp only[go_sem];exact Ln.fin (Sub.refl _) (Ln.tuple (.cons (Ln.nil (Sub.refl _)) (Km.keep (Sub.refl _) _))) ⟨rfl,rfl⟩
end
def WAt (B:Ab) (r:Nat) (ts:List Tok) (H:Ab):Prop:= ∃v,Ik (upd B r (some (.cells [v] 241))) 31 4 ts.length (ts.flatMap Cu) v H
def WrC (P:Program) (G:Nat->DVal) (f:FuncId) (args:List DVal) (t:List Tok):Prop:=
 ∀B r ts H,B r=none->ts.length+t.length<=1000000000->WAt B r ts H->Ad P G f (.optr r 0::args) H (λe H'=>e= .ret (.tuple [])/\WAt B r (ts++t) H')
section
variable {B B1 H H':Ab} {r x:Nat} {ts:List Tok}
theorem WAt.keep (h:WAt B r ts H) {o:DObj} (hx:B x=some o) (n:x≠r):H x=some o:=by
 obtain⟨v,h⟩:=h;exact h.keep (by rw[Ah _ _ _ _ n];exact hx)
theorem WAt.lo (h:WAt B r ts H) (hx:H x=none):B x=none/\x≠r:=by
 obtain⟨v,h⟩:=h;have:=h.sub.lo hx;simp only[upd] at this;split at this
 ·cases this
 ·exact⟨this,‹_›⟩
theorem WAt.frame (h:WAt B r ts H) (hx:H x=none) (o:DObj):WAt (upd B x (some o)) r ts (upd H x (some o)):=by
 have n:=(h.lo hx).2;obtain⟨v,h⟩:=h;refine⟨v, ?_⟩;rw[Ad3 n.symm];exact h.frame hx o
theorem WAt.less (h:WAt B r ts H) (s:Sub B1 B):WAt B1 r ts H:=by
 obtain⟨v,h⟩:=h;exact⟨v,h.less (s.both r _)⟩
theorem WAt.drop {o:DObj} (h:WAt (upd B x (some o)) r ts H) (hx:B x=none):WAt B r ts H:=h.less ((Sub.refl B).new hx _)
end
section
variable {G:Nat->DVal} {H:Ab}
theorem Hu (ts:List Tok) (t:Tok):(ts++ [t]).flatMap Cu=ts.flatMap Cu++Cu t:=by simp
theorem Lq (hG:GX G) (ws:List (List UInt8)):WrC Tryz.prog G 258 [dW ws] (ws.map Ag):=by
 intro B r ts H hB ag hw;rw[jK] at ag;refine dci Tryz.func258 Tryz.call258 ?_;simp only[go_sem,dW];obtain⟨I,S⟩: ∃I:Nat->(Nat->DVal)->Ab->Prop,∀j env heap,I j env heap↔(env 0= .optr r 0/\env 7=dW ws/\env 8=dI ws.length/\env 9=dI j/\j<=ws.length/\WAt B r (ts++(ws.take j).map Ag) heap):=⟨_,λ_ _ _=>Iff.rfl⟩;refine Ea9.run I (λj=>ws.length-j) 0 ((S _ _ _).2 ?_) ?_
 ·simp only[go_sem];(repeat' apply And.intro)<;>(try first|rfl|assumption|omega);simpa using hw
 ·intro j env heap hi;obtain⟨U,X,V,W,hj,Y⟩:=(S _ _ _).1 hi;by_cases ad:j<ws.length
  ·(have Z:(j:Int)<(ws.length:Int):=by omega);(have ae:IntKind.i64.wrap ((j:Int)+1)=((j+1:Nat):Int):=by rw[IntKind.wrap_i64];omega);(have af:(ws.map DVal.str)[j]? =some (.str ws[j]):=by rw[List.getElem?_map,List.getElem?_eq_getElem ad];rfl);have ah:(ws.map DVal.str).length=ws.length:=jK _;(have aa:(ws.take (j+1)).map Ag=(ws.take j).map Ag++ [Ag ws[j]]:=by rw[List.take_add_one,List.getElem?_eq_getElem ad,Option.toList_some,List.map_append,List.map_singleton]);obtain⟨s,ai⟩: ∃s,s=ws[j]:=⟨_,rfl⟩;rw[<-ai] at af aa;simp(disch:=omega)only[go_sem,X,V,W,Z,dW,af,ah,jD];intro r6 ab;simp only[go_sem];obtain⟨v,hv⟩:=Y;have y:=hv.keep (Aa _ _ _);have E:r≠r6:=Ac ab y;(have ak:(ts++(ws.take j).map Ag).length<=1000000000:=by rw[jC,jK,List.length_take];omega);refine(Wt hG _ s).mono ?_;rintro _ H2 ⟨rfl,rfl⟩;cases hkb:Uq s with
   |true=>
    (have hk:Ag s=⟨2,0,s,0⟩:=by rw[Ag,Im,hkb];rfl);simp only[go_sem];refine An pL2 ?_;simp only[go_sem,U,y,E];intro ac C;dsimp only at C;have J:r≠ac:=Ac C (Aj y E);have aj:=J.symm;have L:=(hv.new ab _).new C (some (.cells (Cu (Ag s)) 31));simp only[go_sem,y,E,J];rw[hk] at L;refine Ik.append (m:=1) L rfl (by omega) λM H6 D=> ?_;have g6:=D.keep (Aa _ _ _);obtain⟨j1,j2⟩:=D.cell1;simp only[go_sem,W,g6,j1,j2];refine⟨j+1,_,Rn.refl _,(S _ _ _).2 ?_,by omega⟩;simp only[go_sem,U,X,V,ae];(repeat' apply And.intro)<;>(try first|rfl|assumption|omega);refine⟨M, ?_⟩;have O:=D.at (Aa _ _ _) (some (.cells [M] 241));rw[Gt] at O;rw[aa,<-jO,Hu,hk,jC,jQ];exact O
   |false=>
    (have hk:Ag s=⟨4,0,s,0⟩:=by rw[Ag,Im,hkb];rfl);simp only[go_sem];refine An pL2 ?_;simp only[go_sem,U,y,E];intro ac C;dsimp only at C;have J:r≠ac:=Ac C (Aj y E);have aj:=J.symm;have L:=(hv.new ab _).new C (some (.cells (Cu (Ag s)) 31));simp only[go_sem,y,E,J];rw[hk] at L;refine Ik.append (m:=1) L rfl (by omega) λM H6 D=> ?_;have g6:=D.keep (Aa _ _ _);obtain⟨j1,j2⟩:=D.cell1;simp only[go_sem,W,g6,j1,j2];refine⟨j+1,_,Rn.refl _,(S _ _ _).2 ?_,by omega⟩;simp only[go_sem,U,X,V,ae];(repeat' apply And.intro)<;>(try first|rfl|assumption|omega);refine⟨M, ?_⟩;have O:=D.at (Aa _ _ _) (some (.cells [M] 241));rw[Gt] at O;rw[aa,<-jO,Hu,hk,jC,jQ];exact O
  ·(have:j=ws.length:=by omega);subst this;(have Z: ¬(ws.length:Int)<(ws.length:Int):=by omega);rw[List.take_length] at Y;simp only[go_sem,V,W,Z];exact Dj.refl ⟨rfl,Y⟩
end
section
variable {G:Nat->DVal} {H B:Ab} {r:Nat} {ts:List Tok}
theorem WAt.ne {x:Nat} (h:WAt B r ts H) (hx:H x=none):r≠x:=λe=>(h.lo hx).2 e.symm
def WQ (B:Ab) (r:Nat) (ts:List Tok) (e:DEnd) (H':Ab):Prop:=e= .ret (.tuple [])/\WAt B r ts H'
theorem Ut (hG:GX G) (s:List UInt8) {q:Nat} (y:H q=none) (C:B r=none) (D:ts.length+1<=1000000000) (hw:WAt B r ts H):Ad Tryz.prog G 258 [.optr r 0,.oslice 1 q 0 1 1] (upd H q (some (.cells [.str s] 9))) (WQ B r (ts++ [Ag s])):=by
 refine Ad.fzA q y ?_;have n:r≠q:=hw.ne y;simp only[fzs,fz,if_neg n,if_pos];exact Lq hG [s] B r ts H C D hw
theorem Hi3 (hG:GX G) (s t:List UInt8) {q:Nat} (y:H q=none) (C:B r=none) (D:ts.length+2<=1000000000) (hw:WAt B r ts H):Ad Tryz.prog G 258 [.optr r 0,.oslice 1 q 0 2 2] (upd H q (some (.cells [.str s,.str t] 9))) (WQ B r (ts++ [Ag s,Ag t])):=by
 refine Ad.fzA q y ?_;have n:r≠q:=hw.ne y;simp only[fzs,fz,if_neg n,if_pos];exact Lq hG [s,t] B r ts H C D hw
theorem Ap0 (G:Nat->DVal) (s:List UInt8):WrC Tryz.prog G 259 [.str s] [Eg s]:=by
 intro B r ts H V J hw;rw[jQ] at J;refine dci Tryz.func259 Tryz.call259 ?_;simp only[go_sem];obtain⟨v,hv⟩:=hw;have C:=hv.keep (Aa _ _ _);simp only[go_sem,C];intro L D;have W:r≠L:=Ac D C;have M:=hv.new D (some (.cells (Cu (Eg s)) 31));simp only[go_sem];refine Ik.append (m:=1) M rfl (by omega) λE X y=> ?_;have O:=y.keep (Aa _ _ _);obtain⟨S,U⟩:=y.cell1;simp only[go_sem,O,S,U];refine Dj.refl ⟨rfl,E, ?_⟩;have I:=y.at (Aa _ _ _) (some (.cells [E] 241));rw[Gt] at I;rw[Hu,jC,jQ];exact I
end
section
variable {G:Nat->DVal}
theorem Dr (hG:GX G) (e:Ex) (y:Int) (he:WrC Tryz.prog G 187 [.agg (dEx e)] (Ai e)):WrC Tryz.prog G 260 [.agg (dEx e),dI y] (Ap e y):=by
 intro B r ts H U C hw;refine dci Tryz.func260 Tryz.call260 ?_;simp only[go_sem,DVal.cells];intro D I;obtain⟨K,J⟩: ∃K',K'=upd H D (some (.cells (dEx e) 27)):=⟨_,rfl⟩;rw[<-J];have L:=J.symm▸Aa _ _ _;have M:=J.symm▸hw.frame I _;have O:r≠D:=hw.ne I;have S:B D=none:=(hw.lo I).1;have E:upd B D (some (.cells (dEx e) 27)) r=none:=by rw[Ah _ _ _ _ O];exact U
 simp only[go_sem,L];refine(Yw G K e).mono ?_;rintro _ Y ⟨rfl,rfl⟩;by_cases c:Aw e<y
 ·have c': ¬y<=Aw e:=by omega
  have hp:Ap e y=Ag Bc::(Ai e++ [Ag Bs]):=by rw[Ap,decide_eq_true c];rfl
  rw[hp] at C⊢
  simp only[jA,jC,jB] at C;simp only[go_sem,c'];intro Z V;simp only[go_sem];refine(Ut hG Bc V E (by omega) M).mono ?_;rintro _ H1 ⟨rfl,h1⟩;have W:=h1.keep (Aa _ _ _) O.symm;simp only[go_sem,W];refine(he _ r _ _ E (by simp;omega) h1).mono ?_;rintro _ H2 ⟨rfl,h2⟩;simp only[go_sem];intro q2 X;simp only[go_sem];refine(Ut hG Bs X E (by simp;omega) h2).mono ?_;rintro _ H3 ⟨rfl,h3⟩;simp only[go_sem];refine Dj.refl ⟨rfl, ?_⟩;have:=h3.drop S;simpa using this
 ·have c':y<=Aw e:=by omega
  have hp:Ap e y=Ai e:=by rw[Ap,decide_eq_false c];rfl
  rw[hp] at C⊢
  simp only[go_sem,c',L];refine(he _ r _ _ E C M).mono ?_;rintro _ H1 ⟨rfl,h1⟩;simp only[go_sem];exact Dj.refl ⟨rfl,h1.drop S⟩
end
end Go.Dl
-- S9
namespace Go.Dl
open Go
set_option maxRecDepth 10000
mutual
/-- Without lines, entities, types. -/
def stE:Ex->Ex
 | .mk k o n s l a _ _ _=> .mk k o n s (stL l) (Bu5 a) 0 0 0
def stL:List Ex->List Ex
 | []=> []
 |x::l=>stE x::stL l
def stA:As->As
 | .mk c e=> .mk (Bu6 c) (stE e)
def Bu5:List As->List As
 | []=> []
 |x::l=>stA x::Bu5 l
def stC:Ch->Ch
 | .mk k l=> .mk k (stL l)
def Bu6:List Ch->List Ch
 | []=> []
 |x::l=>stC x::Bu6 l
end
theorem Au6: ∀l:List Ex,stL l=l.map stE
 | []=>rfl
 |x::l=>by rw[stL,Au6 l,jN]
theorem Bu7: ∀l:List As,Bu5 l=l.map stA
 | []=>rfl
 |x::l=>by rw[Bu5,Bu7 l,jN]
theorem Ae7: ∀l:List Ch,Bu6 l=l.map stC
 | []=>rfl
 |x::l=>by rw[Bu6,Ae7 l,jN]
theorem Jo (e:Ex):(stE e).kind=e.kind:=by cases e;rfl
theorem Fn5 (e:Ex):(stE e).oper=e.oper:=by cases e;rfl
theorem He8 (e:Ex):(stE e).n=e.n:=by cases e;rfl
theorem He9 (e:Ex):(stE e).s=e.s:=by cases e;rfl
theorem De1 (e:Ex):(stE e).l=e.l.map stE:=by cases e;exact Au6 _
theorem Gm9 (e:Ex):(stE e).a=e.a.map stA:=by cases e;exact Bu7 _
theorem Xb (e:Ex):(stE e).line=0:=by cases e;rfl
theorem Bu8 (x:As):(stA x).c=x.c.map stC:=by cases x;exact Ae7 _
theorem Gn0 (x:As):(stA x).e=stE x.e:=by cases x;rfl
theorem Au7 (c:Ch):(stC c).kind=c.kind:=by cases c;rfl
theorem Ee6 (c:Ch):(stC c).l=c.l.map stE:=by cases c;exact Au6 _
theorem Fv (e:Ex):stE e= .mk e.kind e.oper e.n e.s (e.l.map stE) (e.a.map stA) 0 0 0:=by cases e;rw[stE,Au6,Bu7];rfl
theorem Ap1 (x:As):stA x= .mk (x.c.map stC) (stE x.e):=by cases x;rw[stA,Ae7];rfl
theorem Bu9 (c:Ch):stC c= .mk c.kind (c.l.map stE):=by cases c;rw[stC,Au6];rfl
mutual
theorem Tv: ∀e f:Ex,Ee e f=true↔stE e=stE f
 | .mk k o n s l a li en t,.mk k' o' n' s' l' a' li' en' t'=>by
  rw[Ee,stE,stE]
  show(decide (k=k')&&decide (o=o')&&decide (n=n')&&decide (s=s')&&Ll l l'&&Nv a a')=true↔_
  simp only[jF,decide_eq_true_eq,Bv0 l l',Ch5 a a',Ex.mk.injEq,and_true,and_assoc]
theorem Bv0: ∀l m:List Ex,Ll l m=true↔stL l=stL m
 | [],[]=>by simp [Ll,stL]
 | [],y::m=>by simp [Ll,stL]
 |x::l,[]=>by simp [Ll,stL]
 |x::l,y::m=>by rw[Ll,stL,stL,jF,Tv x y,Bv0 l m,List.cons.injEq]
theorem Fn6: ∀x y:As,Wv x y=true↔stA x=stA y
 | .mk c e,.mk c' e'=>by
  rw[Wv,stA,stA]
  show(Kf c c'&&Ee e e')=true↔_
  simp only[jF,Bc5 c c',Tv e e',As.mk.injEq]
theorem Ch5: ∀l m:List As,Nv l m=true↔Bu5 l=Bu5 m
 | [],[]=>by simp [Nv,Bu5]
 | [],y::m=>by simp [Nv,Bu5]
 |x::l,[]=>by simp [Nv,Bu5]
 |x::l,y::m=>by rw[Nv,Bu5,Bu5,jF,Fn6 x y,Ch5 l m,List.cons.injEq]
theorem Fn7: ∀x y:Ch,Vj x y=true↔stC x=stC y
 | .mk k l,.mk k' l'=>by
  rw[Vj,stC,stC]
  show(decide (k=k')&&Ll l l')=true↔_
  simp only[jF,decide_eq_true_eq,Bv0 l l',Ch.mk.injEq]
theorem Bc5: ∀l m:List Ch,Kf l m=true↔Bu6 l=Bu6 m
 | [],[]=>by simp [Kf,Bu6]
 | [],y::m=>by simp [Kf,Bu6]
 |x::l,[]=>by simp [Kf,Bu6]
 |x::l,y::m=>by rw[Kf,Bu6,Bu6,jF,Fn7 x y,Bc5 l m,List.cons.injEq]
end
theorem Au8 (e:Ex):Bn (stE e)=Bn e:=by rw[Bn,Bn,Jo]
theorem Bc6 (l:List Ex) (i:Nat):(l.map stE).getD i ex0=stE (l.getD i ex0):=by
 rw[List.getD,List.getD,List.getElem?_map];cases l[i]? <;>rfl
theorem Oo {α β:Type} (f:α->β) (l:List α):(l.map f).isEmpty=l.isEmpty:=by cases l<;>rfl
theorem Es9 (e:Ex) (k:Nat):Je (stE e) k=Je e k:=by
 rw[Je,Je,De1,jK,Bc6,Au8]
theorem Bv1: ∀l:List As,Nd (l.map stA)=Nd l
 | []=>rfl
 | [_]=>rfl
 |a::b::r=>by
  have:=Bv1 (b::r);rw[jN] at this;rw[jN,jN,Nd,Nd,this,Bu8,Bu8,Oo,Oo]
theorem De2 (l:List Ch):Ce (l.map stC)=Ce l:=by
 match l with
 | []=>rfl
 | [.mk k []]=>rfl
 | [.mk k [x]]=>show(decide _&&decide ((stE x).kind=3))=_;rw[Jo];rfl
 | [.mk k (x::y::r)]=>rfl
 |c::d::r=>rfl
theorem Et0 (n:Nat) (c:Ch):Cv n (stC c)=Cv n c:=by simp only[Cv,Au7,Ee6,jK]
theorem all_map {α β:Type} (f:α->β) (p:β->Bool) (l:List α):(l.map f).all p=l.all λx=>p (f x):=by rw[List.all_map];rfl
theorem Bv2 (l:List Ch):Cl (l.map stC)=Cl l:=by
 simp only[Cl,jK,all_map,Et0]
theorem Et1 (l:List As):Jn (l.map stA)=Jn l:=by
 simp only[Jn,jK,Bv1,all_map,Bu8,Oo,De2]
theorem Bv3 (l:List Ch):Oi (l.map stC)=Oi l:=by
 cases l with
 |nil=>rfl
 |cons c r=>simp only[jN,Oi,Au7]
theorem Bi1: ∀l:List As,Fo (l.map stA)=Fo l
 | []=>rfl
 |a::r=>by simp only[jN,Fo,Bi1 r,Bu8,Oo,Bv2,Bv3]
theorem Bv4 (l:List As):Vi (l.map stA)=Vi l:=by
 match l with
 | []=>rfl
 | [a]=>show(stA a).c.isEmpty=_;rw[Bu8,Oo];rfl
 |_::_::_=>rfl
theorem De3 (l:List As):Fx (l.map stA)=Fx l:=by
 simp only[Fx,jK,Bv1,Bv4,Bi1]
theorem Et2 (e:Ex):Ax (stE e)=Ax e:=by
 simp only[Ax,zO,zN,zS,zA,Es9,Jo,Fn5,He8,He9,De1,Gm9,Oo,jK,Et1,De3,Bc6,Au8]
theorem Za {α β γ:Type} (f:α->β) (g:β->List γ) (l:List α):(l.map f).flatMap g=l.flatMap λx=>g (f x):=by
 induction l with
 |nil=>rfl
 |cons x l ih=>rw[jN,List.flatMap_cons,List.flatMap_cons,ih]
theorem Et3 (x:As):Ct (stA x)=(Ct x).map stE:=by
 rw[Ct,Ct,Bu8,Gn0,Za,List.map_append,List.map_flatMap,List.map_singleton];congr 1;simp only[Ee6]
theorem De4 (e:Ex):parts (stE e)=(parts e).map stE:=by
 rw[parts,parts,De1,Gm9,Za,List.map_append,List.map_flatMap];simp only[Et3]
theorem Cq1 (e:Ex):Ff (stE e)=Ff e:=by
 refine Ex.ind (p:=λe=>Ff (stE e)=Ff e) (λe ih=> ?_) e;rw[Oh,Oh e,De4,Lf,Lf,List.map_map];congr 2;exact List.map_congr_left ih
theorem Fn8 (e:Ex): ∀d,Dk d (stE e)=Dk d e:=by
 refine Ex.ind (p:=λe=> ∀d,Dk d (stE e)=Dk d e) (λe ih d=> ?_) e;rw[Oj,Oj d e,Et2,De4,all_map];congr 1;rw[Bool.eq_iff_iff,List.all_eq_true,List.all_eq_true];exact⟨λh x hx=>by rw[<-ih x hx];exact h x hx,λh x hx=>by rw[ih x hx];exact h x hx⟩
theorem Cq2 (e:Ex):Bu (stE e)=Bu e:=by rw[Bu,Bu,Fn8,Cq1]
theorem Jp {e f:Ex} (h:stE e=stE f):Bu e=Bu f:=by rw[<-Cq2 e,h,Cq2]
def stT (t:Tok):Tok:=⟨t.kind,0,t.text,t.n⟩
section
variable {l:List Tok}
theorem Bi2 (k:Nat):tk (l.map stT) k=stT (tk l k):=by
 rw[tk,tk,List.getD,List.getD,List.getElem?_map];cases l[k]? <;>rfl
theorem Tw (k:Nat):(tk (l.map stT) k).kind=(tk l k).kind:=by rw[Bi2];rfl
theorem Zb (k:Nat):(tk (l.map stT) k).text=(tk l k).text:=by rw[Bi2];rfl
theorem Gg7 (k:Nat):(tk (l.map stT) k).n=(tk l k).n:=by rw[Bi2];rfl
theorem Kg (k:Nat):(tk (l.map stT) k).line=0:=by rw[Bi2];rfl
theorem Mv: ∀(ws:List (List UInt8)) (k:Nat),isW (l.map stT) k ws=isW l k ws
 | [],_=>rfl
 |s::r,k=>by rw[isW,isW,Tw,Zb,Mv r]
theorem Ae8 (want k:Nat): ∀os:List Nat,opF (l.map stT) want k os=opF l want k os
 | []=>rfl
 |o::r=>by rw[opF,opF,Mv,Ae8 want k r]
def Nt {α β:Type} (f:α->β):Res α->Res β->Prop
 | .bot,r=>r= .bot
 | .fail k,r=>r= .fail k
 | .ok x k,r=>r= .ok (f x) k
theorem Cz {α α' β β':Type} {f:α->α'} {g:β->β'} {r:Res α} {y:Res α'} {F:α->Nat->Res β} {C:α'->Nat->Res β'} (h:Nt f r y) (k: ∀x j,Nt g (F x j) (C (f x) j)):Nt g (r.then F) (y.then C):=by
 cases r with
 |bot=>cases h;exact rfl
 |fail j=>cases h;exact rfl
 |ok x j=>cases h;exact k x j
theorem Ed {α β:Type} {f:α->β} {c:Prop} [Decidable c] {a b:Res α} {y C:Res β} (h:Nt f a y) (k:Nt f b C):Nt f (if c then a else b) (if c then y else C):=by
 split
 ·exact h
 ·exact k
theorem Ko {α β:Type} {f:α->β} {x:α} {y:β} {k:Nat} (h:y=f x):Nt f (.ok x k) (.ok y k):=by rw[h];exact rfl
theorem Np {α β:Type} {f:α->β} {k:Nat}:Nt f (.fail k) (.fail k):=rfl
theorem Bm3 (o:Nat) (x y:Ex):stE (both o x y)=both o (stE x) (stE y):=by
 simp only[both,Xb];rfl
theorem Ee7 (o:Nat) (li:Int) (x:Ex):stE (Qw o li x)=Qw o 0 (stE x):=by
 unfold Qw;split
 ·rfl
 ·rw[Fv];rfl
theorem Gg8 (li:Int) (az:List As):stE (Bs0 li az)=Bs0 0 (az.map stA):=by
 match az with
 | []=>rfl
 | [x]=>
  show stE (if x.c= [] then x.e else _)=if(stA x).c= [] then(stA x).e else _
  rw[Bu8,Gn0];by_cases c:x.c= []
  ·rw[if_pos c,if_pos (by rw[c];rfl)]
  ·rw[if_neg c,if_neg (by simpa using c),Fv];rfl
 |x::y::r=>show stE (.mk 9 0 0 [] [] _ li 0 0)=_;rw[Fv];rfl
structure PS.Nat (p q:PS):Prop where
 expr: ∀k,Nt stE (p.expr k) (q.expr k)
 rest: ∀x k,Nt stE (p.rest x k) (q.rest (stE x) k)
 restL: ∀o x k,Nt stE (p.restL o x k) (q.restL o (stE x) k)
 relation: ∀x k,Nt stE (p.relation x k) (q.relation (stE x) k)
 simple: ∀k,Nt stE (p.simple k) (q.simple k)
 addL: ∀x k,Nt stE (p.addL x k) (q.addL (stE x) k)
 term: ∀k,Nt stE (p.term k) (q.term k)
 mulL: ∀x k,Nt stE (p.mulL x k) (q.mulL (stE x) k)
 factor: ∀k,Nt stE (p.factor k) (q.factor k)
 primary: ∀k,Nt stE (p.primary k) (q.primary k)
 paren: ∀k,Nt stE (p.paren k) (q.paren k)
 assoc: ∀k,Nt stA (p.assoc k) (q.assoc k)
 assocsL: ∀a k,Nt (List.map stA) (p.assocsL a k) (q.assocsL (a.map stA) k)
 choice: ∀k,Nt stC (p.choice k) (q.choice k)
 choicesL: ∀a k,Nt (List.map stC) (p.choicesL a k) (q.choicesL (a.map stC) k)
 arg: ∀k,Nt stA (p.arg k) (q.arg k)
 argsL: ∀a k,Nt (List.map stA) (p.argsL a k) (q.argsL (a.map stA) k)
 name: ∀k,Nt stE (p.name k) (q.name k)
 nameL: ∀i x k,Nt stE (p.nameL i x k) (q.nameL 0 (stE x) k)
theorem Ee8 {p q:PS} (h:p.Nat q) (x:Ex) (kind:Int) (k:Nat):Nt stE (inK l x kind k p) (inK (l.map stT) (stE x) kind k q):=by
 unfold inK;simp only[Mv];refine Cz (h.simple _) λy j=> ?_;simp only[Au8];exact Ed (Cz (h.simple _) λz i=>Ko (by rw[Xb,Fv (.mk _ _ _ _ _ _ _ _ _)];rfl)) (Ed (Ko (by rw[Xb,Fv (.mk _ _ _ _ _ _ _ _ _)];rfl)) Np)
theorem Et4 {p q:PS} (h:p.Nat q):(Bi l p).Nat (Bi (l.map stT) q) where
 expr k:=Cz (h.simple k) λx k=>h.rest x k
 rest x k:=Cz (h.relation x k) λx k=>by simp only[Ae8];exact h.restL _ x k
 restL o x k:=by
  dsimp only[Bi];simp only[Ae8]
  exact Ed (Ko rfl) (Ed (Ko rfl) (Cz (h.simple _) λy k=>Cz (h.relation y k) λy k=>by rw[<-Bm3];exact h.restL _ _ k))
 relation x k:=by
  dsimp only[Bi];simp only[Ae8,Mv]
  exact Ed (Cz (h.simple _) λy k=>Ko (Bm3 _ _ _).symm) (Ed (Ee8 h _ _ _) (Ed (Ee8 h _ _ _) (Ko rfl)))
 simple k:=by
  dsimp only[Bi];simp only[Ae8,Kg]
  exact Cz (h.term _) λx k'=>by rw[<-Ee7 _ (tk l k).line];exact h.addL _ _
 addL x k:=by
  dsimp only[Bi];simp only[Ae8]
  exact Ed (Ko rfl) (Cz (h.term _) λy k=>by rw[<-Bm3];exact h.addL _ _)
 term k:=Cz (h.factor k) λx k=>h.mulL x k
 mulL x k:=by
  dsimp only[Bi];simp only[Ae8]
  exact Ed (Ko rfl) (Cz (h.factor _) λy k=>by rw[<-Bm3];exact h.mulL _ _)
 factor k:=by
  dsimp only[Bi];simp only[Ae8,Kg]
  exact Cz (h.primary _) λx k'=>Ko (Ee7 _ _ _).symm
 primary k:=by
  dsimp only[Bi];simp only[Mv,Tw,Gg7,Kg]
  exact Ed (Ko (by rw[Fv (.mk _ _ _ _ _ _ _ _ _)];rfl)) (Ed (Ko (by rw[Fv (.mk _ _ _ _ _ _ _ _ _)];rfl)) (Ed (h.paren k) (h.name k)))
 paren k:=by
  dsimp only[Bi,must];simp only[Mv,Kg]
  refine Ed (Ed (Cz (h.expr _) λa k=>Ed (Cz (h.expr _) λb k=>Ed (Cz (h.expr _) λc k=>Ed (Ko (by rw[Fv (.mk _ _ _ _ _ _ _ _ _)];rfl)) Np) Np) Np) ?_) Np
  exact Cz (h.assoc _) λa k=>Cz (h.assocsL [a] k) λaz k=>Ed (Ko (Gg8 _ _).symm) Np
 assoc k:=by
  dsimp only[Bi,must];simp only[Mv]
  refine Cz (h.choice k) λc k=> ?_
  rw[Au7,Ee6,Bc6]
  exact Ed (Ko (by rw[Ap1 (.mk _ _)];rfl)) (Ed (Ed (Cz (h.expr _) λe k=>Ko (by rw[Ap1 (.mk _ _)];rfl)) Np) (Cz (h.choicesL [c] k) λcs k=>Ed (Cz (h.expr _) λe k=>Ko (by rw[Ap1 (.mk _ _)];rfl)) Np))
 assocsL az k:=by
  dsimp only[Bi];simp only[Mv]
  exact Ed (Cz (h.assoc _) λa k=>by
   have:=h.assocsL (az++ [a]) k
   rw[List.map_append] at this;exact this) (Ko rfl)
 choice k:=by
  dsimp only[Bi];simp only[Mv]
  exact Ed (Ko (by rw[Bu9 (.mk _ _)];rfl)) (Cz (h.simple k) λx k=>Ed (Cz (h.simple _) λy k=>Ko (by rw[Bu9 (.mk _ _)];rfl)) (Cz (h.rest x k) λy k=>Ko (by rw[Bu9 (.mk _ _)];rfl)))
 choicesL az k:=by
  dsimp only[Bi];simp only[Mv]
  exact Ed (Cz (h.choice _) λa k=>by
   have:=h.choicesL (az++ [a]) k
   rw[List.map_append] at this;exact this) (Ko rfl)
 arg k:=by
  dsimp only[Bi];simp only[Mv,Tw,Zb,Kg]
  exact Ed (Cz (h.expr _) λe k=>Ko (by rw[Ap1 (.mk _ _)];rfl)) (Cz (h.expr _) λe k=>Ko (by rw[Ap1 (.mk _ _)];rfl))
 argsL az k:=by
  dsimp only[Bi];simp only[Mv]
  exact Ed (Cz (h.arg _) λa k=>by
   have:=h.argsL (az++ [a]) k
   rw[List.map_append] at this;exact this) (Ko rfl)
 name k:=by
  dsimp only[Bi,Jg];simp only[Tw,Zb,Kg]
  refine Ed ?_ Np
  have:=h.nameL (tk l k).line (.mk 3 0 0 (tk l k).text [] [] (tk l k).line 0 0) (k+1)
  rw[Fv (.mk _ _ _ _ _ _ _ _ _)] at this
  exact this
 nameL i x k:=by
  have hn: ∀y z j,stE y=z->Nt stE (p.nameL i y j) (q.nameL 0 z j):=λy z j e=>by rw[<-e];exact h.nameL i y j
  dsimp only[Bi,Jg,must];simp only[Mv,Tw,Zb]
  refine Ed (hn _ _ _ (by rw[Fv (.mk _ _ _ _ _ _ _ _ _)];rfl)) (Ed (Ed (hn _ _ _ (by rw[Fv (.mk _ _ _ _ _ _ _ _ _)];rfl)) Np) (Ed ?_ (Ed ?_ (Ed (Ed (hn _ _ _ (by rw[Fv (.mk _ _ _ _ _ _ _ _ _)];rfl)) Np) (Ko rfl)))))
  ·exact Cz (h.arg _) λa k=>Cz (h.argsL [a] k) λaz k=>Ed (hn _ _ _ (by rw[Fv (.mk _ _ _ _ _ _ _ _ _)];rfl)) Np
  ·exact Cz (h.paren _) λy k=>hn _ _ _ (by rw[Fv (.mk _ _ _ _ _ _ _ _ _)];rfl)
theorem Gn1: ∀m,(P l m).Nat (P (l.map stT) m)
 | 0=>by constructor<;>intros<;>exact rfl
 |m+1=>Et4 (Gn1 m)
theorem Gn2:(Q l).Nat (Q (l.map stT)):=by
 have:=Gn1 (l:=l) (Cj l);rw[Q,Q,Cj,Cj,jK];exact this
end
theorem Bv5 {α β γ:Type} (r:Res α) (f:α->Nat->Res β) (g:β->Nat->Res γ):(r.then f).then g=r.then λx k=>(f x k).then g:=by cases r<;>rfl
def w5:List (List UInt8):= [Ju,Bc,Iy]
def w3:List (List UInt8):=w5++ [[42],[47],Hc8,Hc9]
def w2:List (List UInt8):=w3++ [[43],[45]]
def w2d:List (List UInt8):=w2++ [Et]
def w1:List (List UInt8):=w2d++ [[61],[47,61],[60],[60,61],[62],[62,61],wIn,Wa]
def w0:List (List UInt8):=w1++ [Db0,wOr,Gf4]
def nof (ws:List (List UInt8)) (t:Tok):Prop:= ∀s∈ws,¬(t.kind=Im s/\t.text=s)
instance (ws:List (List UInt8)) (t:Tok):Decidable (nof ws t):=inferInstanceAs (Decidable (∀s∈ws,¬(t.kind=Im s/\t.text=s)))
theorem Ft {ws y:List (List UInt8)} {t:Tok} (h:nof ws t) (hs: ∀s∈y,s∈ws):nof y t:=λs m=>h s (hs s m)
theorem Hf0 (ws:List (List UInt8)):nof ws At5:=λs _ h=>Bs1 s h.1.symm
class Rdr (l:outParam (List Tok)) (p:PS):Prop where
 fix:p.Fix l
 adv:p.Adv l
instance (l:List Tok):Rdr l (Q l):=⟨He6,Fm1⟩
theorem Xc {ws:List (List UInt8)} {t:Tok} (h:t.kind=1\/t.kind=3):nof ws t:=λs _ e=>by
 have:=Es7 (s:=s);rcases h with h|h
 ·rw[h] at e;exact this.1 e.1.symm
 ·rw[h] at e;exact this.2.1 e.1.symm
section
variable {l:List Tok} {k k':Nat} {s:List UInt8}
theorem Gz {t:List UInt8} (h:isW l k [t]=false) (r:List (List UInt8)):isW l k (t::r)=false:=by
 rw[Bu0] at h;rw[isW,h];rfl
theorem Ho {ws:List (List UInt8)} (h:nof ws (tk l k)) (hs:s∈ws) (r:List (List UInt8)):isW l k (s::r)=false:=by
 refine Gz ?_ r;have:=h s hs;rw[Bu0];by_cases y:(tk l k).kind=Im s
 ·by_cases C:(tk l k).text=s
  ·exact absurd ⟨y,C⟩ this
  ·rw[decide_eq_false C,Bool.and_false]
 ·rw[decide_eq_false y,jT]
theorem Bm4 {ws:List (List UInt8)} {os:List Nat} {want:Nat} (h:nof ws (tk l k)) (y:(os.all λo=>(Ay o).head?.any λs=>decide (s∈ws))=true):opF l want k os=(0,k):=by
 refine Bu1 λo hm=> ?_;have:=List.all_eq_true.1 y o hm;cases hw:Ay o with
 |nil=>rw[hw] at this;simp at this
 |cons s r=>
  rw[hw] at this;exact Ho h (by simpa using this) r
theorem Jq (h:isW l k [s]=true):(tk l k).kind≠1/\(tk l k).kind≠3/\k<l.length:=by
 rw[Bu0,jF,decide_eq_true_eq,decide_eq_true_eq] at h;rw[h.1];exact⟨Es7.1,Es7.2.1,Ry (by rw[h.1];exact Bs1 s)⟩
theorem Ai7 {os:List Nat} {want:Nat} (h:isW l k [s]=true) (y:(os.all λo=>(Ay o).head?.any λt=>decide (s≠t))=true):opF l want k os=(0,k):=by
 refine Bu1 λo hm=> ?_;have:=List.all_eq_true.1 y o hm;cases hw:Ay o with
 |nil=>rw[hw] at this;simp at this
 |cons t r=>
  rw[hw] at this;exact Gz (Gm h (by simpa using this)) r
variable {p:PS} [hr:Rdr l p]
theorem Dt6 (hk:k<=l.length):p.expr k=(p.simple k).then λx k=>p.rest x k:=hr.fix.expr k hk
theorem Fn9 (x:Ex) (hk:k<=l.length):p.rest x k=(p.relation x k).then λx k=>p.restL (opF l 0 k Fy).1 x k:=hr.fix.rest x k hk
theorem Cq3 (o:Nat) (x:Ex) (hk:k<=l.length):p.restL o x k=if o=0 then .ok x k else if(opF l o k Fy).1=0 then .ok x k else(p.simple (opF l o k Fy).2).then λy k=>(p.relation y k).then λy k=>p.restL o (both o x y) k:=hr.fix.restL o x k hk
theorem Tx (x:Ex) (hk:k<=l.length):p.relation x k=if(opF l 0 k Nw).1≠0 then(p.simple (opF l 0 k Nw).2).then λy j=> .ok (both (opF l 0 k Nw).1 x y) j else if isW l k [wIn] then inK l x 13 (k+1) p else if isW l k [Wa,wIn] then inK l x 14 (k+2) p else .ok x k:=hr.fix.relation x k hk
theorem Bv6 (hk:k<=l.length):p.simple k=(p.term (opF l 0 k Hh).2).then λx k'=>p.addL (Qw (opF l 0 k Hh).1 (tk l k).line x) k':=hr.fix.simple k hk
theorem Fo0 (x:Ex) (hk:k<=l.length):p.addL x k=if(opF l 0 k Yq).1=0 then .ok x k else(p.term (opF l 0 k Yq).2).then λy j=>p.addL (both (opF l 0 k Yq).1 x y) j:=hr.fix.addL x k hk
theorem Fo1 (hk:k<=l.length):p.term k=(p.factor k).then λx k=>p.mulL x k:=hr.fix.term k hk
theorem Fo2 (x:Ex) (hk:k<=l.length):p.mulL x k=if(opF l 0 k Yr).1=0 then .ok x k else(p.factor (opF l 0 k Yr).2).then λy j=>p.mulL (both (opF l 0 k Yr).1 x y) j:=hr.fix.mulL x k hk
theorem Bv7 (hk:k<=l.length):p.factor k=(p.primary (opF l 0 k Ky).2).then λx k'=> .ok (Qw (opF l 0 k Ky).1 (tk l k).line x) k':=hr.fix.factor k hk
theorem Xd (hk:k<=l.length):p.primary k=if(tk l k).kind=3 then .ok (.mk 1 0 (tk l k).n [] [] [] (tk l k).line 0 0) (k+1) else if isW l k [Gg] then .ok (.mk 2 0 0 [] [] [] (tk l k).line 0 0) (k+1) else if isW l k [Bc] then p.paren k else p.name k:=hr.fix.primary k hk
theorem Ee9 (hk:k<=l.length):p.paren k=must l Bc k λk1=>
  if isW l k1 [wIf] then(p.expr (k1+1)).then λa k=>must l Pp k λk=>(p.expr k).then λb k=>must l Qv k λk=>(p.expr k).then λc k'=>must l Bs k' λk'=> .ok (.mk 10 0 0 [] [a,b,c] [] (tk l (k1-1)).line 0 0) k'
  else(p.assoc k1).then λa k=>(p.assocsL [a] k).then λaz k=>must l Bs k λk=> .ok (Bs0 (tk l (k1-1)).line az) k:=hr.fix.paren k hk
theorem Cq4 (hk:k<=l.length):p.assoc k=(p.choice k).then λc k=>
  if c.kind=1/\isW l k [Gp]=false/\isW l k [Bp]=false then .ok (.mk [] (c.l.getD 0 ex0)) k
  else if c.kind=3 then must l Bp k λk=>(p.expr k).then λe k=> .ok (.mk [c] e) k
  else(p.choicesL [c] k).then λcs k=>must l Bp k λk=>(p.expr k).then λe k=> .ok (.mk cs e) k:=hr.fix.assoc k hk
theorem Ch6 (az:List As) (hk:k<=l.length):p.assocsL az k=if isW l k [Dm] then(p.assoc (k+1)).then λa k=>p.assocsL (az++ [a]) k else .ok az k:=hr.fix.assocsL az k hk
theorem Au9 (hk:k<=l.length):p.choice k=if isW l k [La] then .ok (.mk 3 []) (k+1) else
  (p.simple k).then λx k=>if isW l k [Et] then(p.simple (k+1)).then λy k=> .ok (.mk 2 [x,y]) k
   else(p.rest x k).then λx k=> .ok (.mk 1 [x]) k:=hr.fix.choice k hk
theorem Bv8 (cs:List Ch) (hk:k<=l.length):p.choicesL cs k=if isW l k [Gp] then(p.choice (k+1)).then λc k=>p.choicesL (cs++ [c]) k else .ok cs k:=hr.fix.choicesL cs k hk
theorem Gn3 (hk:k<=l.length):p.arg k=if(tk l k).kind=1/\isW l (k+1) [Bp]=true then(p.expr (k+2)).then λe k'=> .ok (.mk [.mk 1 [.mk 3 0 0 (tk l k).text [] [] (tk l k).line 0 0]] e) k'
  else(p.expr k).then λe k=> .ok (.mk [] e) k:=hr.fix.arg k hk
theorem Gg9 (az:List As) (hk:k<=l.length):p.argsL az k=if isW l k [Dm] then(p.arg (k+1)).then λa k=>p.argsL (az++ [a]) k else .ok az k:=hr.fix.argsL az k hk
theorem Cq5 (hk:k<=l.length):p.name k=Jg l k λs k1=>p.nameL (tk l k).line (.mk 3 0 0 s [] [] (tk l k).line 0 0) k1:=hr.fix.name k hk
theorem Ai8 (line:Int) (x:Ex) (hk:k<=l.length):p.nameL line x k=if isW l k [Ju,Ae1] then p.nameL line (.mk 5 0 0 [] [x] [] line 0 0) (k+2)
  else if isW l k [Ju] then Jg l (k+1) λs k=>p.nameL line (.mk 4 0 0 s [x] [] line 0 0) k
  else if isW l k [Bc] then(p.arg (k+1)).then λa k=>(p.argsL [a] k).then λaz k=>must l Bs k λk=>p.nameL line (.mk 7 0 0 [] [x] az line 0 0) k
  else if isW l k [Iy,Bc] then(p.paren (k+1)).then λy k=>p.nameL line (.mk 8 0 0 [] [x,y] [] line 0 0) k
  else if isW l k [Iy] then Jg l (k+1) λs k=>p.nameL line (.mk 6 0 0 s [x] [] line 0 0) k
  else .ok x k:=hr.fix.nameL line x k hk
def Bc7:List (List UInt8):= [Gg,Bc,Eq8,Wa,[43],[45]]
theorem Bc8 (h:isW l k [s]=true) (h1:s≠Gg) (h2:s≠Bc):p.primary k= .fail k:=by
 obtain⟨a,b,c⟩:=Jq h;have hk:k<=l.length:=by omega
 rw[Xd hk,if_neg b,Gm h h1,Gm h h2,if_neg (by simp),if_neg (by simp),Cq5 hk,Jg,if_neg a]
theorem Fo3 (h:isW l k [s]=true) (h1:s≠Gg) (h2:s≠Bc) (h3:s≠Eq8) (y:s≠Wa):p.factor k= .fail k:=by
 obtain⟨a,b,c⟩:=Jq h;have hk:k<=l.length:=by omega
 rw[Bv7 hk,Ai7 h (by simp [Ky,show Ay 21= [Wa] from rfl,show Ay 20= [Eq8] from rfl,h3,y]),Bc8 h h1 h2];rfl
theorem Bc9 (h:isW l k [s]=true) (h1:s≠Gg) (h2:s≠Bc) (h3:s≠Eq8) (y:s≠Wa):p.term k= .fail k:=by
 obtain⟨a,b,c⟩:=Jq h;rw[Fo1 (by omega),Fo3 h h1 h2 h3 y];rfl
theorem Ae9 (h:isW l k [s]=true) (hs:s∉Bc7):p.simple k= .fail k:=by
 simp only[Bc7,List.mem_cons,List.not_mem_nil,or_false,not_or] at hs;obtain⟨h1,h2,h3,h4,h5,h6⟩:=hs;obtain⟨a,b,c⟩:=Jq h;rw[Bv6 (by omega),Ai7 h (by simp [Hh,show Ay 19= [[45]] from rfl,show Ay 18= [[43]] from rfl,h5,h6]),Bc9 h h1 h2 h3 h4];rfl
theorem Et5 (h:isW l k [s]=true) (hs:s∉Bc7):p.expr k= .fail k:=by
 obtain⟨a,b,c⟩:=Jq h;rw[Dt6 (by omega),Ae9 h hs];rfl
theorem Bd0 {y:Ex} (h:p.simple k= .ok y k') (hs:s∉Bc7):isW l k [s]=false:=by
 cases c:isW l k [s] with
 |false=>rfl
 |true=>rw[Ae9 c hs] at h;cases h
theorem Gh0 {y:Ex} (h:p.expr k= .ok y k') (hs:s∉Bc7):isW l k [s]=false:=by
 cases c:isW l k [s] with
 |false=>rfl
 |true=>rw[Et5 c hs] at h;cases h
theorem Bd1 {i:Int} {x:Ex} (hk:k<=l.length) (h:nof w5 (tk l k)):p.nameL i x k= .ok x k:=by
 rw[Ai8 i x hk,Ho h (by decide),Ho h (by decide),Ho h (by decide),Ho h (by decide),Ho h (by decide)];rfl
theorem Ai9 {x:Ex} (hk:k<=l.length) (h:nof w3 (tk l k)):p.mulL x k= .ok x k:=by
 rw[Fo2 x hk,Bm4 h (by decide)];rfl
theorem Sz {x:Ex} (hk:k<=l.length) (h:nof w2 (tk l k)):p.addL x k= .ok x k:=by
 rw[Fo0 x hk,Bm4 h (by decide)];rfl
theorem Fo4 {x:Ex} (hk:k<=l.length) (h:nof w1 (tk l k)):p.relation x k= .ok x k:=by
 rw[Tx x hk,Bm4 h (by decide),Ho h (by decide),Ho h (by decide)];rfl
theorem Dt7 {x:Ex} (hk:k<=l.length):p.restL 0 x k= .ok x k:=by rw[Cq3 0 x hk];rfl
theorem Ap2 {o:Nat} {x:Ex} (hk:k<=l.length) (h:nof w0 (tk l k)):p.restL o x k= .ok x k:=by
 rw[Cq3 o x hk,Bm4 h (by decide)];simp
theorem Lr {x:Ex} (hk:k<=l.length) (h:p.primary k= .ok x k'):p.factor k= .ok x k':=by
 by_cases c:(opF l 0 k Ky).1=0
 ·have:=(Er (want:=0) Hi1.2.2.2.2.2 hk).1 c;rw[Bv7 hk,c,this,h];rfl
 ·exfalso;obtain⟨h1,h2,h3⟩:=Cp8 c;rcases Gg6 h1 with e|e
  ·rw[e] at h3;rw[Bc8 (s:=Eq8) h3 (by decide) (by decide)] at h;cases h
  ·rw[e] at h3;rw[Bc8 (s:=Wa) h3 (by decide) (by decide)] at h;cases h
theorem Ls {x:Ex} (hk:k<=l.length) (h:p.factor k= .ok x k'):p.term k=p.mulL x k':=by rw[Fo1 hk,h];rfl
theorem Kh {x:Ex} (hk:k<=l.length) (y:k'<=l.length) (h:p.term k=p.mulL x k') (C:nof w3 (tk l k')):p.simple k=p.addL x k':=by
 rw[Ai9 y C] at h;by_cases c:(opF l 0 k Hh).1=0
 ·have:=(Er (want:=0) Hi1.2.2.1 hk).1 c;rw[Bv6 hk,c,this,h];rfl
 ·exfalso;obtain⟨h1,h2,h3⟩:=Cp8 c;rcases Fn2 h1 with e|e
  ·rw[e] at h3;rw[Bc9 (s:= [43]) h3 (by decide) (by decide) (by decide) (by decide)] at h;cases h
  ·rw[e] at h3;rw[Bc9 (s:= [45]) h3 (by decide) (by decide) (by decide) (by decide)] at h;cases h
def Bd2 (p:PS) (k:Nat):Res Ex:=(p.simple k).then λx k=>p.relation x k
theorem Oq {x:Ex} (y:k'<=l.length) (h:p.simple k=p.addL x k') (C:nof w1 (tk l k')):Bd2 p k= .ok x k':=by
 rw[Bd2,h,Sz y (Ft C (by decide))];exact Fo4 y C
theorem Bv9 (hk:k<=l.length):p.expr k=(Bd2 p k).then λx k=>p.restL (opF l 0 k Fy).1 x k:=by
 rw[Dt6 hk,Bd2,Bv5];have ha:=hr.adv.simple k hk;cases c:p.simple k with
 |bot=>rfl
 |fail j=>rfl
 |ok x j=>
  rw[c] at ha;exact Fn9 x ha.2
theorem Et6 {x y:Ex} {j:Nat} (D:j<=l.length) (C:isW l j [Et]=true) (h:p.rest x j= .ok y k'):k'=j:=by
 have e1:opF l 0 j Nw=(0,j):=Ai7 C (by decide);have E:opF l 0 j Fy=(0,j):=Ai7 C (by decide);have I:isW l j [wIn]=false:=Gm C (by decide);have J:isW l j [Wa,wIn]=false:=Gz (Gm C (by decide)) _;have L:p.relation x j= .ok x j:=by rw[Tx x D,e1,I,J];rfl
 rw[Fn9 x D,L] at h;change p.restL (opF l 0 j Fy).1 x j=_ at h;rw[E,Dt7 D] at h;cases h;rfl
theorem Bi3 {y:Ex} (hk:k<=l.length) (h:p.expr k= .ok y k') (C:isW l k' [Et]=false):p.choice k= .ok (.mk 1 [y]) k':=by
 rw[Au9 hk,Gh0 h (s:=La) (by decide)];rw[Dt6 hk] at h;have ha:=hr.adv.simple k hk;cases c:p.simple k with
 |bot=>rw[c] at h;cases h
 |fail j=>rw[c] at h;cases h
 |ok x j=>
  rw[c] at h ha;change p.rest x j=_ at h;show(if isW l j [Et] then _ else _)=_;cases cd:isW l j [Et] with
  |true=>rw[Et6 ha.2 cd h,cd] at C;cases C
  |false=>
   (show(p.rest x j).then _=_);rw[h];rfl
theorem Bw0 {y:Ex} (hk:k<=l.length) (h:p.expr k= .ok y k') (C:isW l k' [Et]=false) (hb:isW l k' [Gp]=false) (ha:isW l k' [Bp]=false):p.assoc k= .ok (.mk [] y) k':=by
 rw[Cq4 hk,Bi3 hk h C];show(if _ then _ else _)=_;rw[if_pos ⟨rfl,hb,ha⟩];rfl
theorem Fo5 {x:As} (h:p.assoc k= .ok x k') (hs:s∉Bc7) (y:s≠La):isW l k [s]=false:=by
 cases c:isW l k [s] with
 |false=>rfl
 |true=>
  have hk:k<=l.length:=by have:=(Jq c).2.2;omega
  rw[Cq4 hk,Au9 hk,Gm c y,Ae9 c hs] at h;cases h
theorem Av0 {a:As} {az:List As} {j y:Nat} (h0:isW l k [Bc]=true) (h1:p.assoc (k+1)= .ok a j) (h2:p.assocsL [a] j= .ok az y) (h3:isW l y [Bs]=true):p.paren k= .ok (Bs0 (tk l k).line az) (y+1):=by
 have hk:k<=l.length:=by have:=(Jq h0).2.2;omega
 rw[Ee9 hk,must,if_pos h0,Fo5 h1 (s:=wIf) (by decide) (by decide),if_neg (by simp),h1];show(p.assocsL [a] j).then _=_
 rw[h2];show must l Bs y _=_;rw[must,if_pos h3,Nat.add_sub_cancel]
theorem Gh1 (h:isW l k [Bs]=true):isW l k [Et]=false/\isW l k [Gp]=false/\isW l k [Bp]=false/\isW l k [Dm]=false:=⟨Gm h (by decide),Gm h (by decide),Gm h (by decide),Gm h (by decide)⟩
theorem Bw1 {y:Ex} (h0:isW l k [Bc]=true) (h1:p.expr (k+1)= .ok y k') (h3:isW l k' [Bs]=true):p.paren k= .ok y (k'+1):=by
 obtain⟨a,b,c,d⟩:=Gh1 h3;have hk:k<l.length:=(Jq h0).2.2;have C:k'<l.length:=(Jq h3).2.2;rw[Av0 (a:= .mk [] y) (az:= [.mk [] y]) h0 (Bw0 (by omega) h1 a b c) (by rw[Ch6 _ (by omega),d];rfl) h3];rfl
theorem Ap3 (h0:isW l k [Bc]=true):p.primary k=p.paren k:=by
 obtain⟨a,b,c⟩:=Jq h0;rw[Xd (by omega),if_neg b,Gm h0 (t:=Gg) (by decide),h0];rfl
theorem Ch7 (hk:k<=l.length) (h:(tk l k).kind=1):p.primary k=p.name k:=by
 have hn:nof [Gg,Bc] (tk l k):=Xc (.inl h);rw[Xd hk,if_neg (by rw[h];decide),Ho hn (by decide),Ho hn (by decide)];rfl
theorem Dt8 {y:Ex} (h:p.expr k= .ok y k') (h1:(tk l k).kind=1) (h2:isW l (k+1) [Bp]=true):k'=k+1:=by
 have hk:k<l.length:=Ry (by rw[h1];decide);have hn: ∀ws,(∀s∈ws,s≠Bp)->nof ws (tk l (k+1)):=λws hs s hm ⟨e1,C⟩=>by
  rw[Bu0,jF,decide_eq_true_eq,decide_eq_true_eq] at h2;exact hs s hm (C.symm.trans h2.2)
 have hp:p.primary k= .ok (.mk 3 0 0 (tk l k).text [] [] (tk l k).line 0 0) (k+1):=by
  rw[Ch7 (by omega) h1,Cq5 (by omega),Jg,if_pos h1,Bd1 (by omega) (hn _ (by decide))]
 have hr:=Oq (by omega) (Kh (by omega) (by omega) (Ls (by omega) (Lr (by omega) hp)) (hn _ (by decide))) (hn _ (by decide));rw[Bv9 (by omega),hr] at h;change p.restL _ _ (k+1)=_ at h;rw[Ap2 (by omega) (hn _ (by decide))] at h;cases h;rfl
theorem Fo6 {y:Ex} (hk:k<=l.length) (h:p.expr k= .ok y k') (ha:isW l k' [Bp]=false):p.arg k= .ok (.mk [] y) k':=by
 rw[Gn3 hk,if_neg,h]
 ·rfl
 ·rintro⟨h1,h2⟩;rw[Dt8 h h1 h2,h2] at ha;cases ha
end
end Go.Dl
