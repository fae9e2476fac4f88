/- The data level and the contracts of the functions that are reached (part 8). -/
import Derived.Test.YtpcbhialfjiaaaaGreatDoorPfg
set_option linter.unusedSimpArgs false
set_option linter.unusedVariables false
set_option linter.unusedSectionVars false
-- Chapter 3: the package's reader: parentheses.
namespace Go.Dl
open Go Go.Proofs
set_option maxRecDepth 100000
def ifR (l:List Tok) (p:Nat->Res Ex) (line:Int):List (List UInt8)->List Ex->Nat->Res Ex
 | [],xs,k=> .ok (.mk 10 0 0 [] xs [] line 0 0) k
 | w::ws,xs,k=>(p k).then fun a k=>must l w k fun k=>ifR l p line ws (xs++ [a]) k
section
variable {G:Nat->DVal} {H0 H H':Ac} {r k:Nat} {l:List Tok}
def Yp (H:Ac) (l:List Ex) (v:DVal) (H':Ac):Prop:=Dj H 27 9 l.length (l.flatMap dEx) v H'
theorem Ah7 {x:List DVal} (hx:x.length=9):
  (if 9<=(Cx 1 [DVal.int .u8 0,DVal.int .u8 0,DVal.int .i64 0,DVal.str [],DVal.nilSlice,DVal.nilSlice,DVal.int .i64 0,DVal.int .i64 0,DVal.int .i64 0]).length then some (x++List.drop 9 (Cx 1 [DVal.int .u8 0,DVal.int .u8 0,DVal.int .i64 0,DVal.str [],DVal.nilSlice,DVal.nilSlice,DVal.int .i64 0,DVal.int .i64 0,DVal.int .i64 0])) else none)=some x:=by
 have e: ∀u:List DVal,Cx 1 u=u:=fun u=>by simp [Cx]
 rw[e,if_pos (by simp),List.drop_eq_nil_of_le (by simp),List.append_nil]
set_option maxHeartbeats 4000000 in
theorem Bq1 (hG:GX G) (hl:l.length<=800000) (n:Nat) (hpa:RdC Tryz.prog G l 29 r fun k=>((P l n).expr k).mp dE) (hc: ∀m≤n,RdC Tryz.prog G l 132 r fun k=>((P l m).assoc k).mp dA):RdC Tryz.prog G l 85 r fun k=>((P l (n+1)).paren k).mp dE:=by
 intro H k hr hk hn
 obtain⟨li,hli⟩: ∃li,li=(tk l k).line:=⟨_,rfl⟩
 have e:(P l (n+1)).paren k=must l Ce k fun k1=>if isW l k1 [wIf] then ifR l (P l n).expr (tk l (k1-1)).line [Ji,Kj,Cp] [] (k1+1) else(((P l n).assoc k1).then fun a k=>(P l n).assocsL [a] k).then fun xs k=>must l Cp k fun k=> .ok (Ut (tk l (k1-1)).line xs) k:=by
  have hth: ∀(a:Res As) (f:As->Nat->Res (List As)) (g:List As->Nat->Res Ex),(a.then f).then g=a.then fun x k=>(f x k).then g:=fun a f g=>by cases a<;>rfl
  simp only[hth];rfl
 dsimp only at hn⊢
 rw[e] at hn⊢
 obtain⟨res,hres⟩: ∃res,res=must l Ce k fun k1=>if isW l k1 [wIf] then ifR l (P l n).expr (tk l (k1-1)).line [Ji,Kj,Cp] [] (k1+1) else(((P l n).assoc k1).then fun a k=>(P l n).assocsL [a] k).then fun xs k=>must l Cp k fun k=> .ok (Ut (tk l (k1-1)).line xs) k:=⟨_,rfl⟩
 rw[<-hres] at hn⊢
 refine Ad Tryz.func85 Tryz.call85 rfl (by kernel_rfl) ?_
 simp(disch:=omega) only[go_sem,↓reduceIte]
 intro r2 hr2;dsimp only at hr2
 obtain⟨Ha,hHa⟩: ∃K,K=upd H r2 (some (.cells [.int .u8 0, .int .u8 0, .int .i64 0, .str [], .nilSlice, .nilSlice, .int .i64 0, .int .i64 0, .int .i64 0] 27)):=⟨_,rfl⟩
 rw[<-hHa]
 have gr2:Ha r2=some (.cells [.int .u8 0, .int .u8 0, .int .i64 0, .str [], .nilSlice, .nilSlice, .int .i64 0, .int .i64 0, .int .i64 0] 27):=by rw[hHa];exact Aa _ _ _
 have n2:r≠r2:=Ae hr2 hr
 have q2:=n2.symm
 have ha:RAt r l k H Ha:=by rw[hHa];exact(RAt.refl hr).new hr2 _
 simp(disch:=omega) only[go_sem,↓reduceIte]
 refine(Wx G _ ha.get (by omega) (by omega)).mono ?_
 rintro _ H1 ⟨rfl,hH1⟩
 rw[hH1,<-hli]
 simp(disch:=omega) only[go_sem,↓reduceIte]
 intro r3 hr3;dsimp only at hr3
 simp(disch:=omega) only[go_sem,↓reduceIte]
 obtain⟨Hb,hHb⟩: ∃K,K=upd Ha r3 (some (.cells [.int .u8 9, .int .u8 0, .int .i64 0, .str [], .nilSlice, .nilSlice, .int .i64 li, .int .i64 0, .int .i64 0] 27)):=⟨_,rfl⟩
 rw[<-hHb]
 have gr3:Hb r3=some (.cells [.int .u8 9, .int .u8 0, .int .i64 0, .str [], .nilSlice, .nilSlice, .int .i64 li, .int .i64 0, .int .i64 0] 27):=by rw[hHb];exact Aa _ _ _
 have n23:r2≠r3:=Ae hr3 gr2
 have m23:=n23.symm
 have n3:r≠r3:=Ae hr3 ha.get
 have q3:=n3.symm
 have h30:H r3=none:=ha.lo hr3
 have hab:RAt r l k H Hb:=by rw[hHb];exact ha.new hr3 _
 have gb2:Hb r2=some (.cells [.int .u8 0, .int .u8 0, .int .i64 0, .str [], .nilSlice, .nilSlice, .int .i64 0, .int .i64 0, .int .i64 0] 27):=by rw[hHb];exact Ag gr2 n23
 refine(Gj hG Hb Ce hab.get (by omega) (by omega)).mono ?_
 intro e1 H2 hq
 unfold must at hq hres
 by_cases b0:isW l k [Ce]=true
 ·rw[if_pos b0] at hq hres
  obtain⟨rfl,hH2⟩:=hq
  dsimp only at hres
  rw[Nat.add_sub_cancel,<-hli] at hres
  have hk1:=Am b0 hk
  rw[List.length_singleton] at hk1
  obtain⟨k1,hk1e⟩: ∃k1,k1=k+1:=⟨_,rfl⟩
  rw[<-hk1e] at hres hH2 hk1
  have ha2:RAt r l k1 H H2:=by rw[hH2];exact hab.set k1
  have g22:H2 r2=some (.cells [.int .u8 0, .int .u8 0, .int .i64 0, .str [], .nilSlice, .nilSlice, .int .i64 0, .int .i64 0, .int .i64 0] 27):=by rw[hH2];exact Ag gb2 q2
  have g23:H2 r3=some (.cells [.int .u8 9, .int .u8 0, .int .i64 0, .str [], .nilSlice, .nilSlice, .int .i64 li, .int .i64 0, .int .i64 0] 27):=by rw[hH2];exact Ag gr3 q3
  simp(disch:=omega) only[go_sem,↓reduceIte]
  intro w1 hw1;dsimp only at hw1
  simp(disch:=omega) only[go_sem,↓reduceIte]
  refine(Rv hG _ w1 wIf hw1 ha2.get (by omega) (by omega)).mono ?_
  rintro _ H4 ⟨rfl,hH4⟩
  by_cases b1:isW l k1 [wIf]=true
  ·rw[if_pos b1] at hH4 hres
   have hk2:=Am b1 hk1
   rw[List.length_singleton] at hk2
   have ha4:RAt r l (k1+1) H H4:=by rw[hH4];exact ha2.set _
   have g42:H4 r2=some (.cells [.int .u8 0, .int .u8 0, .int .i64 0, .str [], .nilSlice, .nilSlice, .int .i64 0, .int .i64 0, .int .i64 0] 27):=by rw[hH4];exact Ag g22 q2
   have g43:H4 r3=some (.cells [.int .u8 9, .int .u8 0, .int .i64 0, .str [], .nilSlice, .nilSlice, .int .i64 li, .int .i64 0, .int .i64 0] 27):=by rw[hH4];exact Ag g23 q3
   simp(disch:=omega) only[go_sem,↓reduceIte,b1,g43]
   obtain⟨H5,hH5⟩: ∃K,K=upd H4 r3 (some (.cells [.int .u8 10, .int .u8 0, .int .i64 0, .str [], .nilSlice, .nilSlice, .int .i64 li, .int .i64 0, .int .i64 0] 27)):=⟨_,rfl⟩
   rw[<-hH5]
   have ha5:RAt r l (k1+1) H H5:=by rw[hH5];exact ha4.own h30 q3 _
   have g53:H5 r3=some (.cells [.int .u8 10, .int .u8 0, .int .i64 0, .str [], .nilSlice, .nilSlice, .int .i64 li, .int .i64 0, .int .i64 0] 27):=by rw[hH5];exact Aa _ _ _
   have g52:H5 r2=some (.cells [.int .u8 0, .int .u8 0, .int .i64 0, .str [], .nilSlice, .nilSlice, .int .i64 0, .int .i64 0, .int .i64 0] 27):=by rw[hH5];exact Ag g42 n23
   intro w15 hw15;dsimp only at hw15
   obtain⟨Hk,hHk⟩: ∃K,K=upd H5 w15 (some (.cells [.str [116,104,101,110], .str [101,108,115,101], .str [41]] 9)):=⟨_,rfl⟩
   rw[<-hHk]
   have gw15:Hk w15=some (.cells [.str [116,104,101,110], .str [101,108,115,101], .str [41]] 9):=by rw[hHk];exact Aa _ _ _
   have n15:r3≠w15:=Ae hw15 g53
   have n152:r2≠w15:=Ae hw15 g52
   have n15r:r≠w15:=Ae hw15 ha5.get
   have hak:RAt r l (k1+1) H Hk:=by rw[hHk];exact ha5.new hw15 _
   have gk3:Hk r3=some (.cells [.int .u8 10, .int .u8 0, .int .i64 0, .str [], .nilSlice, .nilSlice, .int .i64 li, .int .i64 0, .int .i64 0] 27):=by rw[hHk];exact Ag g53 n15
   have gk2:Hk r2=some (.cells [.int .u8 0, .int .u8 0, .int .i64 0, .str [], .nilSlice, .nilSlice, .int .i64 0, .int .i64 0, .int .i64 0] 27):=by rw[hHk];exact Ag g52 n152
   obtain⟨AB,hAB⟩: ∃AB:DVal->Nat->Ac,∀v k,AB v k=upd (upd Hk r3 (some (.cells [.int .u8 10, .int .u8 0, .int .i64 0, .str [],v, .nilSlice, .int .i64 li, .int .i64 0, .int .i64 0] 27))) r (some (rdO l k)):=⟨_,fun _ _=>rfl⟩
   have hABr: ∀v k,AB v k r=some (rdO l k):=fun v k=>by rw[hAB];exact Aa _ _ _
   have hAB3: ∀v k,AB v k r3=some (.cells [.int .u8 10, .int .u8 0, .int .i64 0, .str [],v, .nilSlice, .int .i64 li, .int .i64 0, .int .i64 0] 27):=fun v k=>by rw[hAB,Ao _ _ _ _ q3];exact Aa _ _ _
   have hAB2: ∀v k,AB v k r2=some (.cells [.int .u8 0, .int .u8 0, .int .i64 0, .str [], .nilSlice, .nilSlice, .int .i64 0, .int .i64 0, .int .i64 0] 27):=fun v k=>by rw[hAB,Ao _ _ _ _ q2,Ao _ _ _ _ n23];exact gk2
   have hABw: ∀v k,AB v k w15=some (.cells [.str [116,104,101,110], .str [101,108,115,101], .str [41]] 9):=fun v k=>by rw[hAB,Ao _ _ _ _ n15r.symm,Ao _ _ _ _ n15.symm];exact gw15
   have hABk: ∀v k k',upd (AB v k) r (some (rdO l k'))=AB v k':=fun v k k'=>by rw[hAB,hAB,Da]
   have hABv: ∀v v' k,upd (AB v k) r3 (some (.cells [.int .u8 10, .int .u8 0, .int .i64 0, .str [],v', .nilSlice, .int .i64 li, .int .i64 0, .int .i64 0] 27))=AB v' k:=fun v v' k=>by rw[hAB,hAB,Qr q3,Da]
   have hABa: ∀v k,RAt r l k H (AB v k):=fun v k=>by rw[hAB];exact(hak.own h30 q3 _).set k
   have hv0:Yp (AB .nilSlice (k1+1)) [] .nilSlice Hk:=by
    rw[hAB,Be gk3,Be hak.get];exact Dj.nil _ _ (Sub.refl _)
   simp(disch:=omega) only[go_sem,↓reduceIte]
   obtain⟨I,hI⟩: ∃I:Nat×List Ex×Nat->(Nat->DVal)->Ac->Prop,∀s env heap,I s env heap↔(env 0= .optr r 0/\env 2= .optr r2 0/\env 3= .optr r3 0/\env 15= .oslice 1 w15 0 3 3/\env 16=dI 3/\env 17=dI s.1/\s.1<=3/\s.2.1.length=s.1/\s.2.2<=l.length/\res=ifR l (P l n).expr li ([Ji,Kj,Cp].drop s.1) s.2.1 s.2.2/\ ∃v,Yp (AB v s.2.2) s.2.1 v heap):=⟨_,fun _ _ _=>Iff.rfl⟩
   refine Bt4.run I (fun s=>3-s.1) (0,[],k1+1) ((hI _ _ _).2 ?_) ?_
   ·simp(disch:=omega) only[go_sem,↓reduceIte]
    (repeat' apply And.intro)<;>(try first | rfl | assumption | omega)
    exact⟨_,hv0⟩
   ·rintro⟨j,xs,k2⟩ env heap hi'
    obtain⟨e0,e2,e3,e15,e16,e17,hj,hxl,hk2',hr2',v,hv⟩:=(hI _ _ _).1 hi'
    dsimp only at e17 hj hxl hk2' hr2' hv
    by_cases c:j<3
    ·have c':(j:Int)<3:=by omega
     obtain⟨w,hw,hwd⟩: ∃w,([DVal.str [116,104,101,110], .str [101,108,115,101], .str [41]])[j]? =some (.str w)/\ [Ji,Kj,Cp].drop j=w:: [Ji,Kj,Cp].drop (j+1):=by
      have:j=0\/j=1\/j=2:=by omega
      rcases this with rfl | rfl | rfl<;>exact⟨_,rfl,rfl⟩
     rw[hwd,ifR] at hr2'
     have g15:=Dj.keep hv (hABw _ _)
     have g3:=Dj.keep hv (hAB3 _ _)
     simp(disch:=omega) only[go_sem,↓reduceIte,e0,e2,e3,e15,e16,e17,c',g15,hw,Int.toNat_natCast]
     refine Aj (by kernel_rfl) (.take 0 (.take 1 (.take 2 (.go 3 [1] (.go 4 [1] (.go 5 [] (.take 6 (.go 7 [] .done)))))))) (by kernel_rfl) ?_
     simp(disch:=omega) only[go_sem,↓reduceIte,e0,e2,e3,e15,e16,e17,g3]
     have hpk:=hpa _ k2 (Dj.keep hv (hABr _ _)) hk2'
     have had:=(Bn (l:=l) n).expr k2 hk2'
     dsimp only at hpk
     cases hpe:(P l n).expr k2 with
     | bot=>rw[hpe,Eb] at hr2';rw[hr2'] at hn;exact absurd rfl hn
     | fail k6=>
      rw[hpe] at hpk
      rw[hpe,Dr] at hr2'
      refine(hpk (Aw (by simp))).mono ?_
      rintro e H9 ⟨rfl,hH9⟩
      have hv9:Yp (AB v k6) xs v H9:=by rw[hH9,<-hABk v k2];exact Dj.at hv (hABr _ _) _
      simp(disch:=omega) only[go_sem,↓reduceIte]
      rw[hr2']
      exact RAt.finP ((hABa v k6).more (Dj.sub hv9)) ⟨rfl,rfl⟩
     | ok y k6=>
      rw[hpe] at hpk had
      rw[hpe,En] at hr2'
      dsimp only[Adv] at had
      refine(hpk (Aw (by simp))).mono ?_
      rintro e H9 ⟨rfl,hH9⟩
      have hv9:Yp (AB v k6) xs v H9:=by rw[hH9,<-hABk v k2];exact Dj.at hv (hABr _ _) _
      have g93:=Dj.keep hv9 (hAB3 _ _)
      have hly:=Ah y
      simp(disch:=omega) only[go_sem,↓reduceIte,e0,e2,e3,e15,e16,e17,g3,g93,dE]
      rw[Ah7 hly]
      simp(disch:=omega) only[go_sem,↓reduceIte,e0,e2,e3,e15,e16,e17,g3,g93]
      intro r8 hr8;dsimp only at hr8
      have n8:r3≠r8:=Ae hr8 g93
      simp(disch:=omega) only[go_sem,↓reduceIte,e0,e2,e3,e15,e16,e17,g93,n8]
      refine Dj.append (m:=1) (Dj.new hv9 hr8 _) (by rw[hly]) (by omega) fun v2 H10 hv2=> ?_
      have g103:=Dj.keep hv2 (hAB3 _ _)
      obtain⟨j1,j2⟩:=Dj.cell1 hv2
      simp(disch:=omega) only[go_sem,↓reduceIte,e0,e2,e3,e15,e16,e17,g103,j1,j2]
      have hv3:Yp (AB v2 k6) (xs++ [y]) v2 (upd H10 r3 (some (.cells [.int .u8 10, .int .u8 0, .int .i64 0, .str [],v2, .nilSlice, .int .i64 li, .int .i64 0, .int .i64 0] 27))):=by
       have:=Dj.at hv2 (hAB3 _ _) (some (.cells [.int .u8 10, .int .u8 0, .int .i64 0, .str [],v2, .nilSlice, .int .i64 li, .int .i64 0, .int .i64 0] 27))
       rw[hABv] at this
       unfold Yp
       rw[List.length_append,List.length_singleton,List.flatMap_append,List.flatMap_singleton]
       exact this
      obtain⟨H11,hH11⟩: ∃K,K=upd H10 r3 (some (.cells [.int .u8 10, .int .u8 0, .int .i64 0, .str [],v2, .nilSlice, .int .i64 li, .int .i64 0, .int .i64 0] 27)):=⟨_,rfl⟩
      rw[<-hH11] at hv3⊢
      refine(Gj hG H11 w (Dj.keep hv3 (hABr _ _)) (by omega) (by omega)).mono ?_
      intro e1 H12 hq
      unfold must at hq hr2'
      by_cases b5:isW l k6 [w]=true
      ·rw[if_pos b5] at hq hr2'
       obtain⟨rfl,hH12⟩:=hq
       dsimp only at hr2'
       have hk5:=Am b5 had.2
       rw[List.length_singleton] at hk5
       have hv4:Yp (AB v2 (k6+1)) (xs++ [y]) v2 H12:=by rw[hH12,<-hABk v2 k6];exact Dj.at hv3 (hABr _ _) _
       have hwj:IntKind.i64.wrap ((j:Int)+1)=((j+1:Nat):Int):=by rw[IntKind.wrap_i64];omega
       simp(disch:=omega) only[go_sem,↓reduceIte,e0,e2,e3,e15,e16,e17]
       refine⟨(j+1,xs++ [y],k6+1),_,Ni.refl _,(hI _ _ _).2 ?_,by dsimp only;omega⟩
       simp(disch:=omega) only[go_sem,↓reduceIte,e0,e2,e3,e15,e16,e17,hwj]
       (repeat' apply And.intro)<;>(try first | rfl | assumption | omega)
       ·rw[List.length_append,List.length_singleton];omega
       ·exact⟨v2,hv4⟩
      ·rw[if_neg b5] at hq hr2'
       obtain⟨rfl,hH12⟩:=hq
       have hv4:Yp (AB v2 k6) (xs++ [y]) v2 H12:=by rw[hH12,<-hABk v2 k6];exact Dj.at hv3 (hABr _ _) _
       simp(disch:=omega) only[go_sem,↓reduceIte]
       rw[hr2']
       exact RAt.finP ((hABa v2 k6).more (Dj.sub hv4)) ⟨rfl,rfl⟩
    ·have hj3:j=3:=by omega
     subst hj3
     have c': ¬((3:Nat):Int)<3:=by omega
     rw[show [Ji,Kj,Cp].drop 3= [] from rfl,ifR] at hr2'
     have g3:=Dj.keep hv (hAB3 _ _)
     have g2:=Dj.keep hv (hAB2 _ _)
     obtain⟨j1,j2⟩:=Dj.cell1 hv
     simp(disch:=omega) only[go_sem,↓reduceIte,e0,e2,e3,e15,e16,e17,c',g3,g2,j1,j2]
     rw[hr2']
     have hvf:=fun z=>Dj.less (Dj.at hv (hAB2 v k2) z) ((hABa v k2).own hr2 q2 z)
     exact Fc.fin (Dj.sub (hvf _)) (Fc.agg (Fc.ex (l:=xs) (Dj.sub (hvf _)) (Fc.own (hvf _)) (.as0 (Dj.sub (hvf _))))) ⟨rfl,rfl⟩
  ·have b1':isW l k1 [wIf]=false:=by simpa using b1
   rw[if_neg b1,Be ha2.get] at hH4
   rw[if_neg b1] at hres
   rw[hH4]
   simp(disch:=omega) only[go_sem,↓reduceIte,b1']
   have hs:=Ao8 hG hl 132 (fun m=>(P l m).assoc) (fun m=>(P l m).assocsL) Gn (fun _ _=>rfl) (fun _ _ _=>rfl) (fun m k hk=>(Bn m).assoc k hk) n hc H2 k1 ha2.get hk1 (fun h=>hn (by rw[hres,h];rfl))
   refine hs.mono ?_
   intro e1 H5 hq5
   cases hcc:(((P l n).assoc k1).then fun a k=>(P l n).assocsL [a] k) with
   | bot=>rw[hcc] at hq5;exact hq5.elim
   | fail k3=>
    rw[hcc] at hq5
    rw[hcc,Dr] at hres
    obtain⟨rfl,hH5⟩:=hq5
    simp(disch:=omega) only[go_sem,↓reduceIte]
    rw[hres]
    exact RAt.finP (by rw[hH5];exact ha2.set k3) ⟨rfl,rfl⟩
   | ok xs k3=>
    rw[hcc] at hq5
    rw[hcc,En] at hres
    obtain⟨rfl,hH5⟩:=hq5
    have hk3:k3<=l.length:=by
     have:=Bh ((Bn (l:=l) n).assoc k1 hk1) (fun a j h1 h2=>(Bn (l:=l) n).assocsL [a] j h2 |>fun h=>Cs h h1)
     rw[hcc] at this
     exact this.2
    have ha5:RAt r l k3 H H5:=by rw[hH5];exact ha2.set _
    have g53:H5 r3=some (.cells [.int .u8 9, .int .u8 0, .int .i64 0, .str [], .nilSlice, .nilSlice, .int .i64 li, .int .i64 0, .int .i64 0] 27):=by rw[hH5];exact Ag g23 q3
    have g52:H5 r2=some (.cells [.int .u8 0, .int .u8 0, .int .i64 0, .str [], .nilSlice, .nilSlice, .int .i64 0, .int .i64 0, .int .i64 0] 27):=by rw[hH5];exact Ag g22 q2
    simp(disch:=omega) only[go_sem,↓reduceIte,dAl,g53]
    obtain⟨H6,hH6⟩: ∃K,K=upd H5 r3 (some (.cells [.int .u8 9, .int .u8 0, .int .i64 0, .str [], .nilSlice, .vslice (xs.flatMap dAs) xs.length, .int .i64 li, .int .i64 0, .int .i64 0] 27)):=⟨_,rfl⟩
    rw[<-hH6]
    have ha6:RAt r l k3 H H6:=by rw[hH6];exact ha5.own h30 q3 _
    have g63:H6 r3=some (.cells [.int .u8 9, .int .u8 0, .int .i64 0, .str [], .nilSlice, .vslice (xs.flatMap dAs) xs.length, .int .i64 li, .int .i64 0, .int .i64 0] 27):=by rw[hH6];exact Aa _ _ _
    have g62:H6 r2=some (.cells [.int .u8 0, .int .u8 0, .int .i64 0, .str [], .nilSlice, .nilSlice, .int .i64 0, .int .i64 0, .int .i64 0] 27):=by rw[hH6];exact Ag g52 n23
    refine(Gj hG H6 Cp ha6.get (by omega) (by omega)).mono ?_
    intro e1 H7 hq7
    unfold must at hq7
    by_cases b5:isW l k3 [Cp]=true
    ·rw[if_pos b5] at hq7 hres
     obtain⟨rfl,hH7⟩:=hq7
     have ha7:RAt r l (k3+1) H H7:=by rw[hH7];exact ha6.set _
     have g73:H7 r3=some (.cells [.int .u8 9, .int .u8 0, .int .i64 0, .str [], .nilSlice, .vslice (xs.flatMap dAs) xs.length, .int .i64 li, .int .i64 0, .int .i64 0] 27):=by rw[hH7];exact Ag g63 q3
     have g72:H7 r2=some (.cells [.int .u8 0, .int .u8 0, .int .i64 0, .str [], .nilSlice, .nilSlice, .int .i64 0, .int .i64 0, .int .i64 0] 27):=by rw[hH7];exact Ag g62 q2
     have hat:=fun z=>ha7.own hr2 q2 z
     by_cases c1:xs.length=1
     ·obtain⟨x,rfl⟩:=List.length_eq_one_iff.1 c1
      have hlx:=Bi x
      have hge:=Uv x
      have hle:=Ah x.e
      have hoe:=Al x.e
      rw[List.flatMap_singleton] at g73
      by_cases c2:x.c= []
      ·have c2':x.c.length=0:=by rw[c2];rfl
       simp(disch:=omega) only[go_sem,↓reduceIte,g73,g72,List.length_singleton,List.flatMap_singleton,hlx,c2']
       try simp(disch:=omega) only[go_sem,↓reduceIte,hge,hle,hoe]
       rw[hres,Ut,if_pos c2]
       exact RAt.fin (hat _) ⟨rfl,rfl⟩
      ·have c2': ¬(x.c.length:Int)=0:=fun h=>c2 (List.length_eq_zero_iff.1 (by omega))
       simp(disch:=omega) only[go_sem,↓reduceIte,g73,g72,List.length_singleton,List.flatMap_singleton,hlx,c2']
       rw[hres,Ut,if_neg c2]
       exact Fc.fin (hat _) (Fc.agg (Fc.ex (a:= [x]) (hat _) (.exs0 (hat _)) (by rw[dAl,List.flatMap_singleton];exact Fc.keep (hat _) _))) ⟨rfl,rfl⟩
     ·have c1': ¬(xs.length:Int)=1:=by omega
      simp(disch:=omega) only[go_sem,↓reduceIte,g73,g72,c1']
      have hag:Ut li xs= .mk 9 0 0 [] [] xs li 0 0:=by
       match xs,c1 with
       | [],_=>rfl
       | [x],h=>exact absurd rfl h
       | x::y::zs,_=>rfl
      rw[hres,hag]
      exact Fc.fin (hat _) (Fc.agg (Fc.ex (a:=xs) (hat _) (.exs0 (hat _)) (Fc.keep (hat _) _))) ⟨rfl,rfl⟩
    ·rw[if_neg b5] at hq7 hres
     obtain⟨rfl,hH7⟩:=hq7
     simp(disch:=omega) only[go_sem,↓reduceIte]
     rw[hres]
     exact RAt.finP (by rw[hH7];exact ha6.set k3) ⟨rfl,rfl⟩
 ·rw[if_neg b0] at hq hres
  obtain⟨rfl,hH2⟩:=hq
  simp(disch:=omega) only[go_sem,↓reduceIte]
  rw[hres]
  exact RAt.finP (by rw[hH2];exact hab.set k) ⟨rfl,rfl⟩
end
end Go.Dl

-- Chapter 3: the package's reader: names.
namespace Go.Dl
open Go Go.Proofs
set_option maxRecDepth 100000
section
variable {G:Nat->DVal} {H0 H H' K T B:Ac} {r k:Nat} {l:List Tok}
theorem Rb (hd: ∀b,K b=none->T b=none) (w:World):Lasts K w T w:=⟨fun b i x hb hc=>⟨hd b hb,hc⟩,Nat.le_refl _,fun _ _=>rfl⟩
theorem Fc.keepD (hd: ∀b,K b=none->T b=none) (v:DVal):Fc K v T v:=fun w _ x hx=>Rel.lasts (Rb hd w) _ _ hx
theorem Ek.keepD (hd: ∀b,K b=none->T b=none) (vs:List DVal):Ek K vs T vs:=fun w _ x hx=>Aq.lasts (Rb hd w) _ _ hx
theorem Fc.cellsD {e:TypeId} {size q n:Nat} {cs cs':List DVal} (hr:T q=none) (hc:K q=some (.cells cs e)) (hl:cs.length=n*size) (hs:Ek K cs T cs'):Fc K (.oslice size q 0 n n) T (.vslice cs' n):=fun w hw x hx=>by
 simp only[Rel] at hx⊢
 obtain⟨o,cap,rfl,h1,h2,h3,h4⟩:=hx;refine⟨_,cap,rfl,h2,?_⟩;by_cases h0:cs= []
 ·subst h0;have:=hs w hw [] (by simp [Aq]);cases cs' with
  | nil=>exact .inl rfl
  | cons c cs'=>simp [Aq] at this
 ·obtain⟨zs,hl1,hh⟩:=hw.holds hc;have ho:o=0:=by
   rcases h3 with h3 | h3
   ·exfalso;have:n=0:=by omega
    subst this;rw[Nat.zero_mul] at hl;exact h0 (List.length_eq_zero_iff.1 hl)
   ·exact h3
  subst ho;exact .inr ⟨q,0,zs,rfl, .inr ⟨hr,fun i y hy=>by simpa using hh i y hy⟩,hs w hw zs hl1⟩
theorem Fc.ownD {e:TypeId} {size n:Nat} {cs:List DVal} {v:DVal} (hd: ∀b,K b=none->T b=none) (hT: ∀b,B b=none->T b=none) (hv:Dj B e size n cs v K):Fc K v T (.vslice cs n):=by
 rcases hv with⟨rfl,rfl,rfl,_⟩ | ⟨q,h1,h2,rfl,h4,_⟩
 ·exact fun w _ x hx=>Rel.lasts (Rb hd w) _ _ (DLe.nil w K x hx)
 ·exact Fc.cellsD (hT q h1) h4 h2 (Ek.keepD hd _)
theorem Ek.exD {k o n:Int} {s:List UInt8} {vl va:DVal} {m:List Ex} {a:List As} {li en t:Int} (hd: ∀b,K b=none->T b=none) (hl:Fc K vl T (dXs m)) (ha:Fc K va T (dAl a)):
  Ek K [.int .u8 k, .int .u8 o, .int .i64 n, .str s,vl,va, .int .i64 li, .int .i64 en, .int .i64 t] T (dEx (.mk k o n s m a li en t)):=by
 rw[Bl];exact .cons (.keepD hd _) (.cons (.keepD hd _) (.cons (.keepD hd _) (.cons (.keepD hd _) (.cons hl (.cons ha (.keepD hd _))))))
theorem Fc.as0D (hd: ∀b,K b=none->T b=none):Fc K .nilSlice T (dAl []):=fun w _ x hx=>Rel.lasts (Rb hd w) _ _ (DLe.nil w K x hx)
theorem Fc.exs0D (hd: ∀b,K b=none->T b=none):Fc K .nilSlice T (dXs []):=fun w _ x hx=>Rel.lasts (Rb hd w) _ _ (DLe.nil w K x hx)
theorem Cq9 {Hb:Ac} {r4 k':Nat} {o z:DObj} {l:List Tok} {r:Nat} (hat:RAt r l k' Hb K) (h4:K r4=some o): ∀b,K b=none->(upd (upd Hb r (some (rdO l k'))) r4 (some z)) b=none:=fun b hb=>by
 simp only[upd];split
 ·rename_i e1;rw[e1,h4] at hb;cases hb
 ·have:=Sub.lo hat hb;simpa only[upd] using this
theorem Ni.cell {env:Nat->DVal} {r4:Nat} {cs cs':List DVal} {e:TypeId} (h4:K r4=some (.cells cs e)) (hB:Sub B K) (hs:Ek K cs (upd B r4 (some (.cells cs' e))) cs'):Ni G ⟨env,K⟩ ⟨env,upd B r4 (some (.cells cs' e))⟩:=fun w hH hG=>by
 have hd: ∀b,K b=none->(upd B r4 (some (.cells cs' e))) b=none:=fun b hb=>by
  simp only[upd];split
  ·rename_i e1;rw[e1,h4] at hb;cases hb
  ·exact hB.lo hb
 refine⟨fun b o hb=> ?_,fun b hb h=>hb (hd b h),hG.lasts (Rb hd w),fun i x hx=>Rel.lasts (Rb hd w) _ _ hx⟩;simp only[upd] at hb;split at hb
 ·rename_i e1
  subst e1;cases hb;obtain⟨xs,c,fz,g1,g2,g3,g5⟩:=hH _ _ h4;exact⟨xs,c,fz,g1,g2,hs w hH xs g3,g5⟩
 ·exact(hH b o (hB b o hb)).lasts (Rb hd w)
theorem RAt.up {r k k2:Nat} {l:List Tok} {H Hb K:Ac} (h:RAt r l k Hb K) (hab:RAt r l k2 H Hb):RAt r l k H K:=fun b o hb=>by
 simp only[upd] at hb;by_cases c:b=r
 ·rw[if_pos c] at hb;exact h b o (by simp only[upd];rw[if_pos c];exact hb)
 ·rw[if_neg c] at hb;exact h b o (by simp only[upd];rw[if_neg c];exact hab b o (by simp only[upd];rw[if_neg c];exact hb))
theorem Pn {Hb:Ac} {r4 q k':Nat} {x:Ex} {e:TypeId} {o:DObj} {z:DObj} {l:List Tok} {r:Nat} {va:DVal} {a:List As} {kd li:Int} {s:List UInt8} (hat:RAt r l k' Hb K) (h4:K r4=some o) (hq:Hb q=none) (hqr:q≠r) (hq4:q≠r4) (hK:K q=some (.cells (dEx x) e)) (ha: ∀T,(∀b,K b=none->T b=none)->Fc K va T (dAl a)):
  Ek K [.int .u8 kd, .int .u8 0, .int .i64 0, .str s, .oslice 9 q 0 1 1,va, .int .i64 li, .int .i64 0, .int .i64 0] (upd (upd Hb r (some (rdO l k'))) r4 (some z)) (dEx (.mk kd 0 0 s [x] a li 0 0)):=by
 have hd: ∀b,K b=none->(upd (upd Hb r (some (rdO l k'))) r4 (some z)) b=none:=fun b hb=>by
  simp only[upd];split
  ·rename_i e1;rw[e1,h4] at hb;cases hb
  ·have:=Sub.lo hat hb;simpa only[upd] using this
 refine Ek.exD hd ?_ (ha _ hd);show Fc K _ _ (.vslice ([x].flatMap dEx) 1);rw[List.flatMap_singleton];exact Fc.cellsD (by simp only[upd];rw[if_neg hq4,if_neg hqr];exact hq) hK (by rw[Ah]) (Ek.keepD hd _)
theorem Bq2 {Hb B:Ac} {r4 k':Nat} {x y:Ex} {e:TypeId} {o:DObj} {z:DObj} {l:List Tok} {r:Nat} {v:DVal} {kd li:Int} {s:List UInt8} (hat:RAt r l k' Hb K) (h4:K r4=some o) (hB:RAt r l k' Hb B) (hB4:B r4≠none) (hv:Dj B e 9 2 ([x,y].flatMap dEx) v K):
  Ek K [.int .u8 kd, .int .u8 0, .int .i64 0, .str s,v, .nilSlice, .int .i64 li, .int .i64 0, .int .i64 0] (upd (upd Hb r (some (rdO l k'))) r4 (some z)) (dEx (.mk kd 0 0 s [x,y] [] li 0 0)):=by
 have key: ∀K':Ac,RAt r l k' Hb K'->K' r4≠none-> ∀b,K' b=none->(upd (upd Hb r (some (rdO l k'))) r4 (some z)) b=none:=fun K' ht h4 b hb=>by
  simp only[upd];split
  ·rename_i e1;rw[e1] at hb;exact absurd hb h4
  ·have:=Sub.lo ht hb;simpa only[upd] using this
 have hd:=key K hat (by rw[h4];simp);exact Ek.exD hd (Fc.ownD hd (key B hB hB4) hv) (.as0D hd)
end
section
variable {G:Nat->DVal} {H0 H H':Ac} {r k:Nat} {l:List Tok}
set_option maxHeartbeats 4000000 in
theorem Cf7 (hG:GX G) (hl:l.length<=800000) (n:Nat) (hga: ∀m≤n,RdC Tryz.prog G l 116 r fun k=>((P l m).arg k).mp dA) (hgp: ∀m≤n,RdC Tryz.prog G l 85 r fun k=>((P l m).paren k).mp dE):RdC Tryz.prog G l 36 r fun k=>((P l (n+1)).name k).mp dE:=by
 intro H k hr hk hn;obtain⟨t,ht⟩: ∃t,t=tk l k:=⟨_,rfl⟩;have e:(P l (n+1)).name k=Fp l k fun s k1=>(P l n).nameL (tk l k).line (.mk 3 0 0 s [] [] (tk l k).line 0 0) k1:=rfl;dsimp only at hn⊢
 rw[e,Fp,<-ht] at hn⊢
 refine Ad Tryz.func36 Tryz.call36 rfl (by kernel_rfl) ?_;simp(disch:=omega) only[go_sem,↓reduceIte];intro r2 hr2;dsimp only at hr2;obtain⟨Ha,hHa⟩: ∃K,K=upd H r2 (some (.cells [.int .u8 0, .int .u8 0, .int .i64 0, .str [], .nilSlice, .nilSlice, .int .i64 0, .int .i64 0, .int .i64 0] 27)):=⟨_,rfl⟩;rw[<-hHa];have gr2:Ha r2=some (.cells [.int .u8 0, .int .u8 0, .int .i64 0, .str [], .nilSlice, .nilSlice, .int .i64 0, .int .i64 0, .int .i64 0] 27):=by rw[hHa];exact Aa _ _ _
 have n2:r≠r2:=Ae hr2 hr;have q2:=n2.symm;have ha:RAt r l k H Ha:=by rw[hHa];exact(RAt.refl hr).new hr2 _
 simp(disch:=omega) only[go_sem,↓reduceIte];refine(Wy G Ha 1 ha.get (by omega) (by omega)).mono ?_;intro e1 H1 hq;rw[<-ht] at hq;by_cases c:t.kind=1
 ·rw[if_pos c] at hn hq⊢
  obtain⟨rfl,hH1⟩:=hq;have hk1:k+1<=l.length:=Jj (by rw[<-ht,c];decide);have ha1:RAt r l (k+1) H H1:=by rw[hH1];exact ha.set _
  have g12:H1 r2=some (.cells [.int .u8 0, .int .u8 0, .int .i64 0, .str [], .nilSlice, .nilSlice, .int .i64 0, .int .i64 0, .int .i64 0] 27):=by rw[hH1];exact Ag gr2 q2
  simp(disch:=omega) only[go_sem,↓reduceIte,Ec];intro r3 hr3;dsimp only at hr3;have n23:r2≠r3:=Ae hr3 g12;have n3:r≠r3:=Ae hr3 ha1.get;have q3:=n3.symm;have h30:H r3=none:=ha1.lo hr3;simp(disch:=omega) only[go_sem,↓reduceIte];obtain⟨Hb,hHb⟩: ∃K,K=upd H1 r3 (some (.cells [.int .u8 t.kind,dI t.line, .str t.text,dI t.n] 31)):=⟨_,rfl⟩;rw[<-hHb];have gb3:Hb r3=some (.cells [.int .u8 t.kind,dI t.line, .str t.text,dI t.n] 31):=by rw[hHb];exact Aa _ _ _
  have gb2:Hb r2=some (.cells [.int .u8 0, .int .u8 0, .int .i64 0, .str [], .nilSlice, .nilSlice, .int .i64 0, .int .i64 0, .int .i64 0] 27):=by rw[hHb];exact Ag g12 n23
  have hab:RAt r l (k+1) H Hb:=by rw[hHb];exact ha1.new hr3 _
  intro r4 hr4;dsimp only at hr4;have n24:r2≠r4:=Ae hr4 gb2;have n34:r3≠r4:=Ae hr4 gb3;have n4:r≠r4:=Ae hr4 hab.get;have q4:=n4.symm;simp(disch:=omega) only[go_sem,↓reduceIte,Bl,List.flatMap_nil,List.length_nil];obtain⟨x0,hx0⟩: ∃x0,x0=Ex.mk 3 0 0 t.text [] [] t.line 0 0:=⟨_,rfl⟩;have hdx0:dEx x0= [.int .u8 3, .int .u8 0, .int .i64 0, .str t.text, .vslice [] 0, .vslice [] 0, .int .i64 t.line, .int .i64 0, .int .i64 0]:=by rw[hx0,Bl];rfl
  rw[<-hx0] at hn⊢
  obtain⟨n',rfl⟩: ∃n',n=n'+1:=by
   cases n with
   | zero=>exact absurd rfl hn
   | succ n'=>exact⟨n',rfl⟩
  obtain⟨res,hres⟩: ∃res,res=(P l (n'+1)).nameL t.line x0 (k+1):=⟨_,rfl⟩;rw[<-hres] at hn⊢
  have hT: ∀x k' b o,b≠r4->upd Hb r (some (rdO l k')) b=some o->upd (upd Hb r (some (rdO l k'))) r4 (some (.cells (dEx x) 27)) b=some o:=fun x k' b o hb h=>by rw[Ao _ _ _ _ hb];exact h
  obtain⟨I,hI⟩: ∃I:Nat×Ex×Nat->(Nat->DVal)->Ac->Prop,∀s env heap,I s env heap↔(env 0= .optr r 0/\env 2= .optr r2 0/\env 3= .optr r3 0/\env 4= .optr r4 0/\s.2.2<=l.length/\s.1<=n'/\res=(P l (s.1+1)).nameL t.line s.2.1 s.2.2/\heap=upd (upd Hb r (some (rdO l s.2.2))) r4 (some (.cells (dEx s.2.1) 27))):=⟨_,fun _ _ _=>Iff.rfl⟩;have hat0:RAt r l (k+1) Hb (upd Hb r4 (some (.cells [.int .u8 3, .int .u8 0, .int .i64 0, .str t.text, .nilSlice, .nilSlice, .int .i64 t.line, .int .i64 0, .int .i64 0] 27))):=(RAt.refl hab.get).own hr4 q4 _;refine Bt4.runG I (fun s=>s.1) (n',x0,k+1) ⟨_,upd (upd Hb r (some (rdO l (k+1)))) r4 (some (.cells (dEx x0) 27))⟩ (Ni.cell (Aa _ _ _) hat0 ?_) ((hI _ _ _).2 ?_) ?_
  ·rw[hx0];exact Ek.exD (Cq9 hat0 (Aa _ _ _)) (.exs0D (Cq9 hat0 (Aa _ _ _))) (.as0D (Cq9 hat0 (Aa _ _ _)))
  ·simp(disch:=omega) only[go_sem,↓reduceIte]
  ·rintro⟨m,x,k1⟩ env heap hi';obtain⟨e0,e2,e3,e4,hk1',hm,hr',hh⟩:=(hI _ _ _).1 hi';dsimp only at hk1' hm hr' hh;have eP:(P l (m+1)).nameL t.line x k1=if isW l k1 [Lb,Wm] then(P l m).nameL t.line (.mk 5 0 0 [] [x] [] t.line 0 0) (k1+2) else if isW l k1 [Lb] then Fp l (k1+1) fun s k=>(P l m).nameL t.line (.mk 4 0 0 s [x] [] t.line 0 0) k
     else if isW l k1 [Ce] then((P l m).arg (k1+1)).then fun a k=>((P l m).argsL [a] k).then fun xs k=>must l Cp k fun k=>(P l m).nameL t.line (.mk 7 0 0 [] [x] xs t.line 0 0) k
     else if isW l k1 [Ga,Ce] then((P l m).paren (k1+1)).then fun y k=>(P l m).nameL t.line (.mk 8 0 0 [] [x,y] [] t.line 0 0) k
     else if isW l k1 [Ga] then Fp l (k1+1) fun s k=>(P l m).nameL t.line (.mk 6 0 0 s [x] [] t.line 0 0) k else .ok x k1:=rfl
   rw[eP] at hr';have hat:RAt r l k1 Hb heap:=by rw[hh];exact((RAt.refl hab.get).set k1).own hr4 q4 _
   have h4:heap r4=some (.cells (dEx x) 27):=by rw[hh];exact Aa _ _ _
   have h3:heap r3=some (.cells [.int .u8 t.kind,dI t.line, .str t.text,dI t.n] 31):=hat _ _ (by rw[Ao _ _ _ _ q3];exact gb3);have hlx:=Ah x;simp(disch:=omega) only[go_sem,↓reduceIte,e0,e2,e3,e4,h4,h3];rw[Ah7 hlx];simp(disch:=omega) only[go_sem,↓reduceIte,e0,e2,e3,e4,h4,h3];intro q hq0;dsimp only at hq0;have p3:r3≠q:=Ae hq0 h3;have p4:r4≠q:=Ae hq0 h4;have pr:r≠q:=Ae hq0 hat.get;have hbq:Hb q=none:=hat.lo hq0;simp(disch:=omega) only[go_sem,↓reduceIte,e0,e2,e3,e4,h4,h3,p3,p4];intro r5 hr5;dsimp only at hr5;obtain⟨m5,m5',hr5'⟩:=De7.1 hr5;have p54:r4≠r5:=Ae hr5' h4;have p5r:r≠r5:=Ae hr5' hat.get;have hb5:Hb r5=none:=hat.lo hr5';simp(disch:=omega) only[go_sem,↓reduceIte,e0,e2,e3,e4,h4,h3,p3,p4];have m5q:q≠r5:=by first | exact m5 | exact m5'
   obtain⟨K1,hK1⟩: ∃K,K=upd (upd heap q (some (.cells (dEx x) 27))) r5 (some (.cells [.int .u8 0, .int .u8 0, .int .i64 0, .str [], .oslice 9 q 0 1 1, .nilSlice, .int .i64 t.line, .int .i64 0, .int .i64 0] 27)):=⟨_,rfl⟩;rw[<-hK1];have ha1:RAt r l k1 Hb K1:=by rw[hK1];exact(hat.new hq0 _).new hr5 _
   have g15:K1 r5=some (.cells [.int .u8 0, .int .u8 0, .int .i64 0, .str [], .oslice 9 q 0 1 1, .nilSlice, .int .i64 t.line, .int .i64 0, .int .i64 0] 27):=by rw[hK1];exact Aa _ _ _
   have g1q:K1 q=some (.cells (dEx x) 27):=by rw[hK1];exact Ag (Aa _ _ _) m5q
   have g14:K1 r4=some (.cells (dEx x) 27):=by rw[hK1];exact Ag (Ag h4 p4) p54
   have g12':K1 r2=some (.cells [.int .u8 0, .int .u8 0, .int .i64 0, .str [], .nilSlice, .nilSlice, .int .i64 0, .int .i64 0, .int .i64 0] 27):=ha1 _ _ (by rw[Ao _ _ _ _ q2];exact gb2);intro w1 hw1;dsimp only at hw1;simp(disch:=omega) only[go_sem,↓reduceIte];refine(Dp6 hG K1 w1 Lb Wm hw1 ha1.get (by omega) (by omega)).mono ?_;rintro _ H2 ⟨rfl,hH2⟩;by_cases b1:isW l k1 [Lb,Wm]=true
   ·rw[if_pos b1] at hH2 hr';have hk2:=Am b1 hk1';rw[show [Lb,Wm].length=2 from rfl] at hk2;have haK:RAt r l (k1+2) Hb H2:=by rw[hH2];exact ha1.set _
    have hH25:H2 r5=some (.cells [.int .u8 0, .int .u8 0, .int .i64 0, .str [], .oslice 9 q 0 1 1, .nilSlice, .int .i64 t.line, .int .i64 0, .int .i64 0] 27):=by rw[hH2];exact Ag g15 p5r.symm
    have hH24:H2 r4=some (.cells (dEx x) 27):=by rw[hH2];exact Ag g14 q4
    have hH2q:H2 q=some (.cells (dEx x) 27):=by rw[hH2];exact Ag g1q pr.symm
    have hH22:H2 r2=some (.cells [.int .u8 0, .int .u8 0, .int .i64 0, .str [], .nilSlice, .nilSlice, .int .i64 0, .int .i64 0, .int .i64 0] 27):=by rw[hH2];exact Ag g12' q2
    obtain⟨m',rfl⟩: ∃m',m=m'+1:=by
     cases m with
     | zero=>rw[hr'] at hn;exact absurd rfl hn
     | succ m'=>exact⟨m',rfl⟩
    simp(disch:=omega) only[go_sem,↓reduceIte,b1,e0,e2,e3,e4,hH25,hH24,p54];have hatf:=fun z z'=>(haK.own hb5 p5r.symm z).own hr4 q4 z';have hqf:=fun z z'=>Ag (y:=z') (Ag (y:=z) hH2q m5q) p4.symm;refine⟨(m', .mk 5 0 0 [] [x] [] t.line 0 0,k1+2),_,Ni.cell (Aa _ _ _) (hatf _ _) (Pn (a:= []) (hatf _ _) (Aa _ _ _) hbq pr.symm p4.symm (hqf _ _) (fun T hd=> .as0D hd)),(hI _ _ _).2 ?_,by dsimp only;omega⟩;simp(disch:=omega) only[go_sem,↓reduceIte,e0,e2,e3,e4]
   ·have b1':isW l k1 [Lb,Wm]=false:=by simpa using b1
    rw[if_neg b1,Be ha1.get] at hH2;rw[if_neg b1] at hr';rw[hH2];simp(disch:=omega) only[go_sem,↓reduceIte,b1',e0,e2,e3,e4];intro w2 hw2;dsimp only at hw2;simp(disch:=omega) only[go_sem,↓reduceIte];refine(Rv hG K1 w2 Lb hw2 ha1.get (by omega) (by omega)).mono ?_;rintro _ H3 ⟨rfl,hH3⟩;by_cases b2:isW l k1 [Lb]=true
    ·rw[if_pos b2] at hH3 hr';have hk2:=Am b2 hk1';rw[List.length_singleton] at hk2;have haK:RAt r l (k1+1) Hb H3:=by rw[hH3];exact ha1.set _
     have hH35:H3 r5=some (.cells [.int .u8 0, .int .u8 0, .int .i64 0, .str [], .oslice 9 q 0 1 1, .nilSlice, .int .i64 t.line, .int .i64 0, .int .i64 0] 27):=by rw[hH3];exact Ag g15 p5r.symm
     have hH34:H3 r4=some (.cells (dEx x) 27):=by rw[hH3];exact Ag g14 q4
     have hH3q:H3 q=some (.cells (dEx x) 27):=by rw[hH3];exact Ag g1q pr.symm
     have hH32:H3 r2=some (.cells [.int .u8 0, .int .u8 0, .int .i64 0, .str [], .nilSlice, .nilSlice, .int .i64 0, .int .i64 0, .int .i64 0] 27):=by rw[hH3];exact Ag g12' q2
     simp(disch:=omega) only[go_sem,↓reduceIte,b2,e0,e2,e3,e4];have hbr: ∃t2,t2=tk l (k1+1):=⟨_,rfl⟩;obtain⟨t2,ht2⟩:=hbr;unfold Fp at hr';refine(Wy G H3 1 haK.get (by omega) (by omega)).mono ?_;intro e1 H9 hq9;rw[<-ht2] at hq9 hr';by_cases c9:t2.kind=1
     ·rw[if_pos c9] at hq9 hr';obtain⟨rfl,hH9⟩:=hq9;have hk9:k1+2<=l.length:=Jj (by rw[<-ht2,c9];decide);have haL:RAt r l (k1+2) Hb H9:=by rw[hH9];exact haK.set _
      have hH95:H9 r5=some (.cells [.int .u8 0, .int .u8 0, .int .i64 0, .str [], .oslice 9 q 0 1 1, .nilSlice, .int .i64 t.line, .int .i64 0, .int .i64 0] 27):=by rw[hH9];exact Ag hH35 p5r.symm
      have hH94:H9 r4=some (.cells (dEx x) 27):=by rw[hH9];exact Ag hH34 q4
      have hH9q:H9 q=some (.cells (dEx x) 27):=by rw[hH9];exact Ag hH3q pr.symm
      obtain⟨m',rfl⟩: ∃m',m=m'+1:=by
       cases m with
       | zero=>rw[hr'] at hn;exact absurd rfl hn
       | succ m'=>exact⟨m',rfl⟩
      simp(disch:=omega) only[go_sem,↓reduceIte,Ec,e0,e2,e3,e4,hH95,hH94,p54];have hatf:=fun z z'=>(haL.own hb5 p5r.symm z).own hr4 q4 z';have hqf:=fun z z'=>Ag (y:=z') (Ag (y:=z) hH9q m5q) p4.symm;refine⟨(m', .mk 4 0 0 t2.text [x] [] t.line 0 0,k1+2),_,Ni.cell (Aa _ _ _) (hatf _ _) (Pn (a:= []) (hatf _ _) (Aa _ _ _) hbq pr.symm p4.symm (hqf _ _) (fun T hd=> .as0D hd)),(hI _ _ _).2 ?_,by dsimp only;omega⟩;simp(disch:=omega) only[go_sem,↓reduceIte,e0,e2,e3,e4]
     ·rw[if_neg c9] at hq9 hr';obtain⟨rfl,hH9⟩:=hq9;simp(disch:=omega) only[go_sem,↓reduceIte];rw[hr'];exact RAt.finP (by rw[hH9];exact RAt.up (haK.set _) hab) ⟨rfl,rfl⟩
    ·have b2':isW l k1 [Lb]=false:=by simpa using b2
     rw[if_neg b2,Be ha1.get] at hH3;rw[if_neg b2] at hr';rw[hH3];simp(disch:=omega) only[go_sem,↓reduceIte,b2',e0,e2,e3,e4];intro w3 hw3;dsimp only at hw3;simp(disch:=omega) only[go_sem,↓reduceIte];refine(Rv hG K1 w3 Ce hw3 ha1.get (by omega) (by omega)).mono ?_;rintro _ H4 ⟨rfl,hH4⟩;by_cases b3:isW l k1 [Ce]=true
     ·rw[if_pos b3] at hH4 hr';have hk2:=Am b3 hk1';rw[List.length_singleton] at hk2;have haK:RAt r l (k1+1) Hb H4:=by rw[hH4];exact ha1.set _
      have hH45:H4 r5=some (.cells [.int .u8 0, .int .u8 0, .int .i64 0, .str [], .oslice 9 q 0 1 1, .nilSlice, .int .i64 t.line, .int .i64 0, .int .i64 0] 27):=by rw[hH4];exact Ag g15 p5r.symm
      have hH44:H4 r4=some (.cells (dEx x) 27):=by rw[hH4];exact Ag g14 q4
      have hH4q:H4 q=some (.cells (dEx x) 27):=by rw[hH4];exact Ag g1q pr.symm
      have hH42:H4 r2=some (.cells [.int .u8 0, .int .u8 0, .int .i64 0, .str [], .nilSlice, .nilSlice, .int .i64 0, .int .i64 0, .int .i64 0] 27):=by rw[hH4];exact Ag g12' q2
      simp(disch:=omega) only[go_sem,↓reduceIte,b3,e0,e2,e3,e4];have hth: ∀(a:Res As) (f:As->Nat->Res (List As)) (g:List As->Nat->Res Ex),(a.then fun x k=>(f x k).then g)=(a.then f).then g:=fun a f g=>by cases a<;>rfl
      rw[hth] at hr';have hargs:=Ao9 hG hl m (fun i hi=>hga i (by omega)) H4 (k1+1) haK.get hk2;dsimp only at hargs;cases hcc:(((P l m).arg (k1+1)).then fun a k=>(P l m).argsL [a] k) with
      | bot=>rw[hcc,Eb] at hr';rw[hr'] at hn;exact absurd rfl hn
      | fail k3=>
       rw[hcc] at hargs;rw[hcc,Dr] at hr';refine(hargs (Aw (by simp))).mono ?_;rintro e H7 ⟨rfl,hH7⟩;simp(disch:=omega) only[go_sem,↓reduceIte];rw[hr'];exact RAt.finP (by rw[hH7];exact RAt.up (haK.set _) hab) ⟨rfl,rfl⟩
      | ok xs k3=>
       rw[hcc] at hargs;rw[hcc,En] at hr';have hk3:k3<=l.length:=by
        have:=Bh ((Bn (l:=l) m).arg (k1+1) hk2) (fun a j h1 h2=>Cs ((Bn (l:=l) m).argsL [a] j h2) h1);rw[hcc] at this;exact this.2
       refine(hargs (Aw (by simp))).mono ?_;rintro e H7 ⟨rfl,hH7⟩;have ha7:RAt r l k3 Hb H7:=by rw[hH7];exact haK.set _
       have hH75:H7 r5=some (.cells [.int .u8 0, .int .u8 0, .int .i64 0, .str [], .oslice 9 q 0 1 1, .nilSlice, .int .i64 t.line, .int .i64 0, .int .i64 0] 27):=by rw[hH7];exact Ag hH45 p5r.symm
       have hH74:H7 r4=some (.cells (dEx x) 27):=by rw[hH7];exact Ag hH44 q4
       have hH7q:H7 q=some (.cells (dEx x) 27):=by rw[hH7];exact Ag hH4q pr.symm
       simp(disch:=omega) only[go_sem,↓reduceIte,dAl,e0,e2,e3,e4,hH75];obtain⟨H8,hH8⟩: ∃K,K=upd H7 r5 (some (.cells [.int .u8 7, .int .u8 0, .int .i64 0, .str [], .oslice 9 q 0 1 1, .vslice (xs.flatMap dAs) xs.length, .int .i64 t.line, .int .i64 0, .int .i64 0] 27)):=⟨_,rfl⟩;rw[<-hH8];have ha8:RAt r l k3 Hb H8:=by rw[hH8];exact ha7.own hb5 p5r.symm _
       have g85:H8 r5=some (.cells [.int .u8 7, .int .u8 0, .int .i64 0, .str [], .oslice 9 q 0 1 1, .vslice (xs.flatMap dAs) xs.length, .int .i64 t.line, .int .i64 0, .int .i64 0] 27):=by rw[hH8];exact Aa _ _ _
       have g84:H8 r4=some (.cells (dEx x) 27):=by rw[hH8];exact Ag hH74 p54
       have g8q:H8 q=some (.cells (dEx x) 27):=by rw[hH8];exact Ag hH7q m5q
       refine(Gj hG H8 Cp ha8.get (by omega) (by omega)).mono ?_;intro e1 H9 hq9;unfold must at hq9 hr';by_cases c9:isW l k3 [Cp]=true
       ·rw[if_pos c9] at hq9 hr';obtain⟨rfl,hH9⟩:=hq9;have hk9:=Am c9 hk3;rw[List.length_singleton] at hk9;have haL:RAt r l (k3+1) Hb H9:=by rw[hH9];exact ha8.set _
        have g95:H9 r5=some (.cells [.int .u8 7, .int .u8 0, .int .i64 0, .str [], .oslice 9 q 0 1 1, .vslice (xs.flatMap dAs) xs.length, .int .i64 t.line, .int .i64 0, .int .i64 0] 27):=by rw[hH9];exact Ag g85 p5r.symm
        have g94:H9 r4=some (.cells (dEx x) 27):=by rw[hH9];exact Ag g84 q4
        have g9q:H9 q=some (.cells (dEx x) 27):=by rw[hH9];exact Ag g8q pr.symm
        dsimp only at hr';obtain⟨m',rfl⟩: ∃m',m=m'+1:=by
         cases m with
         | zero=>rw[hr'] at hn;exact absurd rfl hn
         | succ m'=>exact⟨m',rfl⟩
        simp(disch:=omega) only[go_sem,↓reduceIte,e0,e2,e3,e4,g95,g94,p54];have hatf:=fun z'=>haL.own hr4 q4 z';have hqf:=fun z'=>Ag (y:=z') g9q p4.symm;refine⟨(m', .mk 7 0 0 [] [x] xs t.line 0 0,k3+1),_,Ni.cell (Aa _ _ _) (hatf _) (Pn (a:=xs) (hatf _) (Aa _ _ _) hbq pr.symm p4.symm (hqf _) (fun T hd=>Fc.keepD hd _)),(hI _ _ _).2 ?_,by dsimp only;omega⟩;simp(disch:=omega) only[go_sem,↓reduceIte,e0,e2,e3,e4]
       ·rw[if_neg c9] at hq9 hr';obtain⟨rfl,hH9⟩:=hq9;simp(disch:=omega) only[go_sem,↓reduceIte];rw[hr'];exact RAt.finP (by rw[hH9];exact RAt.up (ha8.set _) hab) ⟨rfl,rfl⟩
     ·have b3':isW l k1 [Ce]=false:=by simpa using b3
      rw[if_neg b3,Be ha1.get] at hH4;rw[if_neg b3] at hr';rw[hH4];simp(disch:=omega) only[go_sem,↓reduceIte,b3',e0,e2,e3,e4];intro w4 hw4;dsimp only at hw4;simp(disch:=omega) only[go_sem,↓reduceIte];refine(is2 hG K1 w4 Ga Ce hw4 ha1.get (by omega) (by omega)).mono ?_;rintro _ H5 ⟨rfl,hH5⟩;rw[hH5];by_cases b4:isW l k1 [Ga,Ce]=true
      ·rw[if_pos b4] at hr';have hk2:=Am b4 hk1';rw[show [Ga,Ce].length=2 from rfl] at hk2;have gr:=ha1.get;unfold rdO at gr;have hw1':IntKind.i64.wrap ((k1:Int)+1)=((k1+1:Nat):Int):=by rw[IntKind.wrap_i64];omega
       simp(disch:=omega) only[go_sem,↓reduceIte,b4,e0,e2,e3,e4,gr,hw1'];obtain⟨H6,hH6⟩: ∃H6,H6=upd K1 r (some (rdO l (k1+1))):=⟨_,rfl⟩;have hH6':=hH6;unfold rdO at hH6';rw[<-hH6'];have haK:RAt r l (k1+1) Hb H6:=by rw[hH6];exact ha1.set _
       have hH65:H6 r5=some (.cells [.int .u8 0, .int .u8 0, .int .i64 0, .str [], .oslice 9 q 0 1 1, .nilSlice, .int .i64 t.line, .int .i64 0, .int .i64 0] 27):=by rw[hH6];exact Ag g15 p5r.symm
       have hH64:H6 r4=some (.cells (dEx x) 27):=by rw[hH6];exact Ag g14 q4
       have hH6q:H6 q=some (.cells (dEx x) 27):=by rw[hH6];exact Ag g1q pr.symm
       have hH62:H6 r2=some (.cells [.int .u8 0, .int .u8 0, .int .i64 0, .str [], .nilSlice, .nilSlice, .int .i64 0, .int .i64 0, .int .i64 0] 27):=by rw[hH6];exact Ag g12' q2
       refine Aj (by kernel_rfl) (.take 0 (.take 1 (.take 2 (.take 6 (.go 3 [1] (.go 4 [1] (.go 5 [] (.go 7 [] (.take 8 (.go 9 [] .done)))))))))) (by kernel_rfl) ?_;simp(disch:=omega) only[go_sem,↓reduceIte,e0,e2,e3,e4,hH65];have hpp:=hgp m (by omega) H6 (k1+1) haK.get (by omega);have had:=(Bn (l:=l) m).paren (k1+1) (by omega);dsimp only at hpp;cases hcc:(P l m).paren (k1+1) with
       | bot=>rw[hcc,Eb] at hr';rw[hr'] at hn;exact absurd rfl hn
       | fail k3=>
        rw[hcc] at hpp;rw[hcc,Dr] at hr';refine(hpp (Aw (by simp))).mono ?_;rintro e H7 ⟨rfl,hH7⟩;simp(disch:=omega) only[go_sem,↓reduceIte];rw[hr'];exact RAt.finP (by rw[hH7];exact RAt.up (haK.set _) hab) ⟨rfl,rfl⟩
       | ok y k3=>
        rw[hcc] at hpp had;rw[hcc,En] at hr';dsimp only[Adv] at had;refine(hpp (Aw (by simp))).mono ?_;rintro e H7 ⟨rfl,hH7⟩;have ha7:RAt r l k3 Hb H7:=by rw[hH7];exact haK.set _
        have hH75:H7 r5=some (.cells [.int .u8 0, .int .u8 0, .int .i64 0, .str [], .oslice 9 q 0 1 1, .nilSlice, .int .i64 t.line, .int .i64 0, .int .i64 0] 27):=by rw[hH7];exact Ag hH65 p5r.symm
        have hH74:H7 r4=some (.cells (dEx x) 27):=by rw[hH7];exact Ag hH64 q4
        have hH7q:H7 q=some (.cells (dEx x) 27):=by rw[hH7];exact Ag hH6q pr.symm
        have hly:=Ah y;simp(disch:=omega) only[go_sem,↓reduceIte,dE,e0,e2,e3,e4,hH65,hH75];rw[Ah7 hly];simp(disch:=omega) only[go_sem,↓reduceIte,e0,e2,e3,e4,hH65,hH75];intro r8 hr8;dsimp only at hr8;have p8:q≠r8:=Ae hr8 hH7q;have p85:r5≠r8:=Ae hr8 hH75;simp(disch:=omega) only[go_sem,↓reduceIte,e0,e2,e3,e4,hH65,hH75,p85];rw[if_neg p8,hH7q];obtain⟨Bq,hBq⟩: ∃K,K=upd H7 q none:=⟨_,rfl⟩;have hsB:Sub Bq H7:=by
         rw[hBq];intro b o hb;simp only[upd] at hb;split at hb
         ·cases hb
         ·exact hb
        have haB:RAt r l k3 Hb Bq:=by rw[hBq];exact ha7.own hbq pr.symm none
        have hB5:Bq r5=some (.cells [.int .u8 0, .int .u8 0, .int .i64 0, .str [], .oslice 9 q 0 1 1, .nilSlice, .int .i64 t.line, .int .i64 0, .int .i64 0] 27):=by rw[hBq];exact Ag hH75 m5q.symm
        have hB4:Bq r4=some (.cells (dEx x) 27):=by rw[hBq];exact Ag hH74 p4
        have hv0:Dj Bq 27 9 1 (dEx x) (.oslice 9 q 0 1 1) H7:= .inr ⟨q,by rw[hBq];exact Aa _ _ _,by rw[hlx],rfl,hH7q,hsB⟩;refine Dj.appendO (m:=1) (hv0.new hr8 _) hly (by omega) fun v2 H10 hv2=> ?_;have g105:=hv2.keep hB5;have g104:=hv2.keep hB4;obtain⟨j1,j2⟩:=hv2.cell1;obtain⟨m',rfl⟩: ∃m',m=m'+1:=by
         cases m with
         | zero=>rw[hr'] at hn;exact absurd rfl hn
         | succ m'=>exact⟨m',rfl⟩
        simp(disch:=omega) only[go_sem,↓reduceIte,e0,e2,e3,e4,g105,g104,p54,j1,j2];have hv3:=fun z z'=>(hv2.at hB5 (some z)).at (r:=r4) (by rw[Ao _ _ _ _ p54];exact hB4) (some z');have haf:=fun z z'=>(haB.own hb5 p5r.symm (some z)).own hr4 q4 (some z');refine⟨(m', .mk 8 0 0 [] [x,y] [] t.line 0 0,k3),_,Ni.cell (Aa _ _ _) (Sub.trans (haf _ _) (hv3 _ _).sub) (Bq2 (Sub.trans (haf _ _) (hv3 _ _).sub) (Aa _ _ _) (haf _ _) (by rw[Aa];simp) (by rw[show [x,y].flatMap dEx=dEx x++dEx y by simp];exact hv3 _ _)),(hI _ _ _).2 ?_,by dsimp only;omega⟩;simp(disch:=omega) only[go_sem,↓reduceIte,e0,e2,e3,e4]
      ·have b4':isW l k1 [Ga,Ce]=false:=by simpa using b4
       rw[if_neg b4] at hr';simp(disch:=omega) only[go_sem,↓reduceIte,b4',e0,e2,e3,e4];intro w5 hw5;dsimp only at hw5;simp(disch:=omega) only[go_sem,↓reduceIte];refine(Rv hG K1 w5 Ga hw5 ha1.get (by omega) (by omega)).mono ?_;rintro _ H6 ⟨rfl,hH6⟩;by_cases b5:isW l k1 [Ga]=true
       ·rw[if_pos b5] at hH6 hr';have hk2:=Am b5 hk1';rw[List.length_singleton] at hk2;have haK:RAt r l (k1+1) Hb H6:=by rw[hH6];exact ha1.set _
        have hH65:H6 r5=some (.cells [.int .u8 0, .int .u8 0, .int .i64 0, .str [], .oslice 9 q 0 1 1, .nilSlice, .int .i64 t.line, .int .i64 0, .int .i64 0] 27):=by rw[hH6];exact Ag g15 p5r.symm
        have hH64:H6 r4=some (.cells (dEx x) 27):=by rw[hH6];exact Ag g14 q4
        have hH6q:H6 q=some (.cells (dEx x) 27):=by rw[hH6];exact Ag g1q pr.symm
        have hH62:H6 r2=some (.cells [.int .u8 0, .int .u8 0, .int .i64 0, .str [], .nilSlice, .nilSlice, .int .i64 0, .int .i64 0, .int .i64 0] 27):=by rw[hH6];exact Ag g12' q2
        simp(disch:=omega) only[go_sem,↓reduceIte,b5,e0,e2,e3,e4];have hbr: ∃t2,t2=tk l (k1+1):=⟨_,rfl⟩;obtain⟨t2,ht2⟩:=hbr;unfold Fp at hr';refine(Wy G H6 1 haK.get (by omega) (by omega)).mono ?_;intro e1 H9 hq9;rw[<-ht2] at hq9 hr';by_cases c9:t2.kind=1
        ·rw[if_pos c9] at hq9 hr';obtain⟨rfl,hH9⟩:=hq9;have hk9:k1+2<=l.length:=Jj (by rw[<-ht2,c9];decide);have haL:RAt r l (k1+2) Hb H9:=by rw[hH9];exact haK.set _
         have hH95:H9 r5=some (.cells [.int .u8 0, .int .u8 0, .int .i64 0, .str [], .oslice 9 q 0 1 1, .nilSlice, .int .i64 t.line, .int .i64 0, .int .i64 0] 27):=by rw[hH9];exact Ag hH65 p5r.symm
         have hH94:H9 r4=some (.cells (dEx x) 27):=by rw[hH9];exact Ag hH64 q4
         have hH9q:H9 q=some (.cells (dEx x) 27):=by rw[hH9];exact Ag hH6q pr.symm
         obtain⟨m',rfl⟩: ∃m',m=m'+1:=by
          cases m with
          | zero=>rw[hr'] at hn;exact absurd rfl hn
          | succ m'=>exact⟨m',rfl⟩
         simp(disch:=omega) only[go_sem,↓reduceIte,Ec,e0,e2,e3,e4,hH95,hH94,p54];have hatf:=fun z z'=>(haL.own hb5 p5r.symm z).own hr4 q4 z';have hqf:=fun z z'=>Ag (y:=z') (Ag (y:=z) hH9q m5q) p4.symm;refine⟨(m', .mk 6 0 0 t2.text [x] [] t.line 0 0,k1+2),_,Ni.cell (Aa _ _ _) (hatf _ _) (Pn (a:= []) (hatf _ _) (Aa _ _ _) hbq pr.symm p4.symm (hqf _ _) (fun T hd=> .as0D hd)),(hI _ _ _).2 ?_,by dsimp only;omega⟩;simp(disch:=omega) only[go_sem,↓reduceIte,e0,e2,e3,e4]
        ·rw[if_neg c9] at hq9 hr';obtain⟨rfl,hH9⟩:=hq9;simp(disch:=omega) only[go_sem,↓reduceIte];rw[hr'];exact RAt.finP (by rw[hH9];exact RAt.up (haK.set _) hab) ⟨rfl,rfl⟩
       ·have b5':isW l k1 [Ga]=false:=by simpa using b5
        rw[if_neg b5,Be ha1.get] at hH6;rw[if_neg b5] at hr';rw[hH6];have hox:=Al x;simp(disch:=omega) only[go_sem,↓reduceIte,b5',e0,e2,e3,e4,g14,g12',hlx,hox];rw[hr'];exact RAt.fin ((RAt.up ha1 hab).own hr2 q2 _) ⟨rfl,rfl⟩
 ·rw[if_neg c] at hn hq⊢
  obtain⟨rfl,hH1⟩:=hq;simp(disch:=omega) only[go_sem,↓reduceIte];exact RAt.finP (by rw[hH1];exact ha.set k) ⟨rfl,rfl⟩
end
end Go.Dl

-- Chapter 3: the package's reader: all its functions together.
namespace Go.Dl
open Go Go.Proofs
set_option maxRecDepth 100000
section
variable {G:Nat->DVal} {r:Nat} {l:List Tok}
structure RdAll (G:Nat->DVal) (l:List Tok) (r:Nat) (m:Nat):Prop where
 expr:RdC Tryz.prog G l 29 r fun k=>((P l m).expr k).mp dE
 rest: ∀x,Bq0 Tryz.prog G l 76 r (.agg (dEx x)) fun k=>((P l m).rest x k).mp dE
 relation: ∀x,Bq0 Tryz.prog G l 31 r (.agg (dEx x)) fun k=>((P l m).relation x k).mp dE
 simple:RdC Tryz.prog G l 32 r fun k=>((P l m).simple k).mp dE
 term:RdC Tryz.prog G l 33 r fun k=>((P l m).term k).mp dE
 factor:RdC Tryz.prog G l 34 r fun k=>((P l m).factor k).mp dE
 primary:RdC Tryz.prog G l 35 r fun k=>((P l m).primary k).mp dE
 paren:RdC Tryz.prog G l 85 r fun k=>((P l m).paren k).mp dE
 assoc:RdC Tryz.prog G l 132 r fun k=>((P l m).assoc k).mp dA
 choice:RdC Tryz.prog G l 120 r fun k=>((P l m).choice k).mp dC
 arg:RdC Tryz.prog G l 116 r fun k=>((P l m).arg k).mp dA
 name:RdC Tryz.prog G l 36 r fun k=>((P l m).name k).mp dE
theorem Dl9 (hG:GX G) (hl:l.length<=800000): ∀n m,m<=n->RdAll G l r m:=by
 intro n
 induction n with
 | zero=>
  intro m hm;have:m=0:=by omega
  subst this;constructor<;>intros<;>intro H k _ _ hn<;>exact absurd rfl hn
 | succ n ih=>
  intro m hm;rcases Nat.lt_or_ge m (n+1) with h | h
  ·exact ih m (by omega)
  ·have:m=n+1:=by omega
   subst this;have h0:=ih n (Nat.le_refl _);exact⟨Cf3 hl _ (Bn n) h0.simple h0.rest,Cf5 hG hl n (fun m hm=>(ih m hm).simple) (fun m hm=>(ih m hm).relation),Al3 hG hl _ (Bn n) h0.simple,
    Bf3 hG hl n (fun m hm=>(ih m hm).term),Cf2 hG hl n (fun m hm=>(ih m hm).factor),Bf1 hG hl _ (Bn n) h0.primary,Au7 hG hl _ h0.paren h0.name,
    Bq1 hG hl n h0.expr (fun m hm=>(ih m hm).assoc),Au9 hG hl n (fun m hm=>(ih m hm).choice) h0.expr,Bf4 hG hl _ (Bn n) h0.simple h0.rest,Al4 hG hl _ h0.expr,
    Cf7 hG hl n (fun m hm=>(ih m hm).arg) (fun m hm=>(ih m hm).paren)⟩
theorem Bw1 (hG:GX G) (hl:l.length<=800000) (m:Nat):RdAll G l r m:=Dl9 hG hl m m (Nat.le_refl _)
end
end Go.Dl

-- Chapter 3: the package's read: what a panic of reading told becomes the error.
namespace Go.Dl
open Go Go.Proofs
set_option maxRecDepth 100000
section
variable {G:Nat->DVal} {l:List Tok}
def Cr0:Res Ex->DVal
 | .ok x k=> .tuple [dE x,dI k,dI 0]
 | .fail k=> .tuple [dE ex0,dI k,dI 30]
 | .bot=> .nilPtr
set_option maxHeartbeats 4000000 in
theorem Bq3 (hG:GX G) (H:Ac) (hl:l.length<=800000) (g:FuncId) (res:Res Ex) (hn:res≠ .bot) (hf: ∀r H,H r=some (rdO l 0)->Ai Tryz.prog G g [.optr r 0] H (RdR r l H (res.mp dE))):
  Ai Tryz.prog G 37 [Cc l, .func (.func g) [] []] H (Au (Cr0 res) H):=by
 refine Qz Tryz.func37 Tryz.func88 Tryz.call37 Tryz.call88 rfl rfl (by kernel_rfl) (by kernel_rfl) rfl ?_;simp(disch:=omega) only[go_sem,↓reduceIte];intro r4 hr4;dsimp only at hr4;simp(disch:=omega) only[go_sem,↓reduceIte];intro r5 hr5;dsimp only at hr5;obtain⟨m45,m54,hr5'⟩:=De7.1 hr5;simp(disch:=omega) only[go_sem,↓reduceIte];intro r6 hr6;dsimp only at hr6;have a5:upd (upd H r4 (some (.cells [.int .u8 0, .int .u8 0, .int .i64 0, .str [], .nilSlice, .nilSlice, .int .i64 0, .int .i64 0, .int .i64 0] 27))) r5 (some (.cells [dI 0] 3)) r5=some (.cells [dI 0] 3):=Aa _ _ _;have a4:upd (upd H r4 (some (.cells [.int .u8 0, .int .u8 0, .int .i64 0, .str [], .nilSlice, .nilSlice, .int .i64 0, .int .i64 0, .int .i64 0] 27))) r5 (some (.cells [dI 0] 3)) r4=some (.cells [.int .u8 0, .int .u8 0, .int .i64 0, .str [], .nilSlice, .nilSlice, .int .i64 0, .int .i64 0, .int .i64 0] 27):=Ag (Aa _ _ _) (Ae hr5 (Aa _ _ _));have n56:r5≠r6:=Ae hr6 a5;have n46:r4≠r6:=Ae hr6 a4;have n45:r4≠r5:=Ae hr5 (Aa _ _ _);have hdc:(Cc l).cells= [Cc l]:=rfl;simp(disch:=omega) only[go_sem,↓reduceIte,hdc,List.length_cons,List.length_nil,List.drop_succ_cons,List.drop_zero,List.cons_append,List.nil_append];intro r7 hr7;dsimp only at hr7;have n47:r4≠r7:=Ae hr7 (Ag a4 n46);have n57:r5≠r7:=Ae hr7 (Ag a5 n56);have n67:r6≠r7:=Ae hr7 (Aa _ _ _);have hr6':H r6=none:=((((Sub.refl H).new hr4 _).new hr5 _).lo hr6);have hr7':H r7=none:=(((((Sub.refl H).new hr4 _).new hr5 _).new hr6 _).lo hr7);have n74:=n47.symm;have n75:=n57.symm;have n76:=n67.symm;have n64:=n46.symm;have n65:=n56.symm;simp(disch:=omega) only[go_sem,↓reduceIte];refine(hf r7 _ (Aa _ _ _)).mono ?_;intro e H5 hq;have g4: ∀z,upd (upd (upd (upd (upd H r4 (some (.cells [.int .u8 0, .int .u8 0, .int .i64 0, .str [], .nilSlice, .nilSlice, .int .i64 0, .int .i64 0, .int .i64 0] 27))) r5 (some (.cells [dI 0] 3))) r6 (some (.cells [dI 0] 36))) r7 (some (rdO l 0))) r7 z r4=some (.cells [.int .u8 0, .int .u8 0, .int .i64 0, .str [], .nilSlice, .nilSlice, .int .i64 0, .int .i64 0, .int .i64 0] 27):=fun z=>by
  rw[Ao _ _ _ _ n47,Ao _ _ _ _ n47,Ao _ _ _ _ n46];exact a4
 cases hres:res with
 | bot=>exact absurd hres hn
 | ok x k=>
  rw[hres] at hq;obtain⟨rfl,hH5⟩:=hq;have hlx:=Ah x;have hox:=Al x;have g54:H5 r4=some (.cells [.int .u8 0, .int .u8 0, .int .i64 0, .str [], .nilSlice, .nilSlice, .int .i64 0, .int .i64 0, .int .i64 0] 27):=by rw[hH5];exact g4 _
  have g55:H5 r5=some (.cells [dI 0] 3):=by rw[hH5,Ao _ _ _ _ n57,Ao _ _ _ _ n57,Ao _ _ _ _ n56];exact a5
  have g56:H5 r6=some (.cells [dI 0] 36):=by rw[hH5,Ao _ _ _ _ n67,Ao _ _ _ _ n67];exact Aa _ _ _
  have g57:H5 r7=some (.cells [Cc l,dI k] 106):=by rw[hH5];exact Aa _ _ _
  have hs5:Sub H H5:=by rw[hH5];exact((((((Sub.refl H).new hr4 _).new hr5 _).new hr6 _).new hr7 _).up hr7' _)
  simp(disch:=omega) only[go_sem,↓reduceIte,dE,g54,hlx,hox];refine Aj (by kernel_rfl) (.take 0 (.take 1 (.take 2 (.take 3 (.take 4 (.go 5 [4] (.go 6 [] (.go 7 [] .done)))))))) (by kernel_rfl) ?_;simp(disch:=omega) only[go_sem,↓reduceIte,g54,g55,g56,g57,n45,n46,n47,n56,n57,n67,m45,n74,n75,n76,n64,n65,hlx,hox];intro r8 hr8;dsimp only at hr8;obtain⟨K,hK⟩: ∃K,K=upd (upd (upd H5 r4 (some (.cells (dEx x) 27))) r5 (some (.cells [dI k] 3))) r6 (some (.cells [dI 0] 36)):=⟨_,rfl⟩;have hsK:Sub H K:=by rw[hK];exact((hs5.up hr4 _).up hr5' _).up hr6' _
  have k4:K r4=some (.cells (dEx x) 27):=by rw[hK];exact Ag (Ag (Aa _ _ _) n45) n46
  have k5:K r5=some (.cells [dI k] 3):=by rw[hK];exact Ag (Aa _ _ _) n56
  have k6:K r6=some (.cells [dI 0] 36):=by rw[hK];exact Aa _ _ _
  rw[<-hK] at hr8⊢
  have n48:r4≠r8:=Ae hr8 k4;have n58:r5≠r8:=Ae hr8 k5;have n68:r6≠r8:=Ae hr8 k6;simp(disch:=omega) only[go_sem,↓reduceIte,k4,k5,k6,n48,n58,n68,hlx,hox];exact Nu.sub (hsK.new hr8 _) (.refl ⟨rfl,rfl⟩)
 | fail k=>
  rw[hres] at hq;obtain⟨rfl,hH5⟩:=hq;have g54:H5 r4=some (.cells [.int .u8 0, .int .u8 0, .int .i64 0, .str [], .nilSlice, .nilSlice, .int .i64 0, .int .i64 0, .int .i64 0] 27):=by rw[hH5];exact g4 _
  have g55:H5 r5=some (.cells [dI 0] 3):=by rw[hH5,Ao _ _ _ _ n57,Ao _ _ _ _ n57,Ao _ _ _ _ n56];exact a5
  have g56:H5 r6=some (.cells [dI 0] 36):=by rw[hH5,Ao _ _ _ _ n67,Ao _ _ _ _ n67];exact Aa _ _ _
  have hs5:Sub H H5:=by rw[hH5];exact((((((Sub.refl H).new hr4 _).new hr5 _).new hr6 _).new hr7 _).up hr7' _)
  simp(disch:=omega) only[go_sem,↓reduceIte,Ah3];intro r8 hr8;dsimp only at hr8;have n48:r4≠r8:=Ae hr8 g54;have n58:r5≠r8:=Ae hr8 g55;have n68:r6≠r8:=Ae hr8 g56;simp(disch:=omega) only[go_sem,↓reduceIte,g54,g55,g56,n48,n58,n68,n45,n46,n56,m45,n64,n65];have hsK:=fun x y z=>(((hs5.new hr8 x).up hr5' y).up hr6' z);exact Fc.fin (hsK _ _ _) (Fc.tuple (.cons (Fc.agg (Fc.ex (l:= []) (a:= []) (hsK _ _ _) (.exs0 (hsK _ _ _)) (.as0 (hsK _ _ _)))) (Ek.keep (hsK _ _ _) _))) ⟨rfl,rfl⟩
def Ap0:Res DVal->DVal
 | .ok v k=> .tuple [v,dI k,dI 0]
 | .fail k=> .tuple [.vslice [] 0,dI k,dI 30]
 | .bot=> .nilPtr
set_option maxHeartbeats 4000000 in
theorem Bf5 (hG:GX G) (H:Ac) (hl:l.length<=800000) (g:FuncId) (res:Res DVal) (hn:res≠ .bot) (hv: ∀v k,res= .ok v k->v.cells= [v]/\v.one=true) (hf: ∀r H,H r=some (rdO l 0)->Ai Tryz.prog G g [.optr r 0] H (RdR r l H res)):
  Ai Tryz.prog G 65 [Cc l, .func (.func g) [] []] H (Au (Ap0 res) H):=by
 refine Qz Tryz.func65 Tryz.func114 Tryz.call65 Tryz.call114 rfl rfl (by kernel_rfl) (by kernel_rfl) rfl ?_;simp(disch:=omega) only[go_sem,↓reduceIte];intro r5 hr5;dsimp only at hr5;simp(disch:=omega) only[go_sem,↓reduceIte];intro r6 hr6;dsimp only at hr6;have n56:r5≠r6:=Ae hr6 (Aa _ _ _);have n65:=n56.symm;have hdc:(Cc l).cells= [Cc l]:=rfl;simp(disch:=omega) only[go_sem,↓reduceIte,hdc,List.length_cons,List.length_nil,List.drop_succ_cons,List.drop_zero,List.cons_append,List.nil_append];intro r7 hr7;dsimp only at hr7;have n57:r5≠r7:=Ae hr7 (Ag (Aa _ _ _) n56);have n67:r6≠r7:=Ae hr7 (Aa _ _ _);have hr6':H r6=none:=((Sub.refl H).new hr5 _).lo hr6;have hr7':H r7=none:=(((Sub.refl H).new hr5 _).new hr6 _).lo hr7;have n75:=n57.symm;have n76:=n67.symm;simp(disch:=omega) only[go_sem,↓reduceIte];refine(hf r7 _ (Aa _ _ _)).mono ?_;intro e H5 hq;cases hres:res with
 | bot=>exact absurd hres hn
 | ok x k=>
  obtain⟨v1,v2⟩:=hv x k hres;rw[hres] at hq;obtain⟨rfl,hH5⟩:=hq;have g55:H5 r5=some (.cells [dI 0] 3):=by rw[hH5,Ao _ _ _ _ n57,Ao _ _ _ _ n57,Ao _ _ _ _ n56];exact Aa _ _ _
  have g56:H5 r6=some (.cells [dI 0] 36):=by rw[hH5,Ao _ _ _ _ n67,Ao _ _ _ _ n67];exact Aa _ _ _
  have g57:H5 r7=some (.cells [Cc l,dI k] 106):=by rw[hH5];exact Aa _ _ _
  have hs5:Sub H H5:=by rw[hH5];exact(((((Sub.refl H).new hr5 _).new hr6 _).new hr7 _).up hr7' _)
  simp(disch:=omega) only[go_sem,↓reduceIte];refine Aj (by kernel_rfl) (.take 0 (.take 1 (.take 2 (.take 3 (.take 4 (.take 5 (.go 6 [] (.go 7 [] .done)))))))) (by kernel_rfl) ?_;simp(disch:=omega) only[go_sem,↓reduceIte,g55,g56,g57,n56,n57,n67,n75,n76,n65];intro r8 hr8;dsimp only at hr8;obtain⟨K,hK⟩: ∃K,K=upd (upd H5 r5 (some (.cells [dI k] 3))) r6 (some (.cells [dI 0] 36)):=⟨_,rfl⟩;have hsK:Sub H K:=by rw[hK];exact(hs5.up hr5 _).up hr6' _
  have k5:K r5=some (.cells [dI k] 3):=by rw[hK];exact Ag (Aa _ _ _) n56
  have k6:K r6=some (.cells [dI 0] 36):=by rw[hK];exact Aa _ _ _
  rw[<-hK] at hr8⊢
  have n58:r5≠r8:=Ae hr8 k5;have n68:r6≠r8:=Ae hr8 k6;simp(disch:=omega) only[go_sem,↓reduceIte,k5,k6,n58,n68,v1,v2];exact Nu.sub (hsK.new hr8 _) (.refl ⟨rfl,rfl⟩)
 | fail k=>
  rw[hres] at hq;obtain⟨rfl,hH5⟩:=hq;have g55:H5 r5=some (.cells [dI 0] 3):=by rw[hH5,Ao _ _ _ _ n57,Ao _ _ _ _ n57,Ao _ _ _ _ n56];exact Aa _ _ _
  have g56:H5 r6=some (.cells [dI 0] 36):=by rw[hH5,Ao _ _ _ _ n67,Ao _ _ _ _ n67];exact Aa _ _ _
  have hs5:Sub H H5:=by rw[hH5];exact(((((Sub.refl H).new hr5 _).new hr6 _).new hr7 _).up hr7' _)
  simp(disch:=omega) only[go_sem,↓reduceIte,Ah3];intro r8 hr8;dsimp only at hr8;have n58:r5≠r8:=Ae hr8 g55;have n68:r6≠r8:=Ae hr8 g56;simp(disch:=omega) only[go_sem,↓reduceIte,g55,g56,n58,n68,n56,n65];have hsK:=fun x y z=>(((hs5.new hr8 x).up hr5 y).up hr6' z);exact Fc.fin (hsK _ _ _) (Fc.tuple (.cons (Fc.nil (hsK _ _ _)) (Ek.keep (hsK _ _ _) _))) ⟨rfl,rfl⟩
set_option maxHeartbeats 4000000 in
theorem Bf6 (hG:GX G) (H:Ac) (hl:l.length<=800000) (g:FuncId) (res:Res DVal) (hn:res≠ .bot) (hv: ∀v k,res= .ok v k->v.cells= [v]/\v.one=true) (hf: ∀r H,H r=some (rdO l 0)->Ai Tryz.prog G g [.optr r 0] H (RdR r l H res)):
  Ai Tryz.prog G 69 [Cc l, .func (.func g) [] []] H (Au (Ap0 res) H):=by
 refine Qz Tryz.func69 Tryz.func118 Tryz.call69 Tryz.call118 rfl rfl (by kernel_rfl) (by kernel_rfl) rfl ?_;simp(disch:=omega) only[go_sem,↓reduceIte];intro r5 hr5;dsimp only at hr5;simp(disch:=omega) only[go_sem,↓reduceIte];intro r6 hr6;dsimp only at hr6;have n56:r5≠r6:=Ae hr6 (Aa _ _ _);have n65:=n56.symm;have hdc:(Cc l).cells= [Cc l]:=rfl;simp(disch:=omega) only[go_sem,↓reduceIte,hdc,List.length_cons,List.length_nil,List.drop_succ_cons,List.drop_zero,List.cons_append,List.nil_append];intro r7 hr7;dsimp only at hr7;have n57:r5≠r7:=Ae hr7 (Ag (Aa _ _ _) n56);have n67:r6≠r7:=Ae hr7 (Aa _ _ _);have hr6':H r6=none:=((Sub.refl H).new hr5 _).lo hr6;have hr7':H r7=none:=(((Sub.refl H).new hr5 _).new hr6 _).lo hr7;have n75:=n57.symm;have n76:=n67.symm;simp(disch:=omega) only[go_sem,↓reduceIte];refine(hf r7 _ (Aa _ _ _)).mono ?_;intro e H5 hq;cases hres:res with
 | bot=>exact absurd hres hn
 | ok x k=>
  obtain⟨v1,v2⟩:=hv x k hres;rw[hres] at hq;obtain⟨rfl,hH5⟩:=hq;have g55:H5 r5=some (.cells [dI 0] 3):=by rw[hH5,Ao _ _ _ _ n57,Ao _ _ _ _ n57,Ao _ _ _ _ n56];exact Aa _ _ _
  have g56:H5 r6=some (.cells [dI 0] 36):=by rw[hH5,Ao _ _ _ _ n67,Ao _ _ _ _ n67];exact Aa _ _ _
  have g57:H5 r7=some (.cells [Cc l,dI k] 106):=by rw[hH5];exact Aa _ _ _
  have hs5:Sub H H5:=by rw[hH5];exact(((((Sub.refl H).new hr5 _).new hr6 _).new hr7 _).up hr7' _)
  simp(disch:=omega) only[go_sem,↓reduceIte];refine Aj (by kernel_rfl) (.take 0 (.take 1 (.take 2 (.take 3 (.take 4 (.take 5 (.go 6 [] (.go 7 [] .done)))))))) (by kernel_rfl) ?_;simp(disch:=omega) only[go_sem,↓reduceIte,g55,g56,g57,n56,n57,n67,n75,n76,n65];intro r8 hr8;dsimp only at hr8;obtain⟨K,hK⟩: ∃K,K=upd (upd H5 r5 (some (.cells [dI k] 3))) r6 (some (.cells [dI 0] 36)):=⟨_,rfl⟩;have hsK:Sub H K:=by rw[hK];exact(hs5.up hr5 _).up hr6' _
  have k5:K r5=some (.cells [dI k] 3):=by rw[hK];exact Ag (Aa _ _ _) n56
  have k6:K r6=some (.cells [dI 0] 36):=by rw[hK];exact Aa _ _ _
  rw[<-hK] at hr8⊢
  have n58:r5≠r8:=Ae hr8 k5;have n68:r6≠r8:=Ae hr8 k6;simp(disch:=omega) only[go_sem,↓reduceIte,k5,k6,n58,n68,v1,v2];exact Nu.sub (hsK.new hr8 _) (.refl ⟨rfl,rfl⟩)
 | fail k=>
  rw[hres] at hq;obtain⟨rfl,hH5⟩:=hq;have g55:H5 r5=some (.cells [dI 0] 3):=by rw[hH5,Ao _ _ _ _ n57,Ao _ _ _ _ n57,Ao _ _ _ _ n56];exact Aa _ _ _
  have g56:H5 r6=some (.cells [dI 0] 36):=by rw[hH5,Ao _ _ _ _ n67,Ao _ _ _ _ n67];exact Aa _ _ _
  have hs5:Sub H H5:=by rw[hH5];exact(((((Sub.refl H).new hr5 _).new hr6 _).new hr7 _).up hr7' _)
  simp(disch:=omega) only[go_sem,↓reduceIte,Ah3];intro r8 hr8;dsimp only at hr8;have n58:r5≠r8:=Ae hr8 g55;have n68:r6≠r8:=Ae hr8 g56;simp(disch:=omega) only[go_sem,↓reduceIte,g55,g56,n58,n68,n56,n65];have hsK:=fun x y z=>(((hs5.new hr8 x).up hr5 y).up hr6' z);exact Fc.fin (hsK _ _ _) (Fc.tuple (.cons (Fc.nil (hsK _ _ _)) (Ek.keep (hsK _ _ _) _))) ⟨rfl,rfl⟩
end
end Go.Dl

-- Chapter 3: expressions: the plain laws, part 4: with enough fuel reading comes to an answer; then it needs no fuel.
namespace Go.Dl
open Go
set_option maxRecDepth 10000
section
variable {l:List Tok}
theorem Bx {α β:Type} {a:Nat} {r:Res α} {f:α->Nat->Res β} (h:r≠ .bot) (ha:Adv l a r) (k: ∀x n,a<=n->n<=l.length->f x n≠ .bot):r.then f≠ .bot:=by
 cases r with
 | bot=>exact absurd rfl h
 | fail n=>intro e;cases e
 | ok x n=>exact k x n ha.1 ha.2
theorem Gh {α:Type} {x:α} {k:Nat}:(Res.ok x k)≠ .bot:=fun e=>by cases e
theorem Av0 {α:Type} {k:Nat}:(Res.fail k:Res α)≠ .bot:=fun e=>by cases e
theorem Nd {α:Type} {s:List UInt8} {k:Nat} {f:Nat->Res α} (hk:k<=l.length) (h:k+1<=l.length->f (k+1)≠ .bot):must l s k f≠ .bot:=by
 unfold must;split
 ·rename_i hw
  exact h (Am hw hk)
 ·exact Av0
theorem Ah8 {α:Type} {k:Nat} {f:List UInt8->Nat->Res α} (h:k+1<=l.length-> ∀s,f s (k+1)≠ .bot):Fp l k f≠ .bot:=by
 unfold Fp;split
 ·rename_i hw
  exact h (Jj (by rw[hw];decide)) _
 ·exact Av0
structure PS.Tot (l:List Tok) (n:Nat) (p:PS):Prop where
 expr: ∀k,k<=l.length->8*(l.length-k)+6<=n->p.expr k≠ .bot
 rest: ∀x k,k<=l.length->8*(l.length-k)+2<=n->p.rest x k≠ .bot
 restL: ∀o x k,k<=l.length->8*(l.length-k)+1<=n->p.restL o x k≠ .bot
 relation: ∀x k,k<=l.length->8*(l.length-k)+1<=n->p.relation x k≠ .bot
 simple: ∀k,k<=l.length->8*(l.length-k)+5<=n->p.simple k≠ .bot
 addL: ∀x k,k<=l.length->8*(l.length-k)+1<=n->p.addL x k≠ .bot
 term: ∀k,k<=l.length->8*(l.length-k)+4<=n->p.term k≠ .bot
 mulL: ∀x k,k<=l.length->8*(l.length-k)+1<=n->p.mulL x k≠ .bot
 factor: ∀k,k<=l.length->8*(l.length-k)+3<=n->p.factor k≠ .bot
 primary: ∀k,k<=l.length->8*(l.length-k)+2<=n->p.primary k≠ .bot
 paren: ∀k,k<=l.length->8*(l.length-k)+1<=n->p.paren k≠ .bot
 assoc: ∀k,k<=l.length->8*(l.length-k)+7<=n->p.assoc k≠ .bot
 assocsL: ∀a k,k<=l.length->8*(l.length-k)+1<=n->p.assocsL a k≠ .bot
 choice: ∀k,k<=l.length->8*(l.length-k)+6<=n->p.choice k≠ .bot
 choicesL: ∀a k,k<=l.length->8*(l.length-k)+1<=n->p.choicesL a k≠ .bot
 arg: ∀k,k<=l.length->8*(l.length-k)+7<=n->p.arg k≠ .bot
 argsL: ∀a k,k<=l.length->8*(l.length-k)+1<=n->p.argsL a k≠ .bot
 name: ∀k,k<=l.length->8*(l.length-k)+1<=n->p.name k≠ .bot
 nameL: ∀i x k,k<=l.length->8*(l.length-k)+1<=n->p.nameL i x k≠ .bot
theorem Cf8 {p:PS} {n:Nat} (h:p.Tot l n) (ha:p.Adv l):(Ba l p).Tot l (n+1) where
 expr k hk hn:=Bx (h.simple k hk (by omega)) (ha.simple k hk) fun x m h1 h2=>h.rest x m h2 (by omega)
 rest x k hk hn:=Bx (h.relation x k hk (by omega)) (ha.relation x k hk) fun x m h1 h2=>h.restL _ x m h2 (by omega)
 restL o x k hk hn:=by
  dsimp only[Ba]
  split
  ·exact Gh
  ·obtain⟨q1,q2,q3,q4⟩:=Ca (want:=o) Dr5.1 hk
   split
   ·exact Gh
   ·rename_i hq
    have:=q2 hq
    exact Bx (h.simple _ q3 (by omega)) (ha.simple _ q3) fun y n h1 h2=>Bx (h.relation y n h2 (by omega)) (ha.relation y n h2) fun z m h3 h4=>h.restL _ _ m h4 (by omega)
 relation x k hk hn:=by
  dsimp only[Ba]
  obtain⟨q1,q2,q3,q4⟩:=Ca (want:=0) Dr5.2.1 hk
  have hin: ∀kind j,k+1<=j->j<=l.length->inK l x kind j p≠ .bot:=fun kind j h1 h2=>by
   refine Bx (h.simple j h2 (by omega)) (ha.simple j h2) fun y m h3 h4=> ?_
   split
   ·rename_i hw
    have:=Am hw h4
    have:=this
    simp only[List.length_cons,List.length_nil] at this
    exact Bx (h.simple (m+1) (by omega) (by omega)) (ha.simple (m+1) (by omega)) fun z m _ _=>Gh
   ·split
    ·exact Gh
    ·exact Av0
  split
  ·rename_i hq
   have:=q2 hq
   exact Bx (h.simple _ q3 (by omega)) (ha.simple _ q3) fun y n h1 h2=>Gh
  ·split
   ·rename_i hw
    have:=Am hw hk
    simp only[List.length_cons,List.length_nil] at this
    exact hin _ _ (by omega) (by omega)
   ·split
    ·rename_i hw
     have:=Am hw hk
     simp only[List.length_cons,List.length_nil] at this
     exact hin _ _ (by omega) (by omega)
    ·exact Gh
 simple k hk hn:=by
  obtain⟨q1,q2,q3,q4⟩:=Ca (want:=0) Dr5.2.2.1 hk
  exact Bx (h.term _ q3 (by omega)) (ha.term _ q3) fun x n h1 h2=>h.addL _ n h2 (by omega)
 addL x k hk hn:=by
  dsimp only[Ba]
  obtain⟨q1,q2,q3,q4⟩:=Ca (want:=0) Dr5.2.2.2.1 hk
  split
  ·exact Gh
  ·rename_i hq
   have:=q2 hq
   exact Bx (h.term _ q3 (by omega)) (ha.term _ q3) fun x n h1 h2=>h.addL _ n h2 (by omega)
 term k hk hn:=Bx (h.factor k hk (by omega)) (ha.factor k hk) fun x n h1 h2=>h.mulL _ n h2 (by omega)
 mulL x k hk hn:=by
  dsimp only[Ba]
  obtain⟨q1,q2,q3,q4⟩:=Ca (want:=0) Dr5.2.2.2.2.1 hk
  split
  ·exact Gh
  ·rename_i hq
   have:=q2 hq
   exact Bx (h.factor _ q3 (by omega)) (ha.factor _ q3) fun x n h1 h2=>h.mulL _ n h2 (by omega)
 factor k hk hn:=by
  obtain⟨q1,q2,q3,q4⟩:=Ca (want:=0) Dr5.2.2.2.2.2 hk
  exact Bx (h.primary _ q3 (by omega)) (ha.primary _ q3) fun x n h1 h2=>Gh
 primary k hk hn:=by
  dsimp only[Ba]
  split
  ·exact Gh
  ·split
   ·exact Gh
   ·split
    ·exact h.paren k hk (by omega)
    ·exact h.name k hk (by omega)
 paren k hk hn:=by
  dsimp only[Ba]
  refine Nd hk fun hk1=> ?_
  split
  ·rename_i hw
   have:=Am hw hk1
   simp only[List.length_cons,List.length_nil] at this
   refine Bx (h.expr _ this (by omega)) (ha.expr _ this) fun a n1 h1 h2=>Nd h2 fun h3=>Bx (h.expr _ h3 (by omega)) (ha.expr _ h3) fun b n2 h4 h5=>Nd h5 fun h6=>Bx (h.expr _ h6 (by omega)) (ha.expr _ h6) fun c n3 h7 h8=>Nd h8 fun h9=>Gh
  ·exact Bx (h.assoc _ hk1 (by omega)) (ha.assoc _ hk1) fun a n1 h1 h2=>Bx (h.assocsL _ _ h2 (by omega)) (ha.assocsL _ _ h2) fun az n2 h3 h4=>Nd h4 fun h5=>Gh
 assoc k hk hn:=by
  refine Bx (h.choice k hk (by omega)) (ha.choice k hk) fun c n h1 h2=> ?_
  split
  ·exact Gh
  ·split
   ·exact Nd h2 fun h3=>Bx (h.expr _ h3 (by omega)) (ha.expr _ h3) fun e m h4 h5=>Gh
   ·exact Bx (h.choicesL _ _ h2 (by omega)) (ha.choicesL _ _ h2) fun cs m h3 h4=>Nd h4 fun h5=>Bx (h.expr _ h5 (by omega)) (ha.expr _ h5) fun e m h6 h7=>Gh
 assocsL az k hk hn:=by
  dsimp only[Ba]
  split
  ·rename_i hw
   have:=Am hw hk
   simp only[List.length_cons,List.length_nil] at this
   exact Bx (h.assoc _ this (by omega)) (ha.assoc _ this) fun a n h1 h2=>h.assocsL _ n h2 (by omega)
  ·exact Gh
 choice k hk hn:=by
  dsimp only[Ba]
  split
  ·exact Gh
  ·refine Bx (h.simple k hk (by omega)) (ha.simple k hk) fun x n h1 h2=> ?_
   split
   ·rename_i hw
    have:=Am hw h2
    simp only[List.length_cons,List.length_nil] at this
    exact Bx (h.simple _ this (by omega)) (ha.simple _ this) fun y m h3 h4=>Gh
   ·exact Bx (h.rest x n h2 (by omega)) (ha.rest x n h2) fun y m h3 h4=>Gh
 choicesL az k hk hn:=by
  dsimp only[Ba]
  split
  ·rename_i hw
   have:=Am hw hk
   simp only[List.length_cons,List.length_nil] at this
   exact Bx (h.choice _ this (by omega)) (ha.choice _ this) fun a n h1 h2=>h.choicesL _ n h2 (by omega)
  ·exact Gh
 arg k hk hn:=by
  dsimp only[Ba]
  split
  ·rename_i hw
   have h1:=Jj (l:=l) (k:=k) (by rw[hw.1];decide)
   have:=Am hw.2 h1
   simp only[List.length_cons,List.length_nil] at this
   exact Bx (h.expr _ this (by omega)) (ha.expr _ this) fun y m h3 h4=>Gh
  ·exact Bx (h.expr k hk (by omega)) (ha.expr k hk) fun y m h3 h4=>Gh
 argsL az k hk hn:=by
  dsimp only[Ba]
  split
  ·rename_i hw
   have:=Am hw hk
   simp only[List.length_cons,List.length_nil] at this
   exact Bx (h.arg _ this (by omega)) (ha.arg _ this) fun a n h1 h2=>h.argsL _ n h2 (by omega)
  ·exact Gh
 name k hk hn:=Ah8 fun h1 s=>h.nameL _ _ _ h1 (by omega)
 nameL i x k hk hn:=by
  dsimp only[Ba]
  split
  ·rename_i hw
   have:=Am hw hk
   simp only[List.length_cons,List.length_nil] at this
   exact h.nameL _ _ _ (by omega) (by omega)
  ·split
   ·rename_i hw
    have:=Am hw hk
    simp only[List.length_cons,List.length_nil] at this
    exact Ah8 fun h1 s=>h.nameL _ _ _ h1 (by omega)
   ·split
    ·rename_i hw
     have:=Am hw hk
     simp only[List.length_cons,List.length_nil] at this
     exact Bx (h.arg _ this (by omega)) (ha.arg _ this) fun a n h1 h2=>Bx (h.argsL _ _ h2 (by omega)) (ha.argsL _ _ h2) fun az m h3 h4=>Nd h4 fun h5=>h.nameL _ _ _ h5 (by omega)
    ·split
     ·rename_i hw
      have:=Am hw hk
      simp only[List.length_cons,List.length_nil] at this
      exact Bx (h.paren _ (by omega) (by omega)) (ha.paren _ (by omega)) fun a n h1 h2=>h.nameL _ _ _ h2 (by omega)
     ·split
      ·rename_i hw
       have:=Am hw hk
       simp only[List.length_cons,List.length_nil] at this
       exact Ah8 fun h1 s=>h.nameL _ _ _ h1 (by omega)
      ·exact Gh
theorem Df3: ∀n,(P l n).Tot l n
 | 0=>by constructor<;>intros<;>omega
 | n+1=>Cf8 (Df3 n) (Bn n)
def Ci (l:List Tok):Nat:=8*l.length+20
def Q (l:List Tok):PS:=P l (Ci l)
theorem Cr1:(Q l).Tot l (Ci l):=Df3 _
theorem Dp8:(Q l).Adv l:=Bn _
end
end Go.Dl

-- Chapter 3: expressions: the plain laws, part 5: the tokens of an expression.
namespace Go.Dl
open Go
set_option maxRecDepth 10000
def Bo (s:List UInt8):Tok:=⟨Ea s,0,s,0⟩
def Sd (s:List UInt8):Tok:=⟨1,0,s,0⟩
def Bw2 (n:Int):Tok:=⟨3,0,[],n⟩
def Ve (b:Bool) (t:List Tok):List Tok:=if b then Bo Ce::(t++ [Bo Cp]) else t
def Ib (s:List UInt8):List (List Tok)->List Tok
 | []=> []
 | [x]=>x
 | x::r=>x++Bo s::Ib s r
def Mc (e:Ex):Int:=if Cb e=2 then 3 else 5
def Hf (e:Ex):Int:=if Cb e=1 then 2 else if Cb e=0/\((e.l.getD 0 ex0).kind≠12\/(e.l.getD 0 ex0).oper≠e.oper) then 1 else Cb e
def Jz (e:Ex):Int:=if Cb e=1 then 2 else Cb e+1
def Ah9 (k:Int):Bool:=decide (k=9) || decide (k=10)
def Ku (e:Ex) (tl ta:List (List Tok)):List Tok:=
 let p:=fun(i:Nat) (lv:Int)=>Ve (decide (Cb (e.l.getD i ex0)<lv)) (tl.getD i [])
 if e.kind=1 then [Bw2 e.n] else if e.kind=2 then [Bo Sb] else if e.kind=3 then [Sd e.s]
 else if e.kind=4 then tl.getD 0 []++ [Bo Lb,Sd e.s]
 else if e.kind=5 then tl.getD 0 []++ [Bo Lb,Bo Wm]
 else if e.kind=6 then tl.getD 0 []++ [Bo Ga,Sd e.s]
 else if e.kind=7 then tl.getD 0 []++Bo Ce::(Ib Gn ta++ [Bo Cp])
 else if e.kind=8 then tl.getD 0 []++Bo Ga::Ve (!Ah9 (e.l.getD 1 ex0).kind) (tl.getD 1 [])
 else if e.kind=9 then Bo Ce::(Ib Gn ta++ [Bo Cp])
 else if e.kind=10 then Bo Ce::Bo wIf::(tl.getD 0 []++Bo Ji::(tl.getD 1 []++Bo Kj::(tl.getD 2 []++ [Bo Cp])))
 else if e.kind=11 then(Bp e.oper.toNat).map Bo++p 0 (Mc e)
 else if e.kind=12 then p 0 (Hf e)++((Bp e.oper.toNat).map Bo++p 1 (Jz e))
 else if e.kind=13 then p 0 2++Bo wIn::(if e.l.length=3 then p 1 2++Bo Dz::p 2 2 else tl.getD 1 [])
 else p 0 2++Bo Rt::Bo wIn::(if e.l.length=3 then p 1 2++Bo Dz::p 2 2 else tl.getD 1 [])
def Dp9 (k:Int) (l:List Ex) (tl:List (List Tok)):List Tok:=
 let p:=fun(i:Nat) (lv:Int)=>Ve (decide (Cb (l.getD i ex0)<lv)) (tl.getD i [])
 if k=1 then tl.getD 0 [] else if k=2 then p 0 2++Bo Dz::p 1 2 else [Bo Ff]
def Df4 (tc:List (List Tok)) (te:List Tok):List Tok:=if tc.isEmpty then te else Ib Dk tc++Bo Ap::te
mutual
def Ar:Ex->List Tok
 | .mk k o n s l a li en t=>Ku (.mk k o n s l a li en t) (Ai0 l) (Av1 a)
def Ai0:List Ex->List (List Tok)
 | []=> []
 | x::l=>Ar x::Ai0 l
def Jc:As->List Tok
 | .mk c e=>Df4 (Av2 c) (Ar e)
def Av1:List As->List (List Tok)
 | []=> []
 | x::l=>Jc x::Av1 l
def Ij:Ch->List Tok
 | .mk k l=>Dp9 k l (Ai0 l)
def Av2:List Ch->List (List Tok)
 | []=> []
 | x::l=>Ij x::Av2 l
end
theorem Td: ∀l:List Ex,Ai0 l=l.map Ar
 | []=>rfl
 | x::l=>by rw[Ai0,Td l,List.map_cons]
theorem Ai1: ∀l:List As,Av1 l=l.map Jc
 | []=>rfl
 | x::l=>by rw[Av1,Ai1 l,List.map_cons]
theorem Ai2: ∀l:List Ch,Av2 l=l.map Ij
 | []=>rfl
 | x::l=>by rw[Av2,Ai2 l,List.map_cons]
theorem Fq (e:Ex):Ar e=Ku e (e.l.map Ar) (e.a.map Jc):=by
 cases e;rw[Ar,Td,Ai1];rfl
theorem Vf (x:As):Jc x=if x.c.isEmpty then Ar x.e else Ib Dk (x.c.map Ij)++Bo Ap::Ar x.e:=by
 cases x with
 | mk c e=>rw[Jc,Ai2,Df4];cases c<;>rfl
def Dm (e:Ex) (lv:Int):List Tok:=Ve (decide (Cb e<lv)) (Ar e)
theorem Cr2 {α β:Type} (f:α->β) (l:List α) (i:Nat) (d:α) (e:β) (h:i<l.length):(l.map f).getD i e=f (l.getD i d):=by
 simp [List.getD,List.getElem?_map,List.getElem?_eq_getElem h]
theorem Oe (c:Ch):Ij c=if c.kind=1 then(c.l.map Ar).getD 0 [] else if c.kind=2 then Ve (decide (Cb (c.l.getD 0 ex0)<2)) ((c.l.map Ar).getD 0 [])++Bo Dz::Ve (decide (Cb (c.l.getD 1 ex0)<2)) ((c.l.map Ar).getD 1 []) else [Bo Ff]:=by
 cases c;rw[Ij,Td];rfl
def tE (e:Ex) (i:Nat):List Tok:=(e.l.map Ar).getD i []
def pE (e:Ex) (i:Nat) (lv:Int):List Tok:=Ve (decide (Cb (e.l.getD i ex0)<lv)) (tE e i)
def Nf (e:Ex):List Tok:=if e.l.length=3 then pE e 1 2++Bo Dz::pE e 2 2 else tE e 1
def taE (e:Ex):List Tok:=Ib Gn (e.a.map Jc)
section
variable {e:Ex}
theorem Df5 (h:e.kind=1):Ar e= [Bw2 e.n]:=by rw[Fq];unfold Ku;rw[h];rfl
theorem Df6 (h:e.kind=2):Ar e= [Bo Sb]:=by rw[Fq];unfold Ku;rw[h];rfl
theorem Df7 (h:e.kind=3):Ar e= [Sd e.s]:=by rw[Fq];unfold Ku;rw[h];rfl
theorem Df8 (h:e.kind=4):Ar e=tE e 0++ [Bo Lb,Sd e.s]:=by rw[Fq];unfold Ku;rw[h];rfl
theorem Df9 (h:e.kind=5):Ar e=tE e 0++ [Bo Lb,Bo Wm]:=by rw[Fq];unfold Ku;rw[h];rfl
theorem Dg0 (h:e.kind=6):Ar e=tE e 0++ [Bo Ga,Sd e.s]:=by rw[Fq];unfold Ku;rw[h];rfl
theorem Dg1 (h:e.kind=7):Ar e=tE e 0++Bo Ce::(taE e++ [Bo Cp]):=by rw[Fq];unfold Ku;rw[h];rfl
theorem Dg2 (h:e.kind=8):Ar e=tE e 0++Bo Ga::Ve (!Ah9 (e.l.getD 1 ex0).kind) (tE e 1):=by rw[Fq];unfold Ku;rw[h];rfl
theorem Dg3 (h:e.kind=9):Ar e=Bo Ce::(taE e++ [Bo Cp]):=by rw[Fq];unfold Ku;rw[h];rfl
theorem Cr3 (h:e.kind=10):Ar e=Bo Ce::Bo wIf::(tE e 0++Bo Ji::(tE e 1++Bo Kj::(tE e 2++ [Bo Cp]))):=by rw[Fq];unfold Ku;rw[h];rfl
theorem Cr4 (h:e.kind=11):Ar e=(Bp e.oper.toNat).map Bo++pE e 0 (Mc e):=by rw[Fq];unfold Ku;rw[h];rfl
theorem Cr5 (h:e.kind=12):Ar e=pE e 0 (Hf e)++((Bp e.oper.toNat).map Bo++pE e 1 (Jz e)):=by rw[Fq];unfold Ku;rw[h];rfl
theorem Cr6 (h:e.kind=13):Ar e=pE e 0 2++Bo wIn::Nf e:=by rw[Fq];unfold Ku;rw[h];rfl
theorem Cr7 (h:e.kind=14):Ar e=pE e 0 2++Bo Rt::Bo wIn::Nf e:=by rw[Fq];unfold Ku;rw[h];rfl
theorem Dq0 {i:Nat} (h:i<e.l.length):tE e i=Ar (e.l.getD i ex0):=Cr2 Ar e.l i ex0 [] h
theorem Dq1 {i:Nat} (h:i<e.l.length) (lv:Int):pE e i lv=Dm (e.l.getD i ex0) lv:=by rw[pE,Dq0 h];rfl
end
theorem Xa (s:List UInt8) (x:List Tok) (r:List (List Tok)) (h:r≠ []):Ib s (x::r)=x++Bo s::Ib s r:=by
 cases r with
 | nil=>exact absurd rfl h
 | cons y r=>rfl
theorem Ap1 (s:List UInt8): ∀(l:List (List Tok)) (x:List Tok),l≠ []->Ib s (l++ [x])=Ib s l++Bo s::x
 | [],_,h=>absurd rfl h
 | [y],x,_=>rfl
 | y::z::r,x,_=>by
  rw[List.cons_append,Xa s y _ (by simp),Ap1 s (z::r) x (by simp),Xa s y (z::r) (by simp)];simp
end Go.Dl

-- Chapter 3: expressions: the plain laws, part 6: what was read ends with a token that ends an expression; reading sees no token behind it.
namespace Go.Dl
open Go
set_option maxRecDepth 10000
section
variable {l:List Tok}
theorem Dm0 {k:Nat} {s:List UInt8}:isW l k [s]=(decide ((tk l k).kind=Ea s)&&decide ((tk l k).text=s)):=by rw[isW,isW,Bool.and_true]
theorem Ai3 {k:Nat} {s t:List UInt8}:isW l k [s,t]=(isW l k [s]&&isW l (k+1) [t]):=by rw[isW,Dm0 (s:=s),Dm0 (s:=t)]
end
end Go.Dl

-- Chapter 3: expressions: the plain laws, part 8: what was read is not shorter than its tokens.
namespace Go.Dl
open Go
set_option maxRecDepth 10000
section
variable {l:List Tok}
theorem Bf7 (b:Bool) (t:List Tok):(Ve b t).length=t.length+if b then 2 else 0:=by
 cases b<;>simp [Ve]
theorem Bf8 (e:Ex):0<=Cb e/\Cb e<=5:=by
 unfold Cb;repeat' split
 all_goals omega
def Gp {α:Type} (R:α->Nat->Prop) (r:Res α):Prop:= ∀x k',r= .ok x k'->R x k'
theorem Az {α β:Type} {r:Res α} {f:α->Nat->Res β} {R:α->Nat->Prop} {S:β->Nat->Prop} (h:Gp R r) (hf: ∀x k1,R x k1->Gp S (f x k1)):Gp S (r.then f):=fun y k' e=>by
 cases r with
 | bot=>cases e
 | fail n=>cases e
 | ok x n=>exact hf x n (h x n rfl) y k' e
theorem Db {α:Type} {R:α->Nat->Prop} {k:Nat} {x:α} (h:R x k):Gp R (.ok x k):=fun y k' e=>by cases e;exact h
theorem Xb {α:Type} {R:α->Nat->Prop} {k:Nat}:Gp R (.fail k):=fun y k' e=>by cases e
theorem Iv {α:Type} {R:α->Nat->Prop} {k:Nat} {s:List UInt8} {f:Nat->Res α} (h:isW l k [s]=true->Gp R (f (k+1))):Gp R (must l s k f):=by
 unfold must;split
 ·exact h ‹_›
 ·exact Xb
theorem Xc {α:Type} {R:α->Nat->Prop} {k:Nat} {f:List UInt8->Nat->Res α} (h:(tk l k).kind=1->Gp R (f (tk l k).text (k+1))):Gp R (Fp l k f):=by
 unfold Fp;split
 ·exact h ‹_›
 ·exact Xb
theorem Ck {α:Type} {R S:α->Nat->Prop} {r:Res α} (h:Gp R r) (g:Gp S r):Gp (fun x k=>R x k/\S x k) r:=fun x k e=>⟨h x k e,g x k e⟩
theorem Cl {α:Type} {a:Nat} {r:Res α} (h:Adv l a r):Gp (fun _ k'=>a<=k'/\k'<=l.length) r:=fun x k' e=>by rw[e] at h;exact h
def Cr8 (ta:List (List Tok)):Nat:=(ta.map fun t=>t.length+1).sum-1
theorem Ai4 (s:List UInt8): ∀l:List (List Tok),(Ib s l).length=Cr8 l
 | []=>rfl
 | [x]=>by simp [Ib,Cr8]
 | x::y::r=>by
  have ih:=Ai4 s (y::r);rw[Xa s x _ (by simp),List.length_append,List.length_cons,ih];simp only[Cr8,List.map_cons,List.sum_cons];omega
def Av3 (ta:List (List Tok)):Nat:=(ta.map fun t=>t.length+1).sum
theorem Bw3 {want k:Nat}: ∀ {os:List Nat},(opF l want k os).1≠0->(opF l want k os).1∈os/\(opF l want k os).2=k+(Bp (opF l want k os).1).length/\isW l k (Bp (opF l want k os).1)=true
 | [],h=>absurd rfl h
 | o::r,h=>by
  rw[opF] at h⊢
  split
  ·rename_i hw
   rw[if_pos hw] at h;split
   ·rename_i hc
    rw[if_pos hc] at h;exact absurd rfl h
   ·exact⟨List.mem_cons_self,rfl,hw⟩
  ·rename_i hw
   rw[if_neg hw] at h;have:=Bw3 h;exact⟨List.mem_cons_of_mem _ this.1,this.2⟩
theorem Cr9 (s:List UInt8) (ta:List (List Tok)) (h:ta≠ []):(Ib s ta).length+1=Av3 ta:=by
 rw[Ai4,Cr8,Av3];cases ta with
 | nil=>exact absurd rfl h
 | cons t r=>simp only[List.map_cons,List.sum_cons];omega
end
end Go.Dl

-- Chapter 3: what was read fits into a machine.
namespace Go.Dl
open Go Go.Proofs
set_option maxRecDepth 100000
section
variable {l:List Tok}
theorem Te (a:As): ∀l:List As,Cw (l++ [a])=Cw l+Ny a
 | []=>by simp [Cw]
 | x::l=>by rw[List.cons_append,Cw,Cw,Te a l];omega
theorem Ai5 (a:Ch): ∀l:List Ch,Fd (l++ [a])=Fd l+Uw a
 | []=>by simp [Fd]
 | x::l=>by rw[List.cons_append,Fd,Fd,Ai5 a l];omega
theorem Xd (a:As): ∀l:List As,Jv (l++ [a])↔Jv l/\okA a
 | []=>by simp [Jv]
 | x::l=>by rw[List.cons_append,Jv,Jv,Xd a l];exact and_assoc.symm
theorem Ap2 (a:Ch): ∀l:List Ch,Ru (l++ [a])↔Ru l/\okC a
 | []=>by simp [Ru]
 | x::l=>by rw[List.cons_append,Ru,Ru,Ap2 a l];exact and_assoc.symm
def FE (k:Nat) (x:Ex) (k':Nat):Prop:=Cv x+1+2*k<=2*k'/\okE x
def FL (k:Nat) (x y:Ex) (k':Nat):Prop:=Cv y+2*k<=Cv x+2*k'/\okE y
structure PS.Fits (l:List Tok) (p:PS):Prop where
 expr: ∀k,k<=l.length->Gp (FE k) (p.expr k)
 rest: ∀x k,k<=l.length->okE x->Gp (FL k x) (p.rest x k)
 restL: ∀o x k,k<=l.length->okE x->Gp (FL k x) (p.restL o x k)
 relation: ∀x k,k<=l.length->okE x->Gp (FL k x) (p.relation x k)
 simple: ∀k,k<=l.length->Gp (FE k) (p.simple k)
 addL: ∀x k,k<=l.length->okE x->Gp (FL k x) (p.addL x k)
 term: ∀k,k<=l.length->Gp (FE k) (p.term k)
 mulL: ∀x k,k<=l.length->okE x->Gp (FL k x) (p.mulL x k)
 factor: ∀k,k<=l.length->Gp (FE k) (p.factor k)
 primary: ∀k,k<=l.length->Gp (FE k) (p.primary k)
 paren: ∀k,k<=l.length->Gp (FE k) (p.paren k)
 assoc: ∀k,k<=l.length->Gp (fun x k'=>Ny x+1+2*k<=2*k'/\okA x) (p.assoc k)
 assocsL: ∀a k,k<=l.length->Jv a->Gp (fun b k'=>Cw b+2*k<=Cw a+2*k'/\Jv b) (p.assocsL a k)
 choice: ∀k,k<=l.length->Gp (fun x k'=>Uw x+2*k<=2*k'/\okC x) (p.choice k)
 choicesL: ∀a k,k<=l.length->Ru a->Gp (fun b k'=>Fd b+2*k<=Fd a+2*k'/\Ru b) (p.choicesL a k)
 arg: ∀k,k<=l.length->Gp (fun x k'=>Ny x+1+2*k<=2*k'/\okA x) (p.arg k)
 argsL: ∀a k,k<=l.length->Jv a->Gp (fun b k'=>Cw b+2*k<=Cw a+2*k'/\Jv b) (p.argsL a k)
 name: ∀k,k<=l.length->Gp (FE k) (p.name k)
 nameL: ∀i x k,k<=l.length->okE x->Gp (FL k x) (p.nameL i x k)
theorem Vg (o:Nat) (x y:Ex):Cv (both o x y)=1+Cv x+Cv y:=by
 rw[both,Cv];simp only[Fk,Cw];omega
theorem Zu {o:Nat} {x y:Ex} (h1:okE x) (h2:okE y):okE (both o x y):=by
 rw[both,okE];simp only[okL,Jv];exact⟨by decide,⟨h1,h2,trivial⟩,trivial⟩
theorem Bf9 (o:Nat) (x:Ex) (li:Int):Cv (Kk o li x)=if o=0 then Cv x else 1+Cv x:=by
 unfold Kk;split
 ·rfl
 ·rw[Cv];simp only[Fk,Cw];omega
theorem Bw4 {o:Nat} {x:Ex} {li:Int} (h1:okE x):okE (Kk o li x):=by
 unfold Kk;split
 ·exact h1
 ·rw[okE];simp only[okL,Jv];exact⟨by decide,⟨h1,trivial⟩,trivial⟩
theorem Bq4 (hT: ∀k,(tk l k).text.length<=9223372036854775807) {p:PS} (h:p.Fits l) (hA:p.Adv l):(Ba l p).Fits l where
 expr k hk:=Az (Ck (h.simple k hk) (Cl (hA.simple k hk))) fun x m ⟨h1,h2⟩ y k' e=>by
  obtain⟨g1,g2⟩:=h.rest x m h2.2 h1.2 y k' e
  exact⟨by have:=h1.1;omega,g2⟩
 rest x k hk hx:=Az (Ck (h.relation x k hk hx) (Cl (hA.relation x k hk))) fun y m ⟨h1,h2⟩ z k' e=>by
  obtain⟨g1,g2⟩:=h.restL _ y m h2.2 h1.2 z k' e
  exact⟨by have:=h1.1;omega,g2⟩
 restL o x k hk hx:=by
  dsimp only[Ba]
  split
  ·exact Db ⟨Nat.le_refl _,hx⟩
  ·obtain⟨q1,q2,q3,q4⟩:=Ca (want:=o) Dr5.1 hk
   split
   ·exact Db ⟨Nat.le_refl _,hx⟩
   ·rename_i hq
    have:=q2 hq
    refine Az (Ck (h.simple _ q3) (Cl (hA.simple _ q3))) fun y j ⟨h1,h2⟩=>Az (Ck (h.relation y j h2.2 h1.2) (Cl (hA.relation y j h2.2))) fun z i ⟨h3,h4⟩ w k' e=> ?_
    obtain⟨g1,g2⟩:=h.restL o (both o x z) i h4.2 (Zu hx h3.2) w k' e
    rw[Vg] at g1
    have:=h1.1
    have:=h3.1
    exact⟨by omega,g2⟩
 relation x k hk hx:=by
  dsimp only[Ba]
  obtain⟨q1,q2,q3,q4⟩:=Ca (want:=0) Dr5.2.1 hk
  have hin: ∀(kind:Int) (j:Nat),k+1<=j->j<=l.length->Gp (FL k x) (inK l x kind j p):=fun kind j hkj hj=>by
   refine Az (Ck (h.simple _ hj) (Cl (hA.simple _ hj))) fun y i ⟨h1,h2⟩=> ?_
   have:=h1.1
   split
   ·rename_i hw
    have j1:=Am hw h2.2
    simp only[List.length_cons,List.length_nil] at j1
    refine Az (h.simple _ j1) fun z n h3=>Db ⟨?_,?_⟩
    ·have:=h3.1
     rw[Cv];simp only[Fk,Cw];omega
    ·rw[okE];simp only[okL,Jv];exact⟨by decide,⟨hx,h1.2,h3.2,trivial⟩,trivial⟩
   ·split
    ·refine Db ⟨?_,?_⟩
     ·rw[Cv];simp only[Fk,Cw];omega
     ·rw[okE];simp only[okL,Jv];exact⟨by decide,⟨hx,h1.2,trivial⟩,trivial⟩
    ·exact Xb
  split
  ·rename_i hq
   have:=q2 hq
   refine Az (h.simple _ q3) fun y j h1=>Db ⟨?_,Zu hx h1.2⟩
   have:=h1.1
   rw[Vg];omega
  ·split
   ·rename_i hw
    have j1:=Am hw hk
    simp only[List.length_cons,List.length_nil] at j1
    exact hin _ _ (by omega) j1
   ·split
    ·rename_i hw
     have j1:=Am hw hk
     simp only[List.length_cons,List.length_nil] at j1
     exact hin _ _ (by omega) j1
    ·exact Db ⟨Nat.le_refl _,hx⟩
 simple k hk:=by
  obtain⟨q1,q2,q3,q4⟩:=Ca (want:=0) Dr5.2.2.1 hk
  refine Az (Ck (h.term _ q3) (Cl (hA.term _ q3))) fun x j ⟨h1,h2⟩ y k' e=> ?_
  obtain⟨g1,g2⟩:=h.addL _ j h2.2 (Bw4 h1.2) y k' e
  have:=h1.1
  rw[Bf9] at g1
  refine⟨?_,g2⟩
  by_cases c:(opF l 0 k Fb).1=0
  ·rw[if_pos c] at g1;omega
  ·have:=q2 c
   rw[if_neg c] at g1;omega
 addL x k hk hx:=by
  dsimp only[Ba]
  obtain⟨q1,q2,q3,q4⟩:=Ca (want:=0) Dr5.2.2.2.1 hk
  split
  ·exact Db ⟨Nat.le_refl _,hx⟩
  ·rename_i hq
   have:=q2 hq
   refine Az (Ck (h.term _ q3) (Cl (hA.term _ q3))) fun y j ⟨h1,h2⟩ z k' e=> ?_
   obtain⟨g1,g2⟩:=h.addL _ j h2.2 (Zu hx h1.2) z k' e
   have:=h1.1
   rw[Vg] at g1
   exact⟨by omega,g2⟩
 term k hk:=Az (Ck (h.factor k hk) (Cl (hA.factor k hk))) fun x j ⟨h1,h2⟩ y k' e=>by
  obtain⟨g1,g2⟩:=h.mulL x j h2.2 h1.2 y k' e
  have:=h1.1
  exact⟨by omega,g2⟩
 mulL x k hk hx:=by
  dsimp only[Ba]
  obtain⟨q1,q2,q3,q4⟩:=Ca (want:=0) Dr5.2.2.2.2.1 hk
  split
  ·exact Db ⟨Nat.le_refl _,hx⟩
  ·rename_i hq
   have:=q2 hq
   refine Az (Ck (h.factor _ q3) (Cl (hA.factor _ q3))) fun y j ⟨h1,h2⟩ z k' e=> ?_
   obtain⟨g1,g2⟩:=h.mulL _ j h2.2 (Zu hx h1.2) z k' e
   have:=h1.1
   rw[Vg] at g1
   exact⟨by omega,g2⟩
 factor k hk:=by
  obtain⟨q1,q2,q3,q4⟩:=Ca (want:=0) Dr5.2.2.2.2.2 hk
  refine Az (h.primary _ q3) fun x j h1=>Db ⟨?_,Bw4 h1.2⟩
  have:=h1.1
  rw[Bf9]
  by_cases c:(opF l 0 k Gy).1=0
  ·rw[if_pos c];omega
  ·have:=q2 c
   rw[if_neg c];omega
 primary k hk:=by
  dsimp only[Ba]
  split
  ·exact Db ⟨by rw[Cv];simp only[Fk,Cw];omega,by rw[okE];exact⟨by decide,trivial,trivial⟩⟩
  ·split
   ·exact Db ⟨by rw[Cv];simp only[Fk,Cw];omega,by rw[okE];exact⟨by decide,trivial,trivial⟩⟩
   ·split
    ·exact h.paren k hk
    ·exact h.name k hk
 paren k hk:=by
  dsimp only[Ba]
  refine Iv fun hw=> ?_
  have hk1:=Am hw hk
  simp only[List.length_cons,List.length_nil] at hk1
  split
  ·rename_i hw2
   have hk2:=Am hw2 hk1
   simp only[List.length_cons,List.length_nil] at hk2
   refine Az (Ck (h.expr _ hk2) (Cl (hA.expr _ hk2))) fun a i1 ⟨g1,g2⟩=>Iv fun w1=> ?_
   have j1:=Am w1 g2.2
   refine Az (Ck (h.expr _ j1) (Cl (hA.expr _ j1))) fun b i2 ⟨g3,g4⟩=>Iv fun w2=> ?_
   have j2:=Am w2 g4.2
   refine Az (Ck (h.expr _ j2) (Cl (hA.expr _ j2))) fun c i3 ⟨g5,g6⟩=>Iv fun w3=>Db ⟨?_,?_⟩
   ·have:=g1.1;have:=g3.1;have:=g5.1
    rw[Cv];simp only[Fk,Cw];omega
   ·rw[okE];simp only[okL,Jv];exact⟨by decide,⟨g1.2,g3.2,g5.2,trivial⟩,trivial⟩
  ·refine Az (Ck (h.assoc _ hk1) (Cl (hA.assoc _ hk1))) fun a i1 ⟨g1,g2⟩=>Az (Ck (h.assocsL [a] i1 g2.2 ⟨g1.2,trivial⟩) (Cl (hA.assocsL [a] i1 g2.2))) fun b i2 ⟨g3,g4⟩=>Iv fun w1=>Db ?_
   have g1':=g1.1
   have g3':=g3.1
   simp only[Cw] at g3'
   have key: ∀li,FE k (.mk 9 0 0 [] [] b li 0 0) (i2+1):=fun li=>⟨by rw[Cv];simp only[Fk];omega,by rw[okE];exact⟨by decide,trivial,g3.2⟩⟩
   match b,g3,g3',key with
   | [],g3,_,key=>exact key _
   | x::y::r,g3,_,key=>exact key _
   | [x],g3,g3',key=>
    show FE k (if x.c= [] then x.e else _) _
    split
    ·simp only[Cw] at g3'
     have h6:=Lc x
     have h5:=g3.2
     simp only[Jv] at h5
     exact⟨by omega,(Dl4.1 h5.1).2⟩
    ·exact key _
 assoc k hk:=by
  refine Az (Ck (h.choice k hk) (Cl (hA.choice k hk))) fun c i1 ⟨⟨g1,g1'⟩,g2⟩=> ?_
  rw[In] at g1
  split
  ·refine Db ?_
   rw[Dl5] at g1'
   rw[Ny,okA]
   simp only[Fd,Ru]
   obtain⟨m,hm⟩: ∃m,m=c.l:=⟨_,rfl⟩
   rw[<-hm] at g1 g1'⊢
   cases m with
   | nil=>exact⟨by show 0+Cv ex0+1+2*k<=_;rw[show Cv ex0=1 from rfl];omega,trivial,by simp [ex0,okE,okL,Jv]⟩
   | cons x r=>
    rw[Fk] at g1
    rw[okL] at g1'
    exact⟨by show 0+Cv x+1+2*k<=_;omega,trivial,g1'.1⟩
  ·split
   ·refine Iv fun w1=> ?_
    have j1:=Am w1 g2.2
    simp only[List.length_cons,List.length_nil] at j1
    refine Az (h.expr _ j1) fun e i2 g3=>Db ⟨?_,?_⟩
    ·have:=g3.1
     rw[Ny];simp only[Fd,In];omega
    ·rw[okA];exact⟨⟨g1',trivial⟩,g3.2⟩
   ·refine Az (Ck (h.choicesL [c] i1 g2.2 ⟨g1',trivial⟩) (Cl (hA.choicesL [c] i1 g2.2))) fun b i2 ⟨⟨g3,g3'⟩,g4⟩=>Iv fun w1=> ?_
    have j1:=Am w1 g4.2
    simp only[List.length_cons,List.length_nil] at j1
    refine Az (h.expr _ j1) fun e i3 g5=>Db ⟨?_,?_⟩
    ·have:=g5.1
     simp only[Fd,In] at g3
     rw[Ny];omega
    ·rw[okA];exact⟨g3',g5.2⟩
 assocsL a k hk ha:=by
  dsimp only[Ba]
  split
  ·rename_i hw
   have:=Am hw hk
   simp only[List.length_cons,List.length_nil] at this
   refine Az (Ck (h.assoc _ this) (Cl (hA.assoc _ this))) fun x n ⟨h1,h2⟩ y k' e=> ?_
   obtain⟨g,g'⟩:=h.assocsL _ n h2.2 ((Xd _ _).2 ⟨ha,h1.2⟩) y k' e
   rw[Te] at g
   have:=h1.1
   exact⟨by omega,g'⟩
  ·exact Db ⟨Nat.le_refl _,ha⟩
 choice k hk:=by
  dsimp only[Ba]
  split
  ·exact Db ⟨by rw[Uw];simp only[Fk];omega,by rw[okC];trivial⟩
  ·refine Az (Ck (h.simple k hk) (Cl (hA.simple k hk))) fun x i1 ⟨g1,g2⟩=> ?_
   have:=g1.1
   split
   ·rename_i hw
    have j1:=Am hw g2.2
    simp only[List.length_cons,List.length_nil] at j1
    refine Az (h.simple _ j1) fun y i2 g3=>Db ⟨?_,?_⟩
    ·have:=g3.1
     rw[Uw];simp only[Fk];omega
    ·rw[okC];exact⟨g1.2,g3.2,trivial⟩
   ·refine Az (h.rest x i1 g2.2 g1.2) fun y i2 g3=>Db ⟨?_,?_⟩
    ·have:=g3.1
     rw[Uw];simp only[Fk];omega
    ·rw[okC];exact⟨g3.2,trivial⟩
 choicesL a k hk ha:=by
  dsimp only[Ba]
  split
  ·rename_i hw
   have:=Am hw hk
   simp only[List.length_cons,List.length_nil] at this
   refine Az (Ck (h.choice _ this) (Cl (hA.choice _ this))) fun x n ⟨h1,h2⟩ y k' e=> ?_
   obtain⟨g,g'⟩:=h.choicesL _ n h2.2 ((Ap2 _ _).2 ⟨ha,h1.2⟩) y k' e
   rw[Ai5] at g
   have:=h1.1
   exact⟨by omega,g'⟩
  ·exact Db ⟨Nat.le_refl _,ha⟩
 arg k hk:=by
  dsimp only[Ba]
  split
  ·rename_i hw
   have j0:=Jj (l:=l) (k:=k) (by rw[hw.1];decide)
   have j1:=Am hw.2 j0
   simp only[List.length_cons,List.length_nil] at j1
   refine Az (h.expr _ j1) fun e i1 g1=>Db ⟨?_,?_⟩
   ·have:=g1.1
    rw[Ny];simp only[Fd,Uw,Fk,Cv,Cw];omega
   ·rw[okA];simp only[Ru,okC,okL,okE,Jv];exact⟨⟨⟨⟨hT k,trivial,trivial⟩,trivial⟩,trivial⟩,g1.2⟩
  ·refine Az (h.expr k hk) fun e i1 g1=>Db ⟨?_,?_⟩
   ·have:=g1.1
    rw[Ny];simp only[Fd];omega
   ·rw[okA];exact⟨trivial,g1.2⟩
 argsL a k hk ha:=by
  dsimp only[Ba]
  split
  ·rename_i hw
   have:=Am hw hk
   simp only[List.length_cons,List.length_nil] at this
   refine Az (Ck (h.arg _ this) (Cl (hA.arg _ this))) fun x n ⟨h1,h2⟩ y k' e=> ?_
   obtain⟨g,g'⟩:=h.argsL _ n h2.2 ((Xd _ _).2 ⟨ha,h1.2⟩) y k' e
   rw[Te] at g
   have:=h1.1
   exact⟨by omega,g'⟩
  ·exact Db ⟨Nat.le_refl _,ha⟩
 name k hk:=by
  dsimp only[Ba]
  refine Xc fun hkd=> ?_
  have j0:=Jj (l:=l) (k:=k) (by rw[hkd];decide)
  intro x k' e
  obtain⟨g,g'⟩:=h.nameL _ (.mk 3 0 0 (tk l k).text [] [] (tk l k).line 0 0) (k+1) j0 (by rw[okE];exact⟨hT k,trivial,trivial⟩) x k' e
  rw[Cv] at g
  simp only[Fk,Cw] at g
  exact⟨by omega,g'⟩
 nameL i x k hk hx:=by
  have hn: ∀(y:Ex) (j:Nat),j<=l.length->okE y->Cv y+2*k<=Cv x+2*j->Gp (FL k x) (p.nameL i y j):=fun y j hj hy hl z k' e=>by
   obtain⟨g,g'⟩:=h.nameL i y j hj hy z k' e
   exact⟨by omega,g'⟩
  dsimp only[Ba]
  split
  ·rename_i hw
   have j1:=Am hw hk
   simp only[List.length_cons,List.length_nil] at j1
   refine hn _ _ j1 ?_ ?_
   ·rw[okE];exact⟨by decide,⟨hx,trivial⟩,trivial⟩
   ·rw[Cv];simp only[Fk,Cw];omega
  ·split
   ·rename_i hw
    have j1:=Am hw hk
    refine Xc fun hkd=> ?_
    have j2:=Jj (l:=l) (k:=k+1) (by rw[hkd];decide)
    refine hn _ _ j2 ?_ ?_
    ·rw[okE];exact⟨hT _,⟨hx,trivial⟩,trivial⟩
    ·rw[Cv];simp only[Fk,Cw];omega
   ·split
    ·rename_i hw
     have j1:=Am hw hk
     simp only[List.length_cons,List.length_nil] at j1
     refine Az (Ck (h.arg _ j1) (Cl (hA.arg _ j1))) fun a i1 ⟨g1,g2⟩=>Az (Ck (h.argsL [a] i1 g2.2 ⟨g1.2,trivial⟩) (Cl (hA.argsL [a] i1 g2.2))) fun b i2 ⟨g3,g4⟩=>Iv fun w1=> ?_
     have j2:=Am w1 g4.2
     have g1':=g1.1
     have g3':=g3.1
     simp only[Cw] at g3'
     refine hn _ _ j2 ?_ ?_
     ·rw[okE];exact⟨by decide,⟨hx,trivial⟩,g3.2⟩
     ·rw[Cv];simp only[Fk];omega
    ·split
     ·rename_i hw
      have j1:=Am hw hk
      simp only[List.length_cons,List.length_nil] at j1
      have j2:k+1<=l.length:=by omega
      refine Az (Ck (h.paren _ j2) (Cl (hA.paren _ j2))) fun y i1 ⟨g1,g2⟩=> ?_
      have g1':=g1.1
      refine hn _ _ g2.2 ?_ ?_
      ·rw[okE];exact⟨by decide,⟨hx,g1.2,trivial⟩,trivial⟩
      ·rw[Cv];simp only[Fk,Cw];omega
     ·split
      ·rename_i hw
       have j1:=Am hw hk
       refine Xc fun hkd=> ?_
       have j2:=Jj (l:=l) (k:=k+1) (by rw[hkd];decide)
       refine hn _ _ j2 ?_ ?_
       ·rw[okE];exact⟨hT _,⟨hx,trivial⟩,trivial⟩
       ·rw[Cv];simp only[Fk,Cw];omega
      ·exact Db ⟨Nat.le_refl _,hx⟩
theorem Av4 (hT: ∀k,(tk l k).text.length<=9223372036854775807): ∀n,(P l n).Fits l
 | 0=>by constructor<;>intros<;>intro x k' e<;>cases e
 | n+1=>Bq4 hT (Av4 hT n) (Bn n)
end
end Go.Dl

-- Chapter 3: the package's Front, FrontArgs, FrontChoices.
namespace Go.Dl
open Go Go.Proofs
set_option maxRecDepth 100000
def Ix (l:List Tok):Nat->Res Ex
 | 0=>(Q l).expr 0
 | 1=>((Q l).simple 0).then fun x k=>(Q l).relation x k
 | 2=>(Q l).simple 0
 | 3=>(Q l).term 0
 | 4=>(Q l).factor 0
 | 5=>(Q l).primary 0
 | _=>(Q l).name 0
def Rc (l:List Tok):Res (List As):=((Q l).arg 0).then fun a k=>(Q l).argsL [a] k
def Ai6 (l:List Tok):Res (List Ch):=((Q l).choice 0).then fun a k=>(Q l).choicesL [a] k
def Ee (l:List Tok) (level:Int):Ex×Int×Int:=
 if level<0\/7<=level then(ex0,0,2) else match Ix l level.toNat with
  | .ok x k=>if Ia x then(x,k,0) else(ex0,0,3)
  | .fail k=>(ex0,k,30)
  | .bot=>(ex0,0,0)
def Po (l:List Tok):List As×Int×Int:=match Rc l with
  | .ok x k=>if Bd0 x then(x,k,0) else([],0,3)
  | .fail k=>([],k,30)
  | .bot=>([],0,0)
def Pp (l:List Tok):List Ch×Int×Int:=match Ai6 l with
  | .ok x k=>if Qy x then(x,k,0) else([],0,3)
  | .fail k=>([],k,30)
  | .bot=>([],0,0)
section
variable {l:List Tok}
theorem Md (j:Nat):Ix l j≠ .bot:=by
 have t:=Cr1 (l:=l);have f': ∀ {k a:Nat},a<=7->8*(l.length-k)+a<=Ci l:=fun {k a} ha=>by unfold Ci;omega
 unfold Ix;split
 ·exact t.expr _ (by omega) (f' (by omega))
 ·exact Bx (t.simple _ (by omega) (f' (by omega))) (Dp8.simple 0 (by omega)) fun x n _ h=>t.relation _ _ h (f' (by omega))
 ·exact t.simple _ (by omega) (f' (by omega))
 ·exact t.term _ (by omega) (f' (by omega))
 ·exact t.factor _ (by omega) (f' (by omega))
 ·exact t.primary _ (by omega) (f' (by omega))
 ·exact t.name _ (by omega) (f' (by omega))
theorem Vh:Rc l≠ .bot:=by
 have t:=Cr1 (l:=l);have f': ∀ {k a:Nat},a<=7->8*(l.length-k)+a<=Ci l:=fun {k a} ha=>by unfold Ci;omega
 exact Bx (t.arg _ (by omega) (f' (by omega))) (Dp8.arg 0 (by omega)) fun x n _ h=>t.argsL _ _ h (f' (by omega))
theorem Zv:Ai6 l≠ .bot:=by
 have t:=Cr1 (l:=l);have f': ∀ {k a:Nat},a<=7->8*(l.length-k)+a<=Ci l:=fun {k a} ha=>by unfold Ci;omega
 exact Bx (t.choice _ (by omega) (f' (by omega))) (Dp8.choice 0 (by omega)) fun x n _ h=>t.choicesL _ _ h (f' (by omega))
theorem Lf (j:Nat):Adv l 1 (Ix l j):=by
 have t:=Dp8 (l:=l);unfold Ix;split
 ·exact t.expr _ (by omega)
 ·exact Bh (t.simple _ (by omega)) fun x n h1 h=>Cs (t.relation x n h) h1
 ·exact t.simple _ (by omega)
 ·exact t.term _ (by omega)
 ·exact t.factor _ (by omega)
 ·exact t.primary _ (by omega)
 ·exact t.name _ (by omega)
theorem Xe:Adv l 1 (Rc l):=Bh (Dp8.arg 0 (by omega)) fun x n h1 h=>Cs (Dp8.argsL _ n h) h1
theorem Ai7:Adv l 1 (Ai6 l):=Bh (Dp8.choice 0 (by omega)) fun x n h1 h=>Cs (Dp8.choicesL _ n h) h1
def Gq (l:List Tok):Prop:= ∀k,(tk l k).text.length<=9223372036854775807
theorem Jd (hT:Gq l) (j:Nat):Gp (FE 0) (Ix l j):=by
 have t:=Av4 hT (Ci l);change (Q l).Fits l at t;unfold Ix;split
 ·exact t.expr _ (by omega)
 ·exact Az (Ck (t.simple _ (by omega)) (Cl (Dp8.simple _ (by omega)))) fun x n ⟨h1,h2⟩ y k' e=>by
   obtain⟨g,g'⟩:=t.relation x n h2.2 h1.2 y k' e;have:=h1.1;exact⟨by omega,g'⟩
 ·exact t.simple _ (by omega)
 ·exact t.term _ (by omega)
 ·exact t.factor _ (by omega)
 ·exact t.primary _ (by omega)
 ·exact t.name _ (by omega)
theorem Tf (hT:Gq l):Gp (fun a k'=>Cw a<=2*k'/\Jv a) (Rc l):=by
 have t:=Av4 hT (Ci l);change (Q l).Fits l at t;exact Az (Ck (t.arg 0 (by omega)) (Cl (Dp8.arg 0 (by omega)))) fun x n ⟨h1,h2⟩ y k' e=>by
  obtain⟨g,g'⟩:=t.argsL [x] n h2.2 ⟨h1.2,trivial⟩ y k' e;simp only[Cw] at g;exact⟨by omega,g'⟩
theorem Xf (hT:Gq l):Gp (fun a k'=>Fd a<=2*k'/\Ru a) (Ai6 l):=by
 have t:=Av4 hT (Ci l);change (Q l).Fits l at t;exact Az (Ck (t.choice 0 (by omega)) (Cl (Dp8.choice 0 (by omega)))) fun x n ⟨h1,h2⟩ y k' e=>by
  obtain⟨g,g'⟩:=t.choicesL [x] n h2.2 ⟨h1.2,trivial⟩ y k' e;simp only[Fd] at g;exact⟨by omega,g'⟩
end
section
variable {G:Nat->DVal} {l:List Tok}
theorem Bg0 (hG:GX G) (hl:l.length<=800000) (r:Nat) (H:Ac) (hr:H r=some (rdO l 0)):Ai Tryz.prog G 30 [.optr r 0] H (RdR r l H ((Ix l 1).mp dE)):=by
 have ha:=Bw1 (r:=r) hG hl (Ci l);have hne:=Md (l:=l) 1;refine Ad Tryz.func30 Tryz.call30 rfl (by kernel_rfl) ?_;simp(disch:=omega) only[go_sem,↓reduceIte];intro r2 hr2;dsimp only at hr2;have n2:r≠r2:=Ae hr2 hr;have q2:=n2.symm;simp(disch:=omega) only[go_sem,↓reduceIte];have h0:RAt r l 0 H (upd H r2 (some (.cells [.int .u8 0, .int .u8 0, .int .i64 0, .str [], .nilSlice, .nilSlice, .int .i64 0, .int .i64 0, .int .i64 0] 27))):=(RAt.refl hr).new hr2 _;have hp:=ha.simple _ 0 h0.get (by omega);have had:=Dp8.simple (l:=l) 0 (by omega);unfold Ix at hne⊢
 dsimp only at hp;change ((P l (Ci l)).simple 0).then _≠_ at hne
 change Ai _ _ _ _ _ _;cases hc:(P l (Ci l)).simple 0 with
 | bot=>rw[hc] at hne;exact absurd rfl hne
 | fail k=>
  rw[hc] at hp;refine(hp (Aw (by simp))).mono ?_;rintro e H4 ⟨rfl,rfl⟩;simp(disch:=omega) only[go_sem,↓reduceIte];have:(Q l).simple 0= .fail k:=hc;rw[this];exact RAt.finP (h0.set k) ⟨rfl,rfl⟩
 | ok x k=>
  rw[hc] at hp hne;have hq:(Q l).simple 0= .ok x k:=hc;rw[hq] at had;refine(hp (Aw (by simp))).mono ?_;rintro e H4 ⟨rfl,hH4⟩;have h4:RAt r l k H H4:=by rw[hH4];exact h0.set k
  have g4:H4 r2=some (.cells [.int .u8 0, .int .u8 0, .int .i64 0, .str [], .nilSlice, .nilSlice, .int .i64 0, .int .i64 0, .int .i64 0] 27):=by rw[hH4];exact Ag (Aa _ _ _) q2
  simp(disch:=omega) only[go_sem,↓reduceIte,dE];have hp2:=ha.relation x H4 k h4.get had.2;dsimp only at hp2;rw[hq,En];change (P l (Ci l)).relation x k≠_ at hne;cases hc2:(P l (Ci l)).relation x k with
  | bot=>exact absurd hc2 hne
  | fail k2=>
   rw[hc2] at hp2;refine(hp2 (Aw (by simp))).mono ?_;rintro e H5 ⟨rfl,rfl⟩;simp(disch:=omega) only[go_sem,↓reduceIte];have:(Q l).relation x k= .fail k2:=hc2;rw[this];exact RAt.finP (h4.set k2) ⟨rfl,rfl⟩
  | ok y k2=>
   rw[hc2] at hp2;refine(hp2 (Aw (by simp))).mono ?_;rintro e H5 ⟨rfl,hH5⟩;have h5:RAt r l k2 H H5:=by rw[hH5];exact h4.set k2
   have g5:H5 r2=some (.cells [.int .u8 0, .int .u8 0, .int .i64 0, .str [], .nilSlice, .nilSlice, .int .i64 0, .int .i64 0, .int .i64 0] 27):=by rw[hH5];exact Ag g4 q2
   have hly:=Ah y;have hoy:=Al y;simp(disch:=omega) only[go_sem,↓reduceIte,dE,g5,hly,hoy];have:(Q l).relation x k= .ok y k2:=hc2;rw[this];exact RAt.fin (h5.own hr2 q2 _) ⟨rfl,rfl⟩
theorem Cf9 (hG:GX G) (hl:l.length<=800000) (j:Nat) (hj:j<7): ∃g,([.func (.func 29) [] [], .func (.func 30) [] [], .func (.func 32) [] [], .func (.func 33) [] [], .func (.func 34) [] [], .func (.func 35) [] [], .func (.func 36) [] []]:List DVal)[j]? =some (.func (.func g) [] [])/\ ∀r H,H r=some (rdO l 0)->Ai Tryz.prog G g [.optr r 0] H (RdR r l H ((Ix l j).mp dE)):=by
 have ha:=fun r=>Bw1 (r:=r) hG hl (Ci l);have hne:=Md (l:=l) j;have hj':j=0\/j=1\/j=2\/j=3\/j=4\/j=5\/j=6:=by omega
 rcases hj' with rfl | rfl | rfl | rfl | rfl | rfl | rfl
 ·exact⟨_,rfl,fun r H hr=>(ha r).expr H 0 hr (by omega) (Aw hne)⟩
 ·exact⟨_,rfl,fun r H hr=>Bg0 hG hl r H hr⟩
 ·exact⟨_,rfl,fun r H hr=>(ha r).simple H 0 hr (by omega) (Aw hne)⟩
 ·exact⟨_,rfl,fun r H hr=>(ha r).term H 0 hr (by omega) (Aw hne)⟩
 ·exact⟨_,rfl,fun r H hr=>(ha r).factor H 0 hr (by omega) (Aw hne)⟩
 ·exact⟨_,rfl,fun r H hr=>(ha r).primary H 0 hr (by omega) (Aw hne)⟩
 ·exact⟨_,rfl,fun r H hr=>(ha r).name H 0 hr (by omega) (Aw hne)⟩
def Xg (p:Ex×Int×Int):DVal:= .tuple [dE p.1,dI p.2.1,dI p.2.2]
theorem Fc.ex0 {H H':Ac} (hs:Sub H H'):Fc H' (.agg [.int .u8 0, .int .u8 0, .int .i64 0, .str [], .nilSlice, .nilSlice, .int .i64 0, .int .i64 0, .int .i64 0]) H (dE ex0):=Fc.agg (Fc.ex (l:= []) (a:= []) hs (.exs0 hs) (.as0 hs))
set_option maxHeartbeats 4000000 in
theorem Tg (hG:GX G) (H:Ac) (level:Int) (hl:l.length<=800000) (hT:Gq l):Ai Tryz.prog G 9 [Cc l,dI level] H (Au (Xg (Ee l level)) H):=by
 refine Ad Tryz.func9 Tryz.call9 rfl (by kernel_rfl) ?_
 simp(disch:=omega) only[go_sem,↓reduceIte]
 intro r4 hr4;dsimp only at hr4
 have hs4:=fun z=>(Sub.refl H).new hr4 z
 simp(disch:=omega) only[go_sem,↓reduceIte]
 intro r8 hr8;dsimp only at hr8
 have n48:r4≠r8:=Ae hr8 (Aa _ _ _)
 have m48:=n48.symm
 have hr8':H r8=none:=(hs4 _).lo hr8
 simp(disch:=omega) only[go_sem,↓reduceIte]
 have hs8:=fun y=>((Sub.refl H).new hr4 (some (.cells [.int .u8 0, .int .u8 0, .int .i64 0, .str [], .nilSlice, .nilSlice, .int .i64 0, .int .i64 0, .int .i64 0] 27))).new hr8 y
 by_cases c0:level<0
 ·simp(disch:=omega) only[go_sem,↓reduceIte,c0,n48,m48]
  have hf:Ee l level=(ex0,0,2):=by rw[Ee,if_pos (.inl c0)]
  rw[hf]
  have hs:=fun y z=>((hs8 y).up hr4 z)
  exact Fc.fin (hs _ _) (Fc.tuple (.cons (Fc.ex0 (hs _ _)) (Ek.keep (hs _ _) _))) ⟨rfl,rfl⟩
 ·by_cases c7:7<=level
  ·simp(disch:=omega) only[go_sem,↓reduceIte,c0,c7,n48,m48]
   have hf:Ee l level=(ex0,0,2):=by rw[Ee,if_pos (.inr c7)]
   rw[hf]
   have hs:=fun y z=>((hs8 y).up hr4 z)
   exact Fc.fin (hs _ _) (Fc.tuple (.cons (Fc.ex0 (hs _ _)) (Ek.keep (hs _ _) _))) ⟨rfl,rfl⟩
  ·obtain⟨j,hj⟩: ∃j:Nat,level=j:=⟨level.toNat,by omega⟩
   subst hj
   obtain⟨g,hg1,hg2⟩:=Cf9 (l:=l) hG hl j (by omega)
   have hf:Ee l j=match Ix l j with
    | .ok x k=>if Ia x then(x,k,0) else(ex0,0,3)
    | .fail k=>(ex0,k,30)
    | .bot=>(ex0,0,0):=by rw[Ee,if_neg (by omega),Int.toNat_natCast]
   have hj7:(j:Int)<7:=by omega
   simp(disch:=omega) only[go_sem,↓reduceIte,c0,c7,n48,m48,hg1,Int.toNat_natCast,hj7]
   refine(Bq3 hG _ hl g (Ix l j) (Md j) hg2).mono ?_
   rintro _ H1 ⟨rfl,hH1⟩
   have had:=Lf (l:=l) j
   have hfit:=Jd hT j
   have hs1:Sub H H1:=by rw[hH1];exact hs8 _
   have g14:H1 r4=some (.cells [.int .u8 0, .int .u8 0, .int .i64 0, .str [], .nilSlice, .nilSlice, .int .i64 0, .int .i64 0, .int .i64 0] 27):=by rw[hH1];exact Ag (Aa _ _ _) n48
   cases hres:Ix l j with
   | bot=>exact absurd hres (Md j)
   | fail k=>
    rw[hres] at hf
    rw[hf,Cr0]
    have hl0:=Ah ex0
    have ho0:=Al ex0
    simp(disch:=omega) only[go_sem,↓reduceIte,dE,g14,hl0,ho0]
    have hs:=fun z=>hs1.up hr4 z
    exact Fc.fin (hs _) (Fc.tuple (.cons (Fc.ex0 (hs _)) (Ek.keep (hs _) _))) ⟨rfl,rfl⟩
   | ok x k=>
    rw[hres] at hf hfit had
    rw[hf,Cr0]
    obtain⟨hb,hok⟩:=hfit x k rfl
    have hk:=had.2
    have hF:Fit x:=⟨by omega,hok⟩
    have hlx:=Ah x
    have hox:=Al x
    simp(disch:=omega) only[go_sem,↓reduceIte,dE,g14,hlx,hox]
    refine(Ii hG _ x hF).mono ?_
    rintro _ H2 ⟨rfl,hH2⟩
    have g24:H2 r4=some (.cells (dEx x) 27):=by rw[hH2];exact Aa _ _ _
    have hs2:Sub H H2:=by rw[hH2];exact hs1.up hr4 _
    have hs:=fun z=>hs2.up hr4 z
    cases hm:Ia x with
    | true=>
     simp(disch:=omega) only[go_sem,↓reduceIte,g24,hlx,hox]
     exact Nu.sub (hs _) (.refl ⟨rfl,rfl⟩)
    | false=>
     simp(disch:=omega) only[go_sem,↓reduceIte,g24,hlx,hox]
     exact Fc.fin (hs _) (Fc.tuple (.cons (Fc.ex0 (hs _)) (Ek.keep (hs _) _))) ⟨rfl,rfl⟩
def Vi (p:List As×Int×Int):DVal:= .tuple [dAl p.1,dI p.2.1,dI p.2.2]
set_option maxHeartbeats 4000000 in
theorem Av5 (hG:GX G) (H:Ac) (hl:l.length<=800000) (hT:Gq l):Ai Tryz.prog G 18 [Cc l] H (Au (Vi (Po l)) H):=by
 have ha:=fun r=>Bw1 (r:=r) hG hl;refine Ad Tryz.func18 Tryz.call18 rfl (by kernel_rfl) ?_;simp(disch:=omega) only[go_sem,↓reduceIte];refine(Bf5 hG H hl 66 ((Rc l).mp dAl) (Aw Vh) ?_ ?_).mono ?_
 ·intro v k e;cases hc:Rc l with
  | bot=>rw[hc] at e;cases e
  | fail k=>rw[hc] at e;cases e
  | ok x k=>rw[hc] at e;cases e;exact⟨rfl,rfl⟩
 ·intro r H hr;exact Ao9 hG hl (Ci l) (fun m _=>(ha r m).arg) H 0 hr (by omega) (Aw Vh)
 ·rintro _ H1 ⟨rfl,rfl⟩;have had:=Xe (l:=l);have hfit:=Tf hT;unfold Po;cases hres:Rc l with
  | bot=>exact absurd hres Vh
  | fail k=>
   simp(disch:=omega) only[go_sem,↓reduceIte,Ap0,Res.mp];exact Fc.fin (Sub.refl _) (Fc.tuple (.cons (Fc.nil (Sub.refl _)) (Ek.keep (Sub.refl _) _))) ⟨rfl,rfl⟩
  | ok x k=>
   rw[hres] at hfit had;obtain⟨hb,hok⟩:=hfit x k rfl;have hk:=had.2;simp(disch:=omega) only[go_sem,↓reduceIte,Ap0,Res.mp];refine(Au2 hG _ x (by omega) hok).mono ?_;rintro _ H2 ⟨rfl,rfl⟩;cases hm:Bd0 x with
   | true=>
    simp(disch:=omega) only[go_sem,↓reduceIte];exact Nu.refl ⟨rfl,rfl⟩
   | false=>
    simp(disch:=omega) only[go_sem,↓reduceIte];exact Fc.fin (Sub.refl _) (Fc.tuple (.cons (Fc.nil (Sub.refl _)) (Ek.keep (Sub.refl _) _))) ⟨rfl,rfl⟩
def Vj (p:List Ch×Int×Int):DVal:= .tuple [dCl p.1,dI p.2.1,dI p.2.2]
set_option maxHeartbeats 4000000 in
theorem Av6 (hG:GX G) (H:Ac) (hl:l.length<=800000) (hT:Gq l):Ai Tryz.prog G 20 [Cc l] H (Au (Vj (Pp l)) H):=by
 have ha:=fun r=>Bw1 (r:=r) hG hl;refine Ad Tryz.func20 Tryz.call20 rfl (by kernel_rfl) ?_;simp(disch:=omega) only[go_sem,↓reduceIte];refine(Bf6 hG H hl 70 ((Ai6 l).mp dCl) (Aw Zv) ?_ ?_).mono ?_
 ·intro v k e;cases hc:Ai6 l with
  | bot=>rw[hc] at e;cases e
  | fail k=>rw[hc] at e;cases e
  | ok x k=>rw[hc] at e;cases e;exact⟨rfl,rfl⟩
 ·intro r H hr;exact Au8 hG hl (Ci l) (fun m _=>(ha r m).choice) H 0 hr (by omega) (Aw Zv)
 ·rintro _ H1 ⟨rfl,rfl⟩;have had:=Ai7 (l:=l);have hfit:=Xf hT;unfold Pp;cases hres:Ai6 l with
  | bot=>exact absurd hres Zv
  | fail k=>
   simp(disch:=omega) only[go_sem,↓reduceIte,Ap0,Res.mp];exact Fc.fin (Sub.refl _) (Fc.tuple (.cons (Fc.nil (Sub.refl _)) (Ek.keep (Sub.refl _) _))) ⟨rfl,rfl⟩
  | ok x k=>
   rw[hres] at hfit had;obtain⟨hb,hok⟩:=hfit x k rfl;have hk:=had.2;simp(disch:=omega) only[go_sem,↓reduceIte,Ap0,Res.mp];refine(Zc hG _ x (by omega) hok).mono ?_;rintro _ H2 ⟨rfl,rfl⟩;cases hm:Qy x with
   | true=>
    simp(disch:=omega) only[go_sem,↓reduceIte];exact Nu.refl ⟨rfl,rfl⟩
   | false=>
    simp(disch:=omega) only[go_sem,↓reduceIte];exact Fc.fin (Sub.refl _) (Fc.tuple (.cons (Fc.nil (Sub.refl _)) (Ek.keep (Sub.refl _) _))) ⟨rfl,rfl⟩
end
end Go.Dl

-- Chapter 3: the package's writer: words, names.
namespace Go.Dl
open Go Go.Proofs
set_option maxRecDepth 100000
def WAt (B:Ac) (r:Nat) (ts:List Tok) (H:Ac):Prop:= ∃v,Dj (upd B r (some (.cells [v] 122))) 31 4 ts.length (ts.flatMap Ec) v H
def WrC (P:Program) (G:Nat->DVal) (f:FuncId) (args:List DVal) (t:List Tok):Prop:=
 ∀B r ts H,B r=none->ts.length+t.length<=1000000000->WAt B r ts H->Ai P G f (.optr r 0::args) H (fun e H'=>e= .ret (.tuple [])/\WAt B r (ts++t) H')
section
variable {B B1 H H':Ac} {r x:Nat} {ts:List Tok}
theorem WAt.keep (h:WAt B r ts H) {o:DObj} (hx:B x=some o) (n:x≠r):H x=some o:=by
 obtain⟨v,h⟩:=h;exact h.keep (by rw[Ao _ _ _ _ n];exact hx)
theorem WAt.lo (h:WAt B r ts H) (hx:H x=none):B x=none/\x≠r:=by
 obtain⟨v,h⟩:=h;have:=h.sub.lo hx;simp only[upd] at this;split at this
 ·cases this
 ·exact⟨this,‹_›⟩
theorem WAt.frame (h:WAt B r ts H) (hx:H x=none) (o:DObj):WAt (upd B x (some o)) r ts (upd H x (some o)):=by
 have n:=(h.lo hx).2;obtain⟨v,h⟩:=h;refine⟨v,?_⟩;rw[Qr n.symm];exact h.frame hx o
theorem WAt.less (h:WAt B r ts H) (s:Sub B1 B):WAt B1 r ts H:=by
 obtain⟨v,h⟩:=h;exact⟨v,h.less (s.both r _)⟩
theorem WAt.drop {o:DObj} (h:WAt (upd B x (some o)) r ts H) (hx:B x=none):WAt B r ts H:=h.less ((Sub.refl B).new hx _)
end
section
variable {G:Nat->DVal} {H:Ac}
theorem Pq (ts:List Tok) (t:Tok):(ts++ [t]).flatMap Ec=ts.flatMap Ec++Ec t:=by simp
set_option maxHeartbeats 4000000 in
theorem Hg (hG:GX G) (ws:List (List UInt8)):WrC Tryz.prog G 141 [dW ws] (ws.map Bo):=by
 intro B r ts H hB hlen hw;rw[List.length_map] at hlen;refine Ad Tryz.func141 Tryz.call141 rfl (by kernel_rfl) ?_;simp(disch:=omega) only[go_sem,↓reduceIte,dW];obtain⟨I,hI⟩: ∃I:Nat->(Nat->DVal)->Ac->Prop,∀j env heap,I j env heap↔(env 0= .optr r 0/\env 7=dW ws/\env 8=dI ws.length/\env 9=dI j/\j<=ws.length/\WAt B r (ts++(ws.take j).map Bo) heap):=⟨_,fun _ _ _=>Iff.rfl⟩;refine Bt4.run I (fun j=>ws.length-j) 0 ((hI _ _ _).2 ?_) ?_
 ·simp(disch:=omega) only[go_sem,↓reduceIte];(repeat' apply And.intro)<;>(try first | rfl | assumption | omega);simpa using hw
 ·intro j env heap hi;obtain⟨e0,e7,e8,e9,hj,hwj⟩:=(hI _ _ _).1 hi;by_cases hlt:j<ws.length
  ·have hlt':(j:Int)<(ws.length:Int):=by omega
   have hw1:IntKind.i64.wrap ((j:Int)+1)=((j+1:Nat):Int):=by rw[IntKind.wrap_i64];omega
   have hget:(ws.map DVal.str)[j]? =some (.str ws[j]):=by rw[List.getElem?_map,List.getElem?_eq_getElem hlt];rfl
   have hml:(ws.map DVal.str).length=ws.length:=List.length_map _;have htk:(ws.take (j+1)).map Bo=(ws.take j).map Bo++ [Bo ws[j]]:=by rw[List.take_add_one,List.getElem?_eq_getElem hlt,Option.toList_some,List.map_append,List.map_singleton]
   obtain⟨s,hse⟩: ∃s,s=ws[j]:=⟨_,rfl⟩;rw[<-hse] at hget htk;simp(disch:=omega) only[go_sem,↓reduceIte,e0,e7,e8,e9,hlt',dW,hget,hml,Int.toNat_natCast];intro r6 hr6;dsimp only at hr6;simp(disch:=omega) only[go_sem,↓reduceIte,e0,e7,e8,e9];obtain⟨v,hv⟩:=hwj;have gr:=hv.keep (Aa _ _ _);have n6:r≠r6:=Ae hr6 gr;have m6:=n6.symm;have hl2:(ts++(ws.take j).map Bo).length<=1000000000:=by rw[List.length_append,List.length_map,List.length_take];omega
   refine(Ad9 hG _ s).mono ?_;rintro _ H2 ⟨rfl,rfl⟩;cases hkb:Qc s with
   | true=>
    have hk:Bo s=⟨2,0,s,0⟩:=by rw[Bo,Ea,hkb];rfl
    simp(disch:=omega) only[go_sem,↓reduceIte,e0,e7,e8,e9];refine Aj (by kernel_rfl) (.take 0 (.take 1 (.take 2 (.take 3 (.take 4 (.take 5 (.go 6 [4] (.go 7 [] (.take 8 (.take 9 (.go 10 [] .done))))))))))) (by kernel_rfl) ?_;simp(disch:=omega) only[go_sem,↓reduceIte,e0,e7,e8,e9,gr,n6,m6];intro r24 hr24;dsimp only at hr24;have n24:r≠r24:=Ae hr24 (Ag gr n6);have m24:=n24.symm;have hv6:=(hv.new hr6 _).new hr24 (some (.cells (Ec (Bo s)) 31));simp(disch:=omega) only[go_sem,↓reduceIte,e0,e7,e8,e9,gr,n6,m6,n24,m24];rw[hk] at hv6;refine Dj.append (m:=1) hv6 rfl (by omega) fun v2 H6 hv2=> ?_;have g6:=hv2.keep (Aa _ _ _);obtain⟨j1,j2⟩:=hv2.cell1;simp(disch:=omega) only[go_sem,↓reduceIte,e0,e7,e8,e9,g6,j1,j2];refine⟨j+1,_,Ni.refl _,(hI _ _ _).2 ?_,by omega⟩;simp(disch:=omega) only[go_sem,↓reduceIte,e0,e7,e8,e9,hw1];(repeat' apply And.intro)<;>(try first | rfl | assumption | omega);refine⟨v2,?_⟩;have hv3:=hv2.at (Aa _ _ _) (some (.cells [v2] 122));rw[Da] at hv3;rw[htk,<-List.append_assoc,Pq,hk,List.length_append,List.length_singleton];exact hv3
   | false=>
    have hk:Bo s=⟨4,0,s,0⟩:=by rw[Bo,Ea,hkb];rfl
    simp(disch:=omega) only[go_sem,↓reduceIte,e0,e7,e8,e9];refine Aj (by kernel_rfl) (.take 0 (.take 1 (.take 2 (.take 3 (.take 4 (.take 5 (.go 6 [4] (.go 7 [] (.take 8 (.take 9 (.go 10 [] .done))))))))))) (by kernel_rfl) ?_;simp(disch:=omega) only[go_sem,↓reduceIte,e0,e7,e8,e9,gr,n6,m6];intro r24 hr24;dsimp only at hr24;have n24:r≠r24:=Ae hr24 (Ag gr n6);have m24:=n24.symm;have hv6:=(hv.new hr6 _).new hr24 (some (.cells (Ec (Bo s)) 31));simp(disch:=omega) only[go_sem,↓reduceIte,e0,e7,e8,e9,gr,n6,m6,n24,m24];rw[hk] at hv6;refine Dj.append (m:=1) hv6 rfl (by omega) fun v2 H6 hv2=> ?_;have g6:=hv2.keep (Aa _ _ _);obtain⟨j1,j2⟩:=hv2.cell1;simp(disch:=omega) only[go_sem,↓reduceIte,e0,e7,e8,e9,g6,j1,j2];refine⟨j+1,_,Ni.refl _,(hI _ _ _).2 ?_,by omega⟩;simp(disch:=omega) only[go_sem,↓reduceIte,e0,e7,e8,e9,hw1];(repeat' apply And.intro)<;>(try first | rfl | assumption | omega);refine⟨v2,?_⟩;have hv3:=hv2.at (Aa _ _ _) (some (.cells [v2] 122));rw[Da] at hv3;rw[htk,<-List.append_assoc,Pq,hk,List.length_append,List.length_singleton];exact hv3
  ·have:j=ws.length:=by omega
   subst this;have hlt': ¬(ws.length:Int)<(ws.length:Int):=by omega
   rw[List.take_length] at hwj;simp(disch:=omega) only[go_sem,↓reduceIte,e0,e7,e8,e9,hlt'];exact Nu.refl ⟨rfl,hwj⟩
end
end Go.Dl

-- Chapter 3: the package's writer: names, parts, bounds, operators, membership, choices.
namespace Go.Dl
open Go Go.Proofs
set_option maxRecDepth 100000
section
variable {G:Nat->DVal} {H B:Ac} {r:Nat} {ts:List Tok}
theorem WAt.ne {x:Nat} (h:WAt B r ts H) (hx:H x=none):r≠x:=fun e=>(h.lo hx).2 e.symm
def WQ (B:Ac) (r:Nat) (ts:List Tok) (e:DEnd) (H':Ac):Prop:=e= .ret (.tuple [])/\WAt B r ts H'
theorem Mm (hG:GX G) (s:List UInt8) {q:Nat} (hq:H q=none) (hB:B r=none) (hlen:ts.length+1<=1000000000) (hw:WAt B r ts H):Ai Tryz.prog G 141 [.optr r 0, .oslice 1 q 0 1 1] (upd H q (some (.cells [.str s] 9))) (WQ B r (ts++ [Bo s])):=by
 refine Ai.fzA q hq ?_;have n:r≠q:=hw.ne hq;simp only[fzs,fz,if_neg n,if_pos];exact Hg hG [s] B r ts H hB hlen hw
theorem Dr6 (hG:GX G) (s t:List UInt8) {q:Nat} (hq:H q=none) (hB:B r=none) (hlen:ts.length+2<=1000000000) (hw:WAt B r ts H):Ai Tryz.prog G 141 [.optr r 0, .oslice 1 q 0 2 2] (upd H q (some (.cells [.str s, .str t] 9))) (WQ B r (ts++ [Bo s,Bo t])):=by
 refine Ai.fzA q hq ?_;have n:r≠q:=hw.ne hq;simp only[fzs,fz,if_neg n,if_pos];exact Hg hG [s,t] B r ts H hB hlen hw
theorem Th (G:Nat->DVal) (s:List UInt8):WrC Tryz.prog G 142 [.str s] [Sd s]:=by
 intro B r ts H hB hlen hw;rw[List.length_singleton] at hlen;refine Ad Tryz.func142 Tryz.call142 rfl (by kernel_rfl) ?_;simp(disch:=omega) only[go_sem,↓reduceIte];obtain⟨v,hv⟩:=hw;have gr:=hv.keep (Aa _ _ _);simp(disch:=omega) only[go_sem,↓reduceIte,gr];intro r6 hr6;dsimp only at hr6;have n6:r≠r6:=Ae hr6 gr;have m6:=n6.symm;have hv6:=hv.new hr6 (some (.cells (Ec (Sd s)) 31));simp(disch:=omega) only[go_sem,↓reduceIte,gr,n6,m6];refine Dj.append (m:=1) hv6 rfl (by omega) fun v2 H6 hv2=> ?_;have g6:=hv2.keep (Aa _ _ _);obtain⟨j1,j2⟩:=hv2.cell1;simp(disch:=omega) only[go_sem,↓reduceIte,g6,j1,j2];refine Nu.refl ⟨rfl,v2,?_⟩;have hv3:=hv2.at (Aa _ _ _) (some (.cells [v2] 122));rw[Da] at hv3;rw[Pq,List.length_append,List.length_singleton];exact hv3
end
section
variable {G:Nat->DVal}
set_option maxHeartbeats 4000000 in
theorem Co (hG:GX G) (e:Ex) (lv:Int) (he:WrC Tryz.prog G 99 [.agg (dEx e)] (Ar e)):WrC Tryz.prog G 143 [.agg (dEx e),dI lv] (Dm e lv):=by
 intro B r ts H hB hlen hw;refine Ad Tryz.func143 Tryz.call143 rfl (by kernel_rfl) ?_;simp(disch:=omega) only[go_sem,↓reduceIte,DVal.cells];intro r4 hr4;dsimp only at hr4;obtain⟨K,hK⟩: ∃K',K'=upd H r4 (some (.cells (dEx e) 27)):=⟨_,rfl⟩;rw[<-hK];have gr4:K r4=some (.cells (dEx e) 27):=by rw[hK];exact Aa _ _ _
 have hwK:WAt (upd B r4 (some (.cells (dEx e) 27))) r ts K:=by rw[hK];exact hw.frame hr4 _
 have n4:r≠r4:=hw.ne hr4;have hB4:B r4=none:=(hw.lo hr4).1;have hBK:upd B r4 (some (.cells (dEx e) 27)) r=none:=by rw[Ao _ _ _ _ n4];exact hB
 simp(disch:=omega) only[go_sem,↓reduceIte,gr4];refine(Jx G K e).mono ?_;rintro _ K1 ⟨rfl,rfl⟩;by_cases c:Cb e<lv
 ·have c': ¬lv<=Cb e:=by omega
  have hp:Dm e lv=Bo Ce::(Ar e++ [Bo Cp]):=by rw[Dm,decide_eq_true c];rfl
  rw[hp] at hlen⊢
  simp only[List.length_cons,List.length_append,List.length_nil] at hlen;simp(disch:=omega) only[go_sem,↓reduceIte,c'];intro q1 hq1;dsimp only at hq1;simp(disch:=omega) only[go_sem,↓reduceIte];refine(Mm hG Ce hq1 hBK (by omega) hwK).mono ?_;rintro _ H1 ⟨rfl,h1⟩;have g1:=h1.keep (Aa _ _ _) n4.symm;simp(disch:=omega) only[go_sem,↓reduceIte,g1];refine(he _ r _ _ hBK (by simp;omega) h1).mono ?_;rintro _ H2 ⟨rfl,h2⟩;simp(disch:=omega) only[go_sem,↓reduceIte];intro q2 hq2;dsimp only at hq2;simp(disch:=omega) only[go_sem,↓reduceIte];refine(Mm hG Cp hq2 hBK (by simp;omega) h2).mono ?_;rintro _ H3 ⟨rfl,h3⟩;simp(disch:=omega) only[go_sem,↓reduceIte];refine Nu.refl ⟨rfl,?_⟩;have:=h3.drop hB4;simpa using this
 ·have c':lv<=Cb e:=by omega
  have hp:Dm e lv=Ar e:=by rw[Dm,decide_eq_false c];rfl
  rw[hp] at hlen⊢
  simp(disch:=omega) only[go_sem,↓reduceIte,c',gr4];refine(he _ r _ _ hBK hlen hwK).mono ?_;rintro _ H1 ⟨rfl,h1⟩;simp(disch:=omega) only[go_sem,↓reduceIte];exact Nu.refl ⟨rfl,h1.drop hB4⟩
end
end Go.Dl

-- Chapter 3: expressions: the plain laws, part 9: reading without the lines.
namespace Go.Dl
open Go
set_option maxRecDepth 10000
mutual
/-- Without lines, entities, types. -/
def stE:Ex->Ex
 | .mk k o n s l a _ _ _=> .mk k o n s (stL l) (Av7 a) 0 0 0
def stL:List Ex->List Ex
 | []=> []
 | x::l=>stE x::stL l
def stA:As->As
 | .mk c e=> .mk (Av8 c) (stE e)
def Av7:List As->List As
 | []=> []
 | x::l=>stA x::Av7 l
def stC:Ch->Ch
 | .mk k l=> .mk k (stL l)
def Av8:List Ch->List Ch
 | []=> []
 | x::l=>stC x::Av8 l
end
mutual
theorem Ai8: ∀e f:Ex,Gr e f=true↔stE e=stE f
 | .mk k o n s l a li en t, .mk k' o' n' s' l' a' li' en' t'=>by
  rw[Gr,stE,stE]
  show(decide (k=k')&&decide (o=o')&&decide (n=n')&&decide (s=s')&&Gv l l'&&Gw a a')=true↔_
  simp only[Bool.and_eq_true,decide_eq_true_eq,Ai9 l l',Xh a a',Ex.mk.injEq,and_true,and_assoc]
theorem Ai9: ∀l m:List Ex,Gv l m=true↔stL l=stL m
 | [],[]=>by simp [Gv,stL]
 | [],y::m=>by simp [Gv,stL]
 | x::l,[]=>by simp [Gv,stL]
 | x::l,y::m=>by rw[Gv,stL,stL,Bool.and_eq_true,Ai8 x y,Ai9 l m,List.cons.injEq]
theorem Cs0: ∀x y:As,Nx x y=true↔stA x=stA y
 | .mk c e, .mk c' e'=>by
  rw[Nx,stA,stA]
  show(Gm c c'&&Gr e e')=true↔_
  simp only[Bool.and_eq_true,Xi c c',Ai8 e e',As.mk.injEq]
theorem Xh: ∀l m:List As,Gw l m=true↔Av7 l=Av7 m
 | [],[]=>by simp [Gw,Av7]
 | [],y::m=>by simp [Gw,Av7]
 | x::l,[]=>by simp [Gw,Av7]
 | x::l,y::m=>by rw[Gw,Av7,Av7,Bool.and_eq_true,Cs0 x y,Xh l m,List.cons.injEq]
theorem Cs1: ∀x y:Ch,Na x y=true↔stC x=stC y
 | .mk k l, .mk k' l'=>by
  rw[Na,stC,stC]
  show(decide (k=k')&&Gv l l')=true↔_
  simp only[Bool.and_eq_true,decide_eq_true_eq,Ai9 l l',Ch.mk.injEq]
theorem Xi: ∀l m:List Ch,Gm l m=true↔Av8 l=Av8 m
 | [],[]=>by simp [Gm,Av8]
 | [],y::m=>by simp [Gm,Av8]
 | x::l,[]=>by simp [Gm,Av8]
 | x::l,y::m=>by rw[Gm,Av8,Av8,Bool.and_eq_true,Cs1 x y,Xi l m,List.cons.injEq]
end
section
end
end Go.Dl

-- Chapter 3: expressions: the plain laws, part 10: what reading asks of the first token, and of the one behind.
namespace Go.Dl
open Go
set_option maxRecDepth 10000
theorem Me {α β γ:Type} (r:Res α) (f:α->Nat->Res β) (g:β->Nat->Res γ):(r.then f).then g=r.then fun x k=>(f x k).then g:=by cases r<;>rfl
def w5:List (List UInt8):= [Lb,Ce,Ga]
def w3:List (List UInt8):=w5++ [[42],[47],Do2,Do3]
def w2:List (List UInt8):=w3++ [[43],[45]]
def w2d:List (List UInt8):=w2++ [Dz]
def w1:List (List UInt8):=w2d++ [[61],[47,61],[60],[60,61],[62],[62,61],wIn,Rt]
def w0:List (List UInt8):=w1++ [Dl1,wOr,Do1]
def nof (ws:List (List UInt8)) (t:Tok):Prop:= ∀s∈ws,¬(t.kind=Ea s/\t.text=s)
instance (ws:List (List UInt8)) (t:Tok):Decidable (nof ws t):=inferInstanceAs (Decidable (∀s∈ws,¬(t.kind=Ea s/\t.text=s)))
theorem Dc4 {ws ws':List (List UInt8)} {t:Tok} (h:nof ws t) (hs: ∀s∈ws',s∈ws):nof ws' t:=fun s m=>h s (hs s m)
section
end
end Go.Dl

-- Chapter 3: expressions: the plain laws, part 11: reading the tokens of an expression.
namespace Go.Dl
open Go
set_option maxRecDepth 10000
def At (l:List Tok) (k:Nat) (ts:List Tok):Prop:=k<=l.length/\ts<+:l.drop k
section
variable {l:List Tok} {k k':Nat} {s:List UInt8} {p:PS}
theorem s10 {t:Tok} (h:nof w0 t):nof w1 t:=Dc4 h (by decide)
section
end
end
end Go.Dl

-- Chapter 3: expressions: the plain laws, part 12: the tokens of an expression are read as that expression.
namespace Go.Dl
open Go
set_option maxRecDepth 10000
theorem Dc5 {l:List Ex} (h:l.length=1): ∃x,l= [x]:=by
 match l,h with
 | [x],_=>exact⟨x,rfl⟩
theorem Cs2 {l:List Ex} (h:l.length=2): ∃x y,l= [x,y]:=by
 match l,h with
 | [x,y],_=>exact⟨x,y,rfl⟩
theorem Dq2 {l:List Ex} (h:l.length=3): ∃x y z,l= [x,y,z]:=by
 match l,h with
 | [x,y,z],_=>exact⟨x,y,z,rfl⟩
theorem Av9 {e:Ex} (h:Fv e 1=true): ∃x,e.l= [x]/\Bc x=true:=by
 rw[Fv,Bool.and_eq_true,decide_eq_true_eq] at h;obtain⟨x,hx⟩:=Dc5 h.1;rw[hx] at h;exact⟨x,hx,h.2⟩
theorem Dc6 {e:Ex} (h:Fv e 2=true): ∃x y,e.l= [x,y]/\Bc x=true:=by
 rw[Fv,Bool.and_eq_true,decide_eq_true_eq] at h;obtain⟨x,y,hx⟩:=Cs2 h.1;rw[hx] at h;exact⟨x,y,hx,h.2⟩
section
variable {e:Ex}
theorem ff1 (h:e.kind=1) (hf:Af e=true):e.l= []/\e.oper=0/\e.s= []/\e.a= []:=by
 have:Af e=(e.l.isEmpty&&decide (0<=e.n)&&decide (e.n<=2147483647)&&zO e&&zS e&&zA e):=by unfold Af;rw[h];rfl
 rw[this] at hf;simp only[Bool.and_eq_true,zO,zS,zA,decide_eq_true_eq,List.isEmpty_iff] at hf;exact⟨hf.1.1.1.1.1,hf.1.1.2,hf.1.2,hf.2⟩
theorem Dc7 (h:e.kind=4\/e.kind=6) (hf:Af e=true):(∃x,e.l= [x]/\Bc x=true)/\e.oper=0/\e.n=0/\e.a= []:=by
 have:Af e=(Fv e 1&&Kh e.s&&zO e&&zN e&&zA e):=by rcases h with h | h<;>(unfold Af;rw[h];rfl)
 rw[this] at hf;simp only[Bool.and_eq_true,zO,zN,zA,decide_eq_true_eq,List.isEmpty_iff] at hf;exact⟨Av9 hf.1.1.1.1,hf.1.1.2,hf.1.2,hf.2⟩
theorem ff5 (h:e.kind=5) (hf:Af e=true):(∃x,e.l= [x]/\Bc x=true)/\e.oper=0/\e.n=0/\e.s= []/\e.a= []:=by
 have:Af e=(Fv e 1&&zO e&&zN e&&zS e&&zA e):=by unfold Af;rw[h];rfl
 rw[this] at hf;simp only[Bool.and_eq_true,zO,zN,zS,zA,decide_eq_true_eq,List.isEmpty_iff] at hf;exact⟨Av9 hf.1.1.1.1,hf.1.1.1.2,hf.1.1.2,hf.1.2,hf.2⟩
theorem ff7 (h:e.kind=7) (hf:Af e=true):(∃x,e.l= [x]/\Bc x=true)/\Gl e.a=true/\e.oper=0/\e.n=0/\e.s= []:=by
 have:Af e=(Fv e 1&&Gl e.a&&zO e&&zN e&&zS e):=by unfold Af;rw[h];rfl
 rw[this] at hf;simp only[Bool.and_eq_true,zO,zN,zS,decide_eq_true_eq] at hf;exact⟨Av9 hf.1.1.1.1,hf.1.1.1.2,hf.1.1.2,hf.1.2,hf.2⟩
theorem ff8 (h:e.kind=8) (hf:Af e=true):(∃x y,e.l= [x,y]/\Bc x=true)/\e.oper=0/\e.n=0/\e.s= []/\e.a= []:=by
 have:Af e=(Fv e 2&&zO e&&zN e&&zS e&&zA e):=by unfold Af;rw[h];rfl
 rw[this] at hf;simp only[Bool.and_eq_true,zO,zN,zS,zA,decide_eq_true_eq,List.isEmpty_iff] at hf;exact⟨Dc6 hf.1.1.1.1,hf.1.1.1.2,hf.1.1.2,hf.1.2,hf.2⟩
theorem ff9 (h:e.kind=9) (hf:Af e=true):e.l= []/\Ej e.a=true/\e.oper=0/\e.n=0/\e.s= []:=by
 have:Af e=(e.l.isEmpty&&Ej e.a&&zO e&&zN e&&zS e):=by unfold Af;rw[h];rfl
 rw[this] at hf;simp only[Bool.and_eq_true,zO,zN,zS,decide_eq_true_eq,List.isEmpty_iff] at hf;exact⟨hf.1.1.1.1,hf.1.1.1.2,hf.1.1.2,hf.1.2,hf.2⟩
theorem Dq3 (h:e.kind=10) (hf:Af e=true):(∃x y z,e.l= [x,y,z])/\e.oper=0/\e.n=0/\e.s= []/\e.a= []:=by
 have:Af e=(decide (e.l.length=3)&&zO e&&zN e&&zS e&&zA e):=by unfold Af;rw[h];rfl
 rw[this] at hf;simp only[Bool.and_eq_true,zO,zN,zS,zA,decide_eq_true_eq,List.isEmpty_iff] at hf;exact⟨Dq2 hf.1.1.1.1,hf.1.1.1.2,hf.1.1.2,hf.1.2,hf.2⟩
theorem Dq4 (h:e.kind=11) (hf:Af e=true):(∃x,e.l= [x])/\(∃o:Nat,e.oper=o/\(o=18\/o=19\/o=20\/o=21))/\e.n=0/\e.s= []/\e.a= []:=by
 have:Af e=(decide (e.l.length=1)&&decide (18<=e.oper)&&decide (e.oper<=21)&&zN e&&zS e&&zA e):=by unfold Af;rw[h];rfl
 rw[this] at hf;simp only[Bool.and_eq_true,zN,zS,zA,decide_eq_true_eq,List.isEmpty_iff] at hf;exact⟨Dc5 hf.1.1.1.1.1,⟨e.oper.toNat,by omega,by omega⟩,hf.1.1.2,hf.1.2,hf.2⟩
theorem Dq5 (h:e.kind=12) (hf:Af e=true):(∃x y,e.l= [x,y])/\(∃o:Nat,e.oper=o/\1<=o/\o<=17)/\e.n=0/\e.s= []/\e.a= []:=by
 have:Af e=(decide (e.l.length=2)&&decide (1<=e.oper)&&decide (e.oper<=17)&&zN e&&zS e&&zA e):=by unfold Af;rw[h];rfl
 rw[this] at hf;simp only[Bool.and_eq_true,zN,zS,zA,decide_eq_true_eq,List.isEmpty_iff] at hf;exact⟨Cs2 hf.1.1.1.1.1,⟨e.oper.toNat,by omega,by omega,by omega⟩,hf.1.1.2,hf.1.2,hf.2⟩
theorem Dg4 (h:e.kind=13\/e.kind=14) (hf:Af e=true):((∃x y z,e.l= [x,y,z])\/ ∃x y,e.l= [x,y]/\Bc y=true)/\e.oper=0/\e.n=0/\e.s= []/\e.a= []:=by
 have:Af e=((decide (e.l.length=3) || decide (e.l.length=2)&&Bc (e.l.getD 1 ex0))&&zO e&&zN e&&zS e&&zA e):=by rcases h with h | h<;>(unfold Af;rw[h];rfl)
 rw[this] at hf;simp only[Bool.and_eq_true,Bool.or_eq_true,zO,zN,zS,zA,decide_eq_true_eq,List.isEmpty_iff] at hf;refine⟨?_,hf.1.1.1.2,hf.1.1.2,hf.1.2,hf.2⟩;rcases hf.1.1.1.1 with h3 | h2
 ·exact .inl (Dq2 h3)
 ·obtain⟨x,y,hx⟩:=Cs2 h2.1;rw[hx] at h2;exact .inr ⟨x,y,hx,h2.2⟩
theorem Ap3 (h:3<=e.kind/\e.kind<=8):Bc e=true:=by rw[Bc,decide_eq_true h.1,decide_eq_true h.2];rfl
theorem Ti (h:e.kind<3\/8<e.kind):Bc e=true->False:=fun c=>by
 rw[Bc,Bool.and_eq_true,decide_eq_true_eq,decide_eq_true_eq] at c;omega
end
section
end
end Go.Dl

-- Chapter 3: expressions: the plain laws, part 13: the tokens of an expression are read as that expression: each kind.
namespace Go.Dl
open Go
set_option maxRecDepth 10000
theorem Pr: ∀ {l:List As},Ei l=true-> ∀a∈l,(a.c.isEmpty || Cq a.c)=true
 | [],_,a,h=>by cases h
 | b::r,h,a,hm=>by
  rw[Ei,Bool.and_eq_true] at h;rcases List.mem_cons.1 hm with rfl | hm
  ·have:=h.1;rw[Bool.or_eq_true] at this⊢
   rcases this with h1 | h1
   ·exact .inl h1
   ·rw[Bool.and_eq_true] at h1;exact .inr h1.1
  ·exact Pr h.2 a hm
section
end
end Go.Dl

-- Chapter 3: expressions: the plain laws, part 14: the tokens of an expression are read as that expression: operators, membership; all.
namespace Go.Dl
open Go
set_option maxRecDepth 10000
section
end
theorem Vk {d:Nat} {e:Ex} (h:Ed d e=true):Af e=true/\ ∀x∈parts e,Ed (d+1) x=true:=by
 rw[Nw,Bool.and_eq_true,Bool.and_eq_true,List.all_eq_true] at h;exact⟨h.1.2,h.2⟩
end Go.Dl
