/- The data level and the contracts of the functions that are reached (part 7). -/
import Derived.Test.YtkieniphnglaaaaGreatDoorPcf
set_option linter.unusedSimpArgs false
set_option linter.unusedVariables false
set_option linter.unusedSectionVars false
-- Chapter 3: the package's reader: parentheses.
namespace Go.Dl
open Go Go.Proofs
set_option maxRecDepth 100000
def ifR (l:List Tok) (p:Nat->Res Ex) (line:Int):List (List UInt8)->List Ex->Nat->Res Ex
 | [],xs,k=> .ok (.mk 10 0 0 [] xs [] line 0 0) k
 | w::ws,xs,k=>(p k).then fun a k=>Da l w k fun k=>ifR l p line ws (xs++ [a]) k
section
variable {G:Nat->DVal} {H0 H H':Ab} {r k:Nat} {l:List Tok}
def Yl (H:Ab) (l:List Ex) (v:DVal) (H':Ab):Prop:=Ea H 36 9 l.length (l.flatMap dEx) v H'
theorem Af2 {x:List DVal} (hx:x.length=9):
  (if 9<=(Cm 1 [DVal.int .u8 0,DVal.int .u8 0,DVal.int .i64 0,DVal.str [],DVal.nilSlice,DVal.nilSlice,DVal.int .i64 0,DVal.int .i64 0,DVal.int .i64 0]).length then some (x++List.drop 9 (Cm 1 [DVal.int .u8 0,DVal.int .u8 0,DVal.int .i64 0,DVal.str [],DVal.nilSlice,DVal.nilSlice,DVal.int .i64 0,DVal.int .i64 0,DVal.int .i64 0])) else none)=some x:=by
 have e: ∀u:List DVal,Cm 1 u=u:=fun u=>by simp [Cm]
 rw[e,if_pos (by simp),List.drop_eq_nil_of_le (by simp),List.append_nil]
set_option maxHeartbeats 4000000 in
theorem Bo4 (hG:GX G) (hl:l.length<=800000) (n:Nat) (hpa:RdC Tryz.prog G l 105 r fun k=>((P l n).expr k).mp dE) (hc: ∀m≤n,RdC Tryz.prog G l 370 r fun k=>((P l m).assoc k).mp dA):RdC Tryz.prog G l 249 r fun k=>((P l (n+1)).paren k).mp dE:=by
 intro H k hr hk hn
 obtain⟨li,hli⟩: ∃li,li=(tk l k).line:=⟨_,rfl⟩
 have e:(P l (n+1)).paren k=Da l Bo k fun k1=>if isW l k1 [wIf] then ifR l (P l n).expr (tk l (k1-1)).line [Jm,Ke,Cc] [] (k1+1) else(((P l n).assoc k1).then fun a k=>(P l n).assocsL [a] k).then fun xs k=>Da l Cc k fun k=> .ok (Ad5 (tk l (k1-1)).line xs) k:=by
  have hth: ∀(a:Res As) (f:As->Nat->Res (List As)) (g:List As->Nat->Res Ex),(a.then f).then g=a.then fun x k=>(f x k).then g:=fun a f g=>by cases a<;>rfl
  simp only[hth];rfl
 dsimp only at hn⊢
 rw[e] at hn⊢
 obtain⟨res,hres⟩: ∃res,res=Da l Bo k fun k1=>if isW l k1 [wIf] then ifR l (P l n).expr (tk l (k1-1)).line [Jm,Ke,Cc] [] (k1+1) else(((P l n).assoc k1).then fun a k=>(P l n).assocsL [a] k).then fun xs k=>Da l Cc k fun k=> .ok (Ad5 (tk l (k1-1)).line xs) k:=⟨_,rfl⟩
 rw[<-hres] at hn⊢
 refine Ac Tryz.func249 Tryz.call249 rfl (by kernel_rfl) ?_
 simp(disch:=omega) only[go_sem,↓reduceIte]
 intro r2 hr2;dsimp only at hr2
 obtain⟨Ha,hHa⟩: ∃K,K=upd H r2 (some (.cells [.int .u8 0, .int .u8 0, .int .i64 0, .str [], .nilSlice, .nilSlice, .int .i64 0, .int .i64 0, .int .i64 0] 36)):=⟨_,rfl⟩
 rw[<-hHa]
 have gr2:Ha r2=some (.cells [.int .u8 0, .int .u8 0, .int .i64 0, .str [], .nilSlice, .nilSlice, .int .i64 0, .int .i64 0, .int .i64 0] 36):=by rw[hHa];exact Aa _ _ _
 have n2:r≠r2:=Af hr2 hr
 have q2:=n2.symm
 have ha:RAt r l k H Ha:=by rw[hHa];exact(RAt.refl hr).new hr2 _
 simp(disch:=omega) only[go_sem,↓reduceIte]
 refine(Wt G _ ha.get (by omega) (by omega)).mono ?_
 rintro _ H1 ⟨rfl,hH1⟩
 rw[hH1,<-hli]
 simp(disch:=omega) only[go_sem,↓reduceIte]
 intro r3 hr3;dsimp only at hr3
 simp(disch:=omega) only[go_sem,↓reduceIte]
 obtain⟨Hb,hHb⟩: ∃K,K=upd Ha r3 (some (.cells [.int .u8 9, .int .u8 0, .int .i64 0, .str [], .nilSlice, .nilSlice, .int .i64 li, .int .i64 0, .int .i64 0] 36)):=⟨_,rfl⟩
 rw[<-hHb]
 have gr3:Hb r3=some (.cells [.int .u8 9, .int .u8 0, .int .i64 0, .str [], .nilSlice, .nilSlice, .int .i64 li, .int .i64 0, .int .i64 0] 36):=by rw[hHb];exact Aa _ _ _
 have n23:r2≠r3:=Af hr3 gr2
 have m23:=n23.symm
 have n3:r≠r3:=Af hr3 ha.get
 have q3:=n3.symm
 have h30:H r3=none:=ha.lo hr3
 have hab:RAt r l k H Hb:=by rw[hHb];exact ha.new hr3 _
 have gb2:Hb r2=some (.cells [.int .u8 0, .int .u8 0, .int .i64 0, .str [], .nilSlice, .nilSlice, .int .i64 0, .int .i64 0, .int .i64 0] 36):=by rw[hHb];exact Ai gr2 n23
 refine(Gm hG Hb Bo hab.get (by omega) (by omega)).mono ?_
 intro e1 H2 hq
 unfold Da at hq hres
 by_cases b0:isW l k [Bo]=true
 ·rw[if_pos b0] at hq hres
  obtain⟨rfl,hH2⟩:=hq
  dsimp only at hres
  rw[Nat.add_sub_cancel,<-hli] at hres
  have hk1:=Ao b0 hk
  rw[List.length_singleton] at hk1
  obtain⟨k1,hk1e⟩: ∃k1,k1=k+1:=⟨_,rfl⟩
  rw[<-hk1e] at hres hH2 hk1
  have ha2:RAt r l k1 H H2:=by rw[hH2];exact hab.set k1
  have g22:H2 r2=some (.cells [.int .u8 0, .int .u8 0, .int .i64 0, .str [], .nilSlice, .nilSlice, .int .i64 0, .int .i64 0, .int .i64 0] 36):=by rw[hH2];exact Ai gb2 q2
  have g23:H2 r3=some (.cells [.int .u8 9, .int .u8 0, .int .i64 0, .str [], .nilSlice, .nilSlice, .int .i64 li, .int .i64 0, .int .i64 0] 36):=by rw[hH2];exact Ai gr3 q3
  simp(disch:=omega) only[go_sem,↓reduceIte]
  intro w1 hw1;dsimp only at hw1
  simp(disch:=omega) only[go_sem,↓reduceIte]
  refine(Sy hG _ w1 wIf hw1 ha2.get (by omega) (by omega)).mono ?_
  rintro _ H4 ⟨rfl,hH4⟩
  by_cases b1:isW l k1 [wIf]=true
  ·rw[if_pos b1] at hH4 hres
   have hk2:=Ao b1 hk1
   rw[List.length_singleton] at hk2
   have ha4:RAt r l (k1+1) H H4:=by rw[hH4];exact ha2.set _
   have g42:H4 r2=some (.cells [.int .u8 0, .int .u8 0, .int .i64 0, .str [], .nilSlice, .nilSlice, .int .i64 0, .int .i64 0, .int .i64 0] 36):=by rw[hH4];exact Ai g22 q2
   have g43:H4 r3=some (.cells [.int .u8 9, .int .u8 0, .int .i64 0, .str [], .nilSlice, .nilSlice, .int .i64 li, .int .i64 0, .int .i64 0] 36):=by rw[hH4];exact Ai g23 q3
   simp(disch:=omega) only[go_sem,↓reduceIte,b1,g43]
   obtain⟨H5,hH5⟩: ∃K,K=upd H4 r3 (some (.cells [.int .u8 10, .int .u8 0, .int .i64 0, .str [], .nilSlice, .nilSlice, .int .i64 li, .int .i64 0, .int .i64 0] 36)):=⟨_,rfl⟩
   rw[<-hH5]
   have ha5:RAt r l (k1+1) H H5:=by rw[hH5];exact ha4.own h30 q3 _
   have g53:H5 r3=some (.cells [.int .u8 10, .int .u8 0, .int .i64 0, .str [], .nilSlice, .nilSlice, .int .i64 li, .int .i64 0, .int .i64 0] 36):=by rw[hH5];exact Aa _ _ _
   have g52:H5 r2=some (.cells [.int .u8 0, .int .u8 0, .int .i64 0, .str [], .nilSlice, .nilSlice, .int .i64 0, .int .i64 0, .int .i64 0] 36):=by rw[hH5];exact Ai g42 n23
   intro w15 hw15;dsimp only at hw15
   obtain⟨Hk,hHk⟩: ∃K,K=upd H5 w15 (some (.cells [.str [116,104,101,110], .str [101,108,115,101], .str [41]] 9)):=⟨_,rfl⟩
   rw[<-hHk]
   have gw15:Hk w15=some (.cells [.str [116,104,101,110], .str [101,108,115,101], .str [41]] 9):=by rw[hHk];exact Aa _ _ _
   have n15:r3≠w15:=Af hw15 g53
   have n152:r2≠w15:=Af hw15 g52
   have n15r:r≠w15:=Af hw15 ha5.get
   have hak:RAt r l (k1+1) H Hk:=by rw[hHk];exact ha5.new hw15 _
   have gk3:Hk r3=some (.cells [.int .u8 10, .int .u8 0, .int .i64 0, .str [], .nilSlice, .nilSlice, .int .i64 li, .int .i64 0, .int .i64 0] 36):=by rw[hHk];exact Ai g53 n15
   have gk2:Hk r2=some (.cells [.int .u8 0, .int .u8 0, .int .i64 0, .str [], .nilSlice, .nilSlice, .int .i64 0, .int .i64 0, .int .i64 0] 36):=by rw[hHk];exact Ai g52 n152
   obtain⟨AB,hAB⟩: ∃AB:DVal->Nat->Ab,∀v k,AB v k=upd (upd Hk r3 (some (.cells [.int .u8 10, .int .u8 0, .int .i64 0, .str [],v, .nilSlice, .int .i64 li, .int .i64 0, .int .i64 0] 36))) r (some (rdO l k)):=⟨_,fun _ _=>rfl⟩
   have hABr: ∀v k,AB v k r=some (rdO l k):=fun v k=>by rw[hAB];exact Aa _ _ _
   have hAB3: ∀v k,AB v k r3=some (.cells [.int .u8 10, .int .u8 0, .int .i64 0, .str [],v, .nilSlice, .int .i64 li, .int .i64 0, .int .i64 0] 36):=fun v k=>by rw[hAB,Aq _ _ _ _ q3];exact Aa _ _ _
   have hAB2: ∀v k,AB v k r2=some (.cells [.int .u8 0, .int .u8 0, .int .i64 0, .str [], .nilSlice, .nilSlice, .int .i64 0, .int .i64 0, .int .i64 0] 36):=fun v k=>by rw[hAB,Aq _ _ _ _ q2,Aq _ _ _ _ n23];exact gk2
   have hABw: ∀v k,AB v k w15=some (.cells [.str [116,104,101,110], .str [101,108,115,101], .str [41]] 9):=fun v k=>by rw[hAB,Aq _ _ _ _ n15r.symm,Aq _ _ _ _ n15.symm];exact gw15
   have hABk: ∀v k k',upd (AB v k) r (some (rdO l k'))=AB v k':=fun v k k'=>by rw[hAB,hAB,Hj]
   have hABv: ∀v v' k,upd (AB v k) r3 (some (.cells [.int .u8 10, .int .u8 0, .int .i64 0, .str [],v', .nilSlice, .int .i64 li, .int .i64 0, .int .i64 0] 36))=AB v' k:=fun v v' k=>by rw[hAB,hAB,Qd q3,Hj]
   have hABa: ∀v k,RAt r l k H (AB v k):=fun v k=>by rw[hAB];exact(hak.own h30 q3 _).set k
   have hv0:Yl (AB .nilSlice (k1+1)) [] .nilSlice Hk:=by
    rw[hAB,Cq gk3,Cq hak.get];exact Ea.nil _ _ (Sub.refl _)
   simp(disch:=omega) only[go_sem,↓reduceIte]
   obtain⟨I,hI⟩: ∃I:Nat×List Ex×Nat->(Nat->DVal)->Ab->Prop,∀s env heap,I s env heap↔(env 0= .optr r 0/\env 2= .optr r2 0/\env 3= .optr r3 0/\env 15= .oslice 1 w15 0 3 3/\env 16=dI 3/\env 17=dI s.1/\s.1<=3/\s.2.1.length=s.1/\s.2.2<=l.length/\res=ifR l (P l n).expr li ([Jm,Ke,Cc].drop s.1) s.2.1 s.2.2/\ ∃v,Yl (AB v s.2.2) s.2.1 v heap):=⟨_,fun _ _ _=>Iff.rfl⟩
   refine Bs7.run I (fun s=>3-s.1) (0,[],k1+1) ((hI _ _ _).2 ?_) ?_
   ·simp(disch:=omega) only[go_sem,↓reduceIte]
    (repeat' apply And.intro)<;>(try first | rfl | assumption | omega)
    exact⟨_,hv0⟩
   ·rintro⟨j,xs,k2⟩ env heap hi'
    obtain⟨e0,e2,e3,e15,e16,e17,hj,hxl,hk2',hr2',v,hv⟩:=(hI _ _ _).1 hi'
    dsimp only at e17 hj hxl hk2' hr2' hv
    by_cases c:j<3
    ·have c':(j:Int)<3:=by omega
     obtain⟨w,hw,hwd⟩: ∃w,([DVal.str [116,104,101,110], .str [101,108,115,101], .str [41]])[j]? =some (.str w)/\ [Jm,Ke,Cc].drop j=w:: [Jm,Ke,Cc].drop (j+1):=by
      have:j=0\/j=1\/j=2:=by omega
      rcases this with rfl | rfl | rfl<;>exact⟨_,rfl,rfl⟩
     rw[hwd,ifR] at hr2'
     have g15:=Ea.keep hv (hABw _ _)
     have g3:=Ea.keep hv (hAB3 _ _)
     simp(disch:=omega) only[go_sem,↓reduceIte,e0,e2,e3,e15,e16,e17,c',g15,hw,Int.toNat_natCast]
     refine An (by kernel_rfl) (.take 0 (.take 1 (.take 2 (.go 3 [1] (.go 4 [1] (.go 5 [] (.take 6 (.go 7 [] .done)))))))) (by kernel_rfl) ?_
     simp(disch:=omega) only[go_sem,↓reduceIte,e0,e2,e3,e15,e16,e17,g3]
     have hpk:=hpa _ k2 (Ea.keep hv (hABr _ _)) hk2'
     have had:=(Fu (l:=l) n).expr k2 hk2'
     dsimp only at hpk
     cases hpe:(P l n).expr k2 with
     | bot=>rw[hpe,Dy] at hr2';rw[hr2'] at hn;exact absurd rfl hn
     | fail k6=>
      rw[hpe] at hpk
      rw[hpe,Dk] at hr2'
      refine(hpk (Ay (by simp))).mono ?_
      rintro e H9 ⟨rfl,hH9⟩
      have hv9:Yl (AB v k6) xs v H9:=by rw[hH9,<-hABk v k2];exact Ea.at hv (hABr _ _) _
      simp(disch:=omega) only[go_sem,↓reduceIte]
      rw[hr2']
      exact RAt.finP ((hABa v k6).more (Ea.sub hv9)) ⟨rfl,rfl⟩
     | ok y k6=>
      rw[hpe] at hpk had
      rw[hpe,Ek] at hr2'
      dsimp only[Adv] at had
      refine(hpk (Ay (by simp))).mono ?_
      rintro e H9 ⟨rfl,hH9⟩
      have hv9:Yl (AB v k6) xs v H9:=by rw[hH9,<-hABk v k2];exact Ea.at hv (hABr _ _) _
      have g93:=Ea.keep hv9 (hAB3 _ _)
      have hly:=Aj y
      simp(disch:=omega) only[go_sem,↓reduceIte,e0,e2,e3,e15,e16,e17,g3,g93,dE]
      rw[Af2 hly]
      simp(disch:=omega) only[go_sem,↓reduceIte,e0,e2,e3,e15,e16,e17,g3,g93]
      intro r8 hr8;dsimp only at hr8
      have n8:r3≠r8:=Af hr8 g93
      simp(disch:=omega) only[go_sem,↓reduceIte,e0,e2,e3,e15,e16,e17,g93,n8]
      refine Ea.append (m:=1) (Ea.new hv9 hr8 _) (by rw[hly]) (by omega) fun v2 H10 hv2=> ?_
      have g103:=Ea.keep hv2 (hAB3 _ _)
      obtain⟨j1,j2⟩:=Ea.cell1 hv2
      simp(disch:=omega) only[go_sem,↓reduceIte,e0,e2,e3,e15,e16,e17,g103,j1,j2]
      have hv3:Yl (AB v2 k6) (xs++ [y]) v2 (upd H10 r3 (some (.cells [.int .u8 10, .int .u8 0, .int .i64 0, .str [],v2, .nilSlice, .int .i64 li, .int .i64 0, .int .i64 0] 36))):=by
       have:=Ea.at hv2 (hAB3 _ _) (some (.cells [.int .u8 10, .int .u8 0, .int .i64 0, .str [],v2, .nilSlice, .int .i64 li, .int .i64 0, .int .i64 0] 36))
       rw[hABv] at this
       unfold Yl
       rw[List.length_append,List.length_singleton,List.flatMap_append,List.flatMap_singleton]
       exact this
      obtain⟨H11,hH11⟩: ∃K,K=upd H10 r3 (some (.cells [.int .u8 10, .int .u8 0, .int .i64 0, .str [],v2, .nilSlice, .int .i64 li, .int .i64 0, .int .i64 0] 36)):=⟨_,rfl⟩
      rw[<-hH11] at hv3⊢
      refine(Gm hG H11 w (Ea.keep hv3 (hABr _ _)) (by omega) (by omega)).mono ?_
      intro e1 H12 hq
      unfold Da at hq hr2'
      by_cases b5:isW l k6 [w]=true
      ·rw[if_pos b5] at hq hr2'
       obtain⟨rfl,hH12⟩:=hq
       dsimp only at hr2'
       have hk5:=Ao b5 had.2
       rw[List.length_singleton] at hk5
       have hv4:Yl (AB v2 (k6+1)) (xs++ [y]) v2 H12:=by rw[hH12,<-hABk v2 k6];exact Ea.at hv3 (hABr _ _) _
       have hwj:IntKind.i64.wrap ((j:Int)+1)=((j+1:Nat):Int):=by rw[IntKind.wrap_i64];omega
       simp(disch:=omega) only[go_sem,↓reduceIte,e0,e2,e3,e15,e16,e17]
       refine⟨(j+1,xs++ [y],k6+1),_,Ik.refl _,(hI _ _ _).2 ?_,by dsimp only;omega⟩
       simp(disch:=omega) only[go_sem,↓reduceIte,e0,e2,e3,e15,e16,e17,hwj]
       (repeat' apply And.intro)<;>(try first | rfl | assumption | omega)
       ·rw[List.length_append,List.length_singleton];omega
       ·exact⟨v2,hv4⟩
      ·rw[if_neg b5] at hq hr2'
       obtain⟨rfl,hH12⟩:=hq
       have hv4:Yl (AB v2 k6) (xs++ [y]) v2 H12:=by rw[hH12,<-hABk v2 k6];exact Ea.at hv3 (hABr _ _) _
       simp(disch:=omega) only[go_sem,↓reduceIte]
       rw[hr2']
       exact RAt.finP ((hABa v2 k6).more (Ea.sub hv4)) ⟨rfl,rfl⟩
    ·have hj3:j=3:=by omega
     subst hj3
     have c': ¬((3:Nat):Int)<3:=by omega
     rw[show [Jm,Ke,Cc].drop 3= [] from rfl,ifR] at hr2'
     have g3:=Ea.keep hv (hAB3 _ _)
     have g2:=Ea.keep hv (hAB2 _ _)
     obtain⟨j1,j2⟩:=Ea.cell1 hv
     simp(disch:=omega) only[go_sem,↓reduceIte,e0,e2,e3,e15,e16,e17,c',g3,g2,j1,j2]
     rw[hr2']
     have hvf:=fun z=>Ea.less (Ea.at hv (hAB2 v k2) z) ((hABa v k2).own hr2 q2 z)
     exact Fv.fin (Ea.sub (hvf _)) (Fv.agg (Fv.ex (l:=xs) (Ea.sub (hvf _)) (Fv.own (hvf _)) (.as0 (Ea.sub (hvf _))))) ⟨rfl,rfl⟩
  ·have b1':isW l k1 [wIf]=false:=by simpa using b1
   rw[if_neg b1,Cq ha2.get] at hH4
   rw[if_neg b1] at hres
   rw[hH4]
   simp(disch:=omega) only[go_sem,↓reduceIte,b1']
   have hs:=Ao0 hG hl 370 (fun m=>(P l m).assoc) (fun m=>(P l m).assocsL) Gx (fun _ _=>rfl) (fun _ _ _=>rfl) (fun m k hk=>(Fu m).assoc k hk) n hc H2 k1 ha2.get hk1 (fun h=>hn (by rw[hres,h];rfl))
   refine hs.mono ?_
   intro e1 H5 hq5
   cases hcc:(((P l n).assoc k1).then fun a k=>(P l n).assocsL [a] k) with
   | bot=>rw[hcc] at hq5;exact hq5.elim
   | fail k3=>
    rw[hcc] at hq5
    rw[hcc,Dk] at hres
    obtain⟨rfl,hH5⟩:=hq5
    simp(disch:=omega) only[go_sem,↓reduceIte]
    rw[hres]
    exact RAt.finP (by rw[hH5];exact ha2.set k3) ⟨rfl,rfl⟩
   | ok xs k3=>
    rw[hcc] at hq5
    rw[hcc,Ek] at hres
    obtain⟨rfl,hH5⟩:=hq5
    have hk3:k3<=l.length:=by
     have:=Bm ((Fu (l:=l) n).assoc k1 hk1) (fun a j h1 h2=>(Fu (l:=l) n).assocsL [a] j h2 |>fun h=>Db h h1)
     rw[hcc] at this
     exact this.2
    have ha5:RAt r l k3 H H5:=by rw[hH5];exact ha2.set _
    have g53:H5 r3=some (.cells [.int .u8 9, .int .u8 0, .int .i64 0, .str [], .nilSlice, .nilSlice, .int .i64 li, .int .i64 0, .int .i64 0] 36):=by rw[hH5];exact Ai g23 q3
    have g52:H5 r2=some (.cells [.int .u8 0, .int .u8 0, .int .i64 0, .str [], .nilSlice, .nilSlice, .int .i64 0, .int .i64 0, .int .i64 0] 36):=by rw[hH5];exact Ai g22 q2
    simp(disch:=omega) only[go_sem,↓reduceIte,dAl,g53]
    obtain⟨H6,hH6⟩: ∃K,K=upd H5 r3 (some (.cells [.int .u8 9, .int .u8 0, .int .i64 0, .str [], .nilSlice, .vslice (xs.flatMap dAs) xs.length, .int .i64 li, .int .i64 0, .int .i64 0] 36)):=⟨_,rfl⟩
    rw[<-hH6]
    have ha6:RAt r l k3 H H6:=by rw[hH6];exact ha5.own h30 q3 _
    have g63:H6 r3=some (.cells [.int .u8 9, .int .u8 0, .int .i64 0, .str [], .nilSlice, .vslice (xs.flatMap dAs) xs.length, .int .i64 li, .int .i64 0, .int .i64 0] 36):=by rw[hH6];exact Aa _ _ _
    have g62:H6 r2=some (.cells [.int .u8 0, .int .u8 0, .int .i64 0, .str [], .nilSlice, .nilSlice, .int .i64 0, .int .i64 0, .int .i64 0] 36):=by rw[hH6];exact Ai g52 n23
    refine(Gm hG H6 Cc ha6.get (by omega) (by omega)).mono ?_
    intro e1 H7 hq7
    unfold Da at hq7
    by_cases b5:isW l k3 [Cc]=true
    ·rw[if_pos b5] at hq7 hres
     obtain⟨rfl,hH7⟩:=hq7
     have ha7:RAt r l (k3+1) H H7:=by rw[hH7];exact ha6.set _
     have g73:H7 r3=some (.cells [.int .u8 9, .int .u8 0, .int .i64 0, .str [], .nilSlice, .vslice (xs.flatMap dAs) xs.length, .int .i64 li, .int .i64 0, .int .i64 0] 36):=by rw[hH7];exact Ai g63 q3
     have g72:H7 r2=some (.cells [.int .u8 0, .int .u8 0, .int .i64 0, .str [], .nilSlice, .nilSlice, .int .i64 0, .int .i64 0, .int .i64 0] 36):=by rw[hH7];exact Ai g62 q2
     have hat:=fun z=>ha7.own hr2 q2 z
     by_cases c1:xs.length=1
     ·obtain⟨x,rfl⟩:=List.length_eq_one_iff.1 c1
      have hlx:=Dv x
      have hge:=Bb7 x
      have hle:=Aj x.e
      have hoe:=Ba x.e
      rw[List.flatMap_singleton] at g73
      by_cases c2:x.c= []
      ·have c2':x.c.length=0:=by rw[c2];rfl
       simp(disch:=omega) only[go_sem,↓reduceIte,g73,g72,List.length_singleton,List.flatMap_singleton,hlx,c2']
       try simp(disch:=omega) only[go_sem,↓reduceIte,hge,hle,hoe]
       rw[hres,Ad5,if_pos c2]
       exact RAt.fin (hat _) ⟨rfl,rfl⟩
      ·have c2': ¬(x.c.length:Int)=0:=fun h=>c2 (List.length_eq_zero_iff.1 (by omega))
       simp(disch:=omega) only[go_sem,↓reduceIte,g73,g72,List.length_singleton,List.flatMap_singleton,hlx,c2']
       rw[hres,Ad5,if_neg c2]
       exact Fv.fin (hat _) (Fv.agg (Fv.ex (a:= [x]) (hat _) (.exs0 (hat _)) (by rw[dAl,List.flatMap_singleton];exact Fv.keep (hat _) _))) ⟨rfl,rfl⟩
     ·have c1': ¬(xs.length:Int)=1:=by omega
      simp(disch:=omega) only[go_sem,↓reduceIte,g73,g72,c1']
      have hag:Ad5 li xs= .mk 9 0 0 [] [] xs li 0 0:=by
       match xs,c1 with
       | [],_=>rfl
       | [x],h=>exact absurd rfl h
       | x::y::zs,_=>rfl
      rw[hres,hag]
      exact Fv.fin (hat _) (Fv.agg (Fv.ex (a:=xs) (hat _) (.exs0 (hat _)) (Fv.keep (hat _) _))) ⟨rfl,rfl⟩
    ·rw[if_neg b5] at hq7 hres
     obtain⟨rfl,hH7⟩:=hq7
     simp(disch:=omega) only[go_sem,↓reduceIte]
     rw[hres]
     exact RAt.finP (by rw[hH7];exact ha6.set k3) ⟨rfl,rfl⟩
 ·rw[if_neg b0] at hq hres
  obtain⟨rfl,hH2⟩:=hq
  simp(disch:=omega) only[go_sem,↓reduceIte]
  rw[hres]
  exact RAt.finP (by rw[hH2];exact hab.set k) ⟨rfl,rfl⟩
end
end Go.Dl

-- Chapter 3: the package's reader: names.
namespace Go.Dl
open Go Go.Proofs
set_option maxRecDepth 100000
section
variable {G:Nat->DVal} {H0 H H' K T B:Ab} {r k:Nat} {l:List Tok}
theorem Ov (hd: ∀b,K b=none->T b=none) (w:World):Lasts K w T w:=⟨fun b i x hb hc=>⟨hd b hb,hc⟩,Nat.le_refl _,fun _ _=>rfl⟩
theorem Fv.keepD (hd: ∀b,K b=none->T b=none) (v:DVal):Fv K v T v:=fun w _ x hx=>Rel.lasts (Ov hd w) _ _ hx
theorem Dp.keepD (hd: ∀b,K b=none->T b=none) (vs:List DVal):Dp K vs T vs:=fun w _ x hx=>Ap.lasts (Ov hd w) _ _ hx
theorem Fv.cellsD {e:TypeId} {size q n:Nat} {cs cs':List DVal} (hr:T q=none) (hc:K q=some (.cells cs e)) (hl:cs.length=n*size) (hs:Dp K cs T cs'):Fv K (.oslice size q 0 n n) T (.vslice cs' n):=fun w hw x hx=>by
 simp only[Rel] at hx⊢
 obtain⟨o,cap,rfl,h1,h2,h3,h4⟩:=hx;refine⟨_,cap,rfl,h2,?_⟩;by_cases h0:cs= []
 ·subst h0;have:=hs w hw [] (by simp [Ap]);cases cs' with
  | nil=>exact .inl rfl
  | cons c cs'=>simp [Ap] at this
 ·obtain⟨zs,hl1,hh⟩:=hw.holds hc;have ho:o=0:=by
   rcases h3 with h3 | h3
   ·exfalso;have:n=0:=by omega
    subst this;rw[Nat.zero_mul] at hl;exact h0 (List.length_eq_zero_iff.1 hl)
   ·exact h3
  subst ho;exact .inr ⟨q,0,zs,rfl, .inr ⟨hr,fun i y hy=>by simpa using hh i y hy⟩,hs w hw zs hl1⟩
theorem Fv.ownD {e:TypeId} {size n:Nat} {cs:List DVal} {v:DVal} (hd: ∀b,K b=none->T b=none) (hT: ∀b,B b=none->T b=none) (hv:Ea B e size n cs v K):Fv K v T (.vslice cs n):=by
 rcases hv with⟨rfl,rfl,rfl,_⟩ | ⟨q,h1,h2,rfl,h4,_⟩
 ·exact fun w _ x hx=>Rel.lasts (Ov hd w) _ _ (DLe.nil w K x hx)
 ·exact Fv.cellsD (hT q h1) h4 h2 (Dp.keepD hd _)
theorem Dp.exD {k o n:Int} {s:List UInt8} {vl va:DVal} {m:List Ex} {a:List As} {li en t:Int} (hd: ∀b,K b=none->T b=none) (hl:Fv K vl T (dXs m)) (ha:Fv K va T (dAl a)):
  Dp K [.int .u8 k, .int .u8 o, .int .i64 n, .str s,vl,va, .int .i64 li, .int .i64 en, .int .i64 t] T (dEx (.mk k o n s m a li en t)):=by
 rw[Bl];exact .cons (.keepD hd _) (.cons (.keepD hd _) (.cons (.keepD hd _) (.cons (.keepD hd _) (.cons hl (.cons ha (.keepD hd _))))))
theorem Fv.as0D (hd: ∀b,K b=none->T b=none):Fv K .nilSlice T (dAl []):=fun w _ x hx=>Rel.lasts (Ov hd w) _ _ (DLe.nil w K x hx)
theorem Fv.exs0D (hd: ∀b,K b=none->T b=none):Fv K .nilSlice T (dXs []):=fun w _ x hx=>Rel.lasts (Ov hd w) _ _ (DLe.nil w K x hx)
theorem Ct1 {Hb:Ab} {r4 k':Nat} {o z:DObj} {l:List Tok} {r:Nat} (hat:RAt r l k' Hb K) (h4:K r4=some o): ∀b,K b=none->(upd (upd Hb r (some (rdO l k'))) r4 (some z)) b=none:=fun b hb=>by
 simp only[upd];split
 ·rename_i e1;rw[e1,h4] at hb;cases hb
 ·have:=Sub.lo hat hb;simpa only[upd] using this
theorem Ik.cell {env:Nat->DVal} {r4:Nat} {cs cs':List DVal} {e:TypeId} (h4:K r4=some (.cells cs e)) (hB:Sub B K) (hs:Dp K cs (upd B r4 (some (.cells cs' e))) cs'):Ik G ⟨env,K⟩ ⟨env,upd B r4 (some (.cells cs' e))⟩:=fun w hH hG=>by
 have hd: ∀b,K b=none->(upd B r4 (some (.cells cs' e))) b=none:=fun b hb=>by
  simp only[upd];split
  ·rename_i e1;rw[e1,h4] at hb;cases hb
  ·exact hB.lo hb
 refine⟨fun b o hb=> ?_,fun b hb h=>hb (hd b h),hG.lasts (Ov hd w),fun i x hx=>Rel.lasts (Ov hd w) _ _ hx⟩;simp only[upd] at hb;split at hb
 ·rename_i e1
  subst e1;cases hb;obtain⟨xs,c,fz,g1,g2,g3,g5⟩:=hH _ _ h4;exact⟨xs,c,fz,g1,g2,hs w hH xs g3,g5⟩
 ·exact(hH b o (hB b o hb)).lasts (Ov hd w)
theorem RAt.up {r k k2:Nat} {l:List Tok} {H Hb K:Ab} (h:RAt r l k Hb K) (hab:RAt r l k2 H Hb):RAt r l k H K:=fun b o hb=>by
 simp only[upd] at hb;by_cases c:b=r
 ·rw[if_pos c] at hb;exact h b o (by simp only[upd];rw[if_pos c];exact hb)
 ·rw[if_neg c] at hb;exact h b o (by simp only[upd];rw[if_neg c];exact hab b o (by simp only[upd];rw[if_neg c];exact hb))
theorem Ow {Hb:Ab} {r4 q k':Nat} {x:Ex} {e:TypeId} {o:DObj} {z:DObj} {l:List Tok} {r:Nat} {va:DVal} {a:List As} {kd li:Int} {s:List UInt8} (hat:RAt r l k' Hb K) (h4:K r4=some o) (hq:Hb q=none) (hqr:q≠r) (hq4:q≠r4) (hK:K q=some (.cells (dEx x) e)) (ha: ∀T,(∀b,K b=none->T b=none)->Fv K va T (dAl a)):
  Dp K [.int .u8 kd, .int .u8 0, .int .i64 0, .str s, .oslice 9 q 0 1 1,va, .int .i64 li, .int .i64 0, .int .i64 0] (upd (upd Hb r (some (rdO l k'))) r4 (some z)) (dEx (.mk kd 0 0 s [x] a li 0 0)):=by
 have hd: ∀b,K b=none->(upd (upd Hb r (some (rdO l k'))) r4 (some z)) b=none:=fun b hb=>by
  simp only[upd];split
  ·rename_i e1;rw[e1,h4] at hb;cases hb
  ·have:=Sub.lo hat hb;simpa only[upd] using this
 refine Dp.exD hd ?_ (ha _ hd);show Fv K _ _ (.vslice ([x].flatMap dEx) 1);rw[List.flatMap_singleton];exact Fv.cellsD (by simp only[upd];rw[if_neg hq4,if_neg hqr];exact hq) hK (by rw[Aj]) (Dp.keepD hd _)
theorem Bo5 {Hb B:Ab} {r4 k':Nat} {x y:Ex} {e:TypeId} {o:DObj} {z:DObj} {l:List Tok} {r:Nat} {v:DVal} {kd li:Int} {s:List UInt8} (hat:RAt r l k' Hb K) (h4:K r4=some o) (hB:RAt r l k' Hb B) (hB4:B r4≠none) (hv:Ea B e 9 2 ([x,y].flatMap dEx) v K):
  Dp K [.int .u8 kd, .int .u8 0, .int .i64 0, .str s,v, .nilSlice, .int .i64 li, .int .i64 0, .int .i64 0] (upd (upd Hb r (some (rdO l k'))) r4 (some z)) (dEx (.mk kd 0 0 s [x,y] [] li 0 0)):=by
 have key: ∀K':Ab,RAt r l k' Hb K'->K' r4≠none-> ∀b,K' b=none->(upd (upd Hb r (some (rdO l k'))) r4 (some z)) b=none:=fun K' ht h4 b hb=>by
  simp only[upd];split
  ·rename_i e1;rw[e1] at hb;exact absurd hb h4
  ·have:=Sub.lo ht hb;simpa only[upd] using this
 have hd:=key K hat (by rw[h4];simp);exact Dp.exD hd (Fv.ownD hd (key B hB hB4) hv) (.as0D hd)
end
section
variable {G:Nat->DVal} {H0 H H':Ab} {r k:Nat} {l:List Tok}
set_option maxHeartbeats 4000000 in
theorem Cf7 (hG:GX G) (hl:l.length<=800000) (n:Nat) (hga: ∀m≤n,RdC Tryz.prog G l 277 r fun k=>((P l m).arg k).mp dA) (hgp: ∀m≤n,RdC Tryz.prog G l 249 r fun k=>((P l m).paren k).mp dE):RdC Tryz.prog G l 112 r fun k=>((P l (n+1)).name k).mp dE:=by
 intro H k hr hk hn;obtain⟨t,ht⟩: ∃t,t=tk l k:=⟨_,rfl⟩;have e:(P l (n+1)).name k=Fq l k fun s k1=>(P l n).nameL (tk l k).line (.mk 3 0 0 s [] [] (tk l k).line 0 0) k1:=rfl;dsimp only at hn⊢
 rw[e,Fq,<-ht] at hn⊢
 refine Ac Tryz.func112 Tryz.call112 rfl (by kernel_rfl) ?_;simp(disch:=omega) only[go_sem,↓reduceIte];intro r2 hr2;dsimp only at hr2;obtain⟨Ha,hHa⟩: ∃K,K=upd H r2 (some (.cells [.int .u8 0, .int .u8 0, .int .i64 0, .str [], .nilSlice, .nilSlice, .int .i64 0, .int .i64 0, .int .i64 0] 36)):=⟨_,rfl⟩;rw[<-hHa];have gr2:Ha r2=some (.cells [.int .u8 0, .int .u8 0, .int .i64 0, .str [], .nilSlice, .nilSlice, .int .i64 0, .int .i64 0, .int .i64 0] 36):=by rw[hHa];exact Aa _ _ _
 have n2:r≠r2:=Af hr2 hr;have q2:=n2.symm;have ha:RAt r l k H Ha:=by rw[hHa];exact(RAt.refl hr).new hr2 _
 simp(disch:=omega) only[go_sem,↓reduceIte];refine(Wu G Ha 1 ha.get (by omega) (by omega)).mono ?_;intro e1 H1 hq;rw[<-ht] at hq;by_cases c:t.kind=1
 ·rw[if_pos c] at hn hq⊢
  obtain⟨rfl,hH1⟩:=hq;have hk1:k+1<=l.length:=Ks (by rw[<-ht,c];decide);have ha1:RAt r l (k+1) H H1:=by rw[hH1];exact ha.set _
  have g12:H1 r2=some (.cells [.int .u8 0, .int .u8 0, .int .i64 0, .str [], .nilSlice, .nilSlice, .int .i64 0, .int .i64 0, .int .i64 0] 36):=by rw[hH1];exact Ai gr2 q2
  simp(disch:=omega) only[go_sem,↓reduceIte,Dd];intro r3 hr3;dsimp only at hr3;have n23:r2≠r3:=Af hr3 g12;have n3:r≠r3:=Af hr3 ha1.get;have q3:=n3.symm;have h30:H r3=none:=ha1.lo hr3;simp(disch:=omega) only[go_sem,↓reduceIte];obtain⟨Hb,hHb⟩: ∃K,K=upd H1 r3 (some (.cells [.int .u8 t.kind,dI t.line, .str t.text,dI t.n] 31)):=⟨_,rfl⟩;rw[<-hHb];have gb3:Hb r3=some (.cells [.int .u8 t.kind,dI t.line, .str t.text,dI t.n] 31):=by rw[hHb];exact Aa _ _ _
  have gb2:Hb r2=some (.cells [.int .u8 0, .int .u8 0, .int .i64 0, .str [], .nilSlice, .nilSlice, .int .i64 0, .int .i64 0, .int .i64 0] 36):=by rw[hHb];exact Ai g12 n23
  have hab:RAt r l (k+1) H Hb:=by rw[hHb];exact ha1.new hr3 _
  intro r4 hr4;dsimp only at hr4;have n24:r2≠r4:=Af hr4 gb2;have n34:r3≠r4:=Af hr4 gb3;have n4:r≠r4:=Af hr4 hab.get;have q4:=n4.symm;simp(disch:=omega) only[go_sem,↓reduceIte,Bl,List.flatMap_nil,List.length_nil];obtain⟨x0,hx0⟩: ∃x0,x0=Ex.mk 3 0 0 t.text [] [] t.line 0 0:=⟨_,rfl⟩;have hdx0:dEx x0= [.int .u8 3, .int .u8 0, .int .i64 0, .str t.text, .vslice [] 0, .vslice [] 0, .int .i64 t.line, .int .i64 0, .int .i64 0]:=by rw[hx0,Bl];rfl
  rw[<-hx0] at hn⊢
  obtain⟨n',rfl⟩: ∃n',n=n'+1:=by
   cases n with
   | zero=>exact absurd rfl hn
   | succ n'=>exact⟨n',rfl⟩
  obtain⟨res,hres⟩: ∃res,res=(P l (n'+1)).nameL t.line x0 (k+1):=⟨_,rfl⟩;rw[<-hres] at hn⊢
  have hT: ∀x k' b o,b≠r4->upd Hb r (some (rdO l k')) b=some o->upd (upd Hb r (some (rdO l k'))) r4 (some (.cells (dEx x) 36)) b=some o:=fun x k' b o hb h=>by rw[Aq _ _ _ _ hb];exact h
  obtain⟨I,hI⟩: ∃I:Nat×Ex×Nat->(Nat->DVal)->Ab->Prop,∀s env heap,I s env heap↔(env 0= .optr r 0/\env 2= .optr r2 0/\env 3= .optr r3 0/\env 4= .optr r4 0/\s.2.2<=l.length/\s.1<=n'/\res=(P l (s.1+1)).nameL t.line s.2.1 s.2.2/\heap=upd (upd Hb r (some (rdO l s.2.2))) r4 (some (.cells (dEx s.2.1) 36))):=⟨_,fun _ _ _=>Iff.rfl⟩;have hat0:RAt r l (k+1) Hb (upd Hb r4 (some (.cells [.int .u8 3, .int .u8 0, .int .i64 0, .str t.text, .nilSlice, .nilSlice, .int .i64 t.line, .int .i64 0, .int .i64 0] 36))):=(RAt.refl hab.get).own hr4 q4 _;refine Bs7.runG I (fun s=>s.1) (n',x0,k+1) ⟨_,upd (upd Hb r (some (rdO l (k+1)))) r4 (some (.cells (dEx x0) 36))⟩ (Ik.cell (Aa _ _ _) hat0 ?_) ((hI _ _ _).2 ?_) ?_
  ·rw[hx0];exact Dp.exD (Ct1 hat0 (Aa _ _ _)) (.exs0D (Ct1 hat0 (Aa _ _ _))) (.as0D (Ct1 hat0 (Aa _ _ _)))
  ·simp(disch:=omega) only[go_sem,↓reduceIte]
  ·rintro⟨m,x,k1⟩ env heap hi';obtain⟨e0,e2,e3,e4,hk1',hm,hr',hh⟩:=(hI _ _ _).1 hi';dsimp only at hk1' hm hr' hh;have eP:(P l (m+1)).nameL t.line x k1=if isW l k1 [In,Qi] then(P l m).nameL t.line (.mk 5 0 0 [] [x] [] t.line 0 0) (k1+2) else if isW l k1 [In] then Fq l (k1+1) fun s k=>(P l m).nameL t.line (.mk 4 0 0 s [x] [] t.line 0 0) k
     else if isW l k1 [Bo] then((P l m).arg (k1+1)).then fun a k=>((P l m).argsL [a] k).then fun xs k=>Da l Cc k fun k=>(P l m).nameL t.line (.mk 7 0 0 [] [x] xs t.line 0 0) k
     else if isW l k1 [Fl,Bo] then((P l m).paren (k1+1)).then fun y k=>(P l m).nameL t.line (.mk 8 0 0 [] [x,y] [] t.line 0 0) k
     else if isW l k1 [Fl] then Fq l (k1+1) fun s k=>(P l m).nameL t.line (.mk 6 0 0 s [x] [] t.line 0 0) k else .ok x k1:=rfl
   rw[eP] at hr';have hat:RAt r l k1 Hb heap:=by rw[hh];exact((RAt.refl hab.get).set k1).own hr4 q4 _
   have h4:heap r4=some (.cells (dEx x) 36):=by rw[hh];exact Aa _ _ _
   have h3:heap r3=some (.cells [.int .u8 t.kind,dI t.line, .str t.text,dI t.n] 31):=hat _ _ (by rw[Aq _ _ _ _ q3];exact gb3);have hlx:=Aj x;simp(disch:=omega) only[go_sem,↓reduceIte,e0,e2,e3,e4,h4,h3];rw[Af2 hlx];simp(disch:=omega) only[go_sem,↓reduceIte,e0,e2,e3,e4,h4,h3];intro q hq0;dsimp only at hq0;have p3:r3≠q:=Af hq0 h3;have p4:r4≠q:=Af hq0 h4;have pr:r≠q:=Af hq0 hat.get;have hbq:Hb q=none:=hat.lo hq0;simp(disch:=omega) only[go_sem,↓reduceIte,e0,e2,e3,e4,h4,h3,p3,p4];intro r5 hr5;dsimp only at hr5;obtain⟨m5,m5',hr5'⟩:=Dj1.1 hr5;have p54:r4≠r5:=Af hr5' h4;have p5r:r≠r5:=Af hr5' hat.get;have hb5:Hb r5=none:=hat.lo hr5';simp(disch:=omega) only[go_sem,↓reduceIte,e0,e2,e3,e4,h4,h3,p3,p4];have m5q:q≠r5:=by first | exact m5 | exact m5'
   obtain⟨K1,hK1⟩: ∃K,K=upd (upd heap q (some (.cells (dEx x) 36))) r5 (some (.cells [.int .u8 0, .int .u8 0, .int .i64 0, .str [], .oslice 9 q 0 1 1, .nilSlice, .int .i64 t.line, .int .i64 0, .int .i64 0] 36)):=⟨_,rfl⟩;rw[<-hK1];have ha1:RAt r l k1 Hb K1:=by rw[hK1];exact(hat.new hq0 _).new hr5 _
   have g15:K1 r5=some (.cells [.int .u8 0, .int .u8 0, .int .i64 0, .str [], .oslice 9 q 0 1 1, .nilSlice, .int .i64 t.line, .int .i64 0, .int .i64 0] 36):=by rw[hK1];exact Aa _ _ _
   have g1q:K1 q=some (.cells (dEx x) 36):=by rw[hK1];exact Ai (Aa _ _ _) m5q
   have g14:K1 r4=some (.cells (dEx x) 36):=by rw[hK1];exact Ai (Ai h4 p4) p54
   have g12':K1 r2=some (.cells [.int .u8 0, .int .u8 0, .int .i64 0, .str [], .nilSlice, .nilSlice, .int .i64 0, .int .i64 0, .int .i64 0] 36):=ha1 _ _ (by rw[Aq _ _ _ _ q2];exact gb2);intro w1 hw1;dsimp only at hw1;simp(disch:=omega) only[go_sem,↓reduceIte];refine(Du0 hG K1 w1 In Qi hw1 ha1.get (by omega) (by omega)).mono ?_;rintro _ H2 ⟨rfl,hH2⟩;by_cases b1:isW l k1 [In,Qi]=true
   ·rw[if_pos b1] at hH2 hr';have hk2:=Ao b1 hk1';rw[show [In,Qi].length=2 from rfl] at hk2;have haK:RAt r l (k1+2) Hb H2:=by rw[hH2];exact ha1.set _
    have hH25:H2 r5=some (.cells [.int .u8 0, .int .u8 0, .int .i64 0, .str [], .oslice 9 q 0 1 1, .nilSlice, .int .i64 t.line, .int .i64 0, .int .i64 0] 36):=by rw[hH2];exact Ai g15 p5r.symm
    have hH24:H2 r4=some (.cells (dEx x) 36):=by rw[hH2];exact Ai g14 q4
    have hH2q:H2 q=some (.cells (dEx x) 36):=by rw[hH2];exact Ai g1q pr.symm
    have hH22:H2 r2=some (.cells [.int .u8 0, .int .u8 0, .int .i64 0, .str [], .nilSlice, .nilSlice, .int .i64 0, .int .i64 0, .int .i64 0] 36):=by rw[hH2];exact Ai g12' q2
    obtain⟨m',rfl⟩: ∃m',m=m'+1:=by
     cases m with
     | zero=>rw[hr'] at hn;exact absurd rfl hn
     | succ m'=>exact⟨m',rfl⟩
    simp(disch:=omega) only[go_sem,↓reduceIte,b1,e0,e2,e3,e4,hH25,hH24,p54];have hatf:=fun z z'=>(haK.own hb5 p5r.symm z).own hr4 q4 z';have hqf:=fun z z'=>Ai (y:=z') (Ai (y:=z) hH2q m5q) p4.symm;refine⟨(m', .mk 5 0 0 [] [x] [] t.line 0 0,k1+2),_,Ik.cell (Aa _ _ _) (hatf _ _) (Ow (a:= []) (hatf _ _) (Aa _ _ _) hbq pr.symm p4.symm (hqf _ _) (fun T hd=> .as0D hd)),(hI _ _ _).2 ?_,by dsimp only;omega⟩;simp(disch:=omega) only[go_sem,↓reduceIte,e0,e2,e3,e4]
   ·have b1':isW l k1 [In,Qi]=false:=by simpa using b1
    rw[if_neg b1,Cq ha1.get] at hH2;rw[if_neg b1] at hr';rw[hH2];simp(disch:=omega) only[go_sem,↓reduceIte,b1',e0,e2,e3,e4];intro w2 hw2;dsimp only at hw2;simp(disch:=omega) only[go_sem,↓reduceIte];refine(Sy hG K1 w2 In hw2 ha1.get (by omega) (by omega)).mono ?_;rintro _ H3 ⟨rfl,hH3⟩;by_cases b2:isW l k1 [In]=true
    ·rw[if_pos b2] at hH3 hr';have hk2:=Ao b2 hk1';rw[List.length_singleton] at hk2;have haK:RAt r l (k1+1) Hb H3:=by rw[hH3];exact ha1.set _
     have hH35:H3 r5=some (.cells [.int .u8 0, .int .u8 0, .int .i64 0, .str [], .oslice 9 q 0 1 1, .nilSlice, .int .i64 t.line, .int .i64 0, .int .i64 0] 36):=by rw[hH3];exact Ai g15 p5r.symm
     have hH34:H3 r4=some (.cells (dEx x) 36):=by rw[hH3];exact Ai g14 q4
     have hH3q:H3 q=some (.cells (dEx x) 36):=by rw[hH3];exact Ai g1q pr.symm
     have hH32:H3 r2=some (.cells [.int .u8 0, .int .u8 0, .int .i64 0, .str [], .nilSlice, .nilSlice, .int .i64 0, .int .i64 0, .int .i64 0] 36):=by rw[hH3];exact Ai g12' q2
     simp(disch:=omega) only[go_sem,↓reduceIte,b2,e0,e2,e3,e4];have hbr: ∃t2,t2=tk l (k1+1):=⟨_,rfl⟩;obtain⟨t2,ht2⟩:=hbr;unfold Fq at hr';refine(Wu G H3 1 haK.get (by omega) (by omega)).mono ?_;intro e1 H9 hq9;rw[<-ht2] at hq9 hr';by_cases c9:t2.kind=1
     ·rw[if_pos c9] at hq9 hr';obtain⟨rfl,hH9⟩:=hq9;have hk9:k1+2<=l.length:=Ks (by rw[<-ht2,c9];decide);have haL:RAt r l (k1+2) Hb H9:=by rw[hH9];exact haK.set _
      have hH95:H9 r5=some (.cells [.int .u8 0, .int .u8 0, .int .i64 0, .str [], .oslice 9 q 0 1 1, .nilSlice, .int .i64 t.line, .int .i64 0, .int .i64 0] 36):=by rw[hH9];exact Ai hH35 p5r.symm
      have hH94:H9 r4=some (.cells (dEx x) 36):=by rw[hH9];exact Ai hH34 q4
      have hH9q:H9 q=some (.cells (dEx x) 36):=by rw[hH9];exact Ai hH3q pr.symm
      obtain⟨m',rfl⟩: ∃m',m=m'+1:=by
       cases m with
       | zero=>rw[hr'] at hn;exact absurd rfl hn
       | succ m'=>exact⟨m',rfl⟩
      simp(disch:=omega) only[go_sem,↓reduceIte,Dd,e0,e2,e3,e4,hH95,hH94,p54];have hatf:=fun z z'=>(haL.own hb5 p5r.symm z).own hr4 q4 z';have hqf:=fun z z'=>Ai (y:=z') (Ai (y:=z) hH9q m5q) p4.symm;refine⟨(m', .mk 4 0 0 t2.text [x] [] t.line 0 0,k1+2),_,Ik.cell (Aa _ _ _) (hatf _ _) (Ow (a:= []) (hatf _ _) (Aa _ _ _) hbq pr.symm p4.symm (hqf _ _) (fun T hd=> .as0D hd)),(hI _ _ _).2 ?_,by dsimp only;omega⟩;simp(disch:=omega) only[go_sem,↓reduceIte,e0,e2,e3,e4]
     ·rw[if_neg c9] at hq9 hr';obtain⟨rfl,hH9⟩:=hq9;simp(disch:=omega) only[go_sem,↓reduceIte];rw[hr'];exact RAt.finP (by rw[hH9];exact RAt.up (haK.set _) hab) ⟨rfl,rfl⟩
    ·have b2':isW l k1 [In]=false:=by simpa using b2
     rw[if_neg b2,Cq ha1.get] at hH3;rw[if_neg b2] at hr';rw[hH3];simp(disch:=omega) only[go_sem,↓reduceIte,b2',e0,e2,e3,e4];intro w3 hw3;dsimp only at hw3;simp(disch:=omega) only[go_sem,↓reduceIte];refine(Sy hG K1 w3 Bo hw3 ha1.get (by omega) (by omega)).mono ?_;rintro _ H4 ⟨rfl,hH4⟩;by_cases b3:isW l k1 [Bo]=true
     ·rw[if_pos b3] at hH4 hr';have hk2:=Ao b3 hk1';rw[List.length_singleton] at hk2;have haK:RAt r l (k1+1) Hb H4:=by rw[hH4];exact ha1.set _
      have hH45:H4 r5=some (.cells [.int .u8 0, .int .u8 0, .int .i64 0, .str [], .oslice 9 q 0 1 1, .nilSlice, .int .i64 t.line, .int .i64 0, .int .i64 0] 36):=by rw[hH4];exact Ai g15 p5r.symm
      have hH44:H4 r4=some (.cells (dEx x) 36):=by rw[hH4];exact Ai g14 q4
      have hH4q:H4 q=some (.cells (dEx x) 36):=by rw[hH4];exact Ai g1q pr.symm
      have hH42:H4 r2=some (.cells [.int .u8 0, .int .u8 0, .int .i64 0, .str [], .nilSlice, .nilSlice, .int .i64 0, .int .i64 0, .int .i64 0] 36):=by rw[hH4];exact Ai g12' q2
      simp(disch:=omega) only[go_sem,↓reduceIte,b3,e0,e2,e3,e4];have hth: ∀(a:Res As) (f:As->Nat->Res (List As)) (g:List As->Nat->Res Ex),(a.then fun x k=>(f x k).then g)=(a.then f).then g:=fun a f g=>by cases a<;>rfl
      rw[hth] at hr';have hargs:=Cf6 hG hl m (fun i hi=>hga i (by omega)) H4 (k1+1) haK.get hk2;dsimp only at hargs;cases hcc:(((P l m).arg (k1+1)).then fun a k=>(P l m).argsL [a] k) with
      | bot=>rw[hcc,Dy] at hr';rw[hr'] at hn;exact absurd rfl hn
      | fail k3=>
       rw[hcc] at hargs;rw[hcc,Dk] at hr';refine(hargs (Ay (by simp))).mono ?_;rintro e H7 ⟨rfl,hH7⟩;simp(disch:=omega) only[go_sem,↓reduceIte];rw[hr'];exact RAt.finP (by rw[hH7];exact RAt.up (haK.set _) hab) ⟨rfl,rfl⟩
      | ok xs k3=>
       rw[hcc] at hargs;rw[hcc,Ek] at hr';have hk3:k3<=l.length:=by
        have:=Bm ((Fu (l:=l) m).arg (k1+1) hk2) (fun a j h1 h2=>Db ((Fu (l:=l) m).argsL [a] j h2) h1);rw[hcc] at this;exact this.2
       refine(hargs (Ay (by simp))).mono ?_;rintro e H7 ⟨rfl,hH7⟩;have ha7:RAt r l k3 Hb H7:=by rw[hH7];exact haK.set _
       have hH75:H7 r5=some (.cells [.int .u8 0, .int .u8 0, .int .i64 0, .str [], .oslice 9 q 0 1 1, .nilSlice, .int .i64 t.line, .int .i64 0, .int .i64 0] 36):=by rw[hH7];exact Ai hH45 p5r.symm
       have hH74:H7 r4=some (.cells (dEx x) 36):=by rw[hH7];exact Ai hH44 q4
       have hH7q:H7 q=some (.cells (dEx x) 36):=by rw[hH7];exact Ai hH4q pr.symm
       simp(disch:=omega) only[go_sem,↓reduceIte,dAl,e0,e2,e3,e4,hH75];obtain⟨H8,hH8⟩: ∃K,K=upd H7 r5 (some (.cells [.int .u8 7, .int .u8 0, .int .i64 0, .str [], .oslice 9 q 0 1 1, .vslice (xs.flatMap dAs) xs.length, .int .i64 t.line, .int .i64 0, .int .i64 0] 36)):=⟨_,rfl⟩;rw[<-hH8];have ha8:RAt r l k3 Hb H8:=by rw[hH8];exact ha7.own hb5 p5r.symm _
       have g85:H8 r5=some (.cells [.int .u8 7, .int .u8 0, .int .i64 0, .str [], .oslice 9 q 0 1 1, .vslice (xs.flatMap dAs) xs.length, .int .i64 t.line, .int .i64 0, .int .i64 0] 36):=by rw[hH8];exact Aa _ _ _
       have g84:H8 r4=some (.cells (dEx x) 36):=by rw[hH8];exact Ai hH74 p54
       have g8q:H8 q=some (.cells (dEx x) 36):=by rw[hH8];exact Ai hH7q m5q
       refine(Gm hG H8 Cc ha8.get (by omega) (by omega)).mono ?_;intro e1 H9 hq9;unfold Da at hq9 hr';by_cases c9:isW l k3 [Cc]=true
       ·rw[if_pos c9] at hq9 hr';obtain⟨rfl,hH9⟩:=hq9;have hk9:=Ao c9 hk3;rw[List.length_singleton] at hk9;have haL:RAt r l (k3+1) Hb H9:=by rw[hH9];exact ha8.set _
        have g95:H9 r5=some (.cells [.int .u8 7, .int .u8 0, .int .i64 0, .str [], .oslice 9 q 0 1 1, .vslice (xs.flatMap dAs) xs.length, .int .i64 t.line, .int .i64 0, .int .i64 0] 36):=by rw[hH9];exact Ai g85 p5r.symm
        have g94:H9 r4=some (.cells (dEx x) 36):=by rw[hH9];exact Ai g84 q4
        have g9q:H9 q=some (.cells (dEx x) 36):=by rw[hH9];exact Ai g8q pr.symm
        dsimp only at hr';obtain⟨m',rfl⟩: ∃m',m=m'+1:=by
         cases m with
         | zero=>rw[hr'] at hn;exact absurd rfl hn
         | succ m'=>exact⟨m',rfl⟩
        simp(disch:=omega) only[go_sem,↓reduceIte,e0,e2,e3,e4,g95,g94,p54];have hatf:=fun z'=>haL.own hr4 q4 z';have hqf:=fun z'=>Ai (y:=z') g9q p4.symm;refine⟨(m', .mk 7 0 0 [] [x] xs t.line 0 0,k3+1),_,Ik.cell (Aa _ _ _) (hatf _) (Ow (a:=xs) (hatf _) (Aa _ _ _) hbq pr.symm p4.symm (hqf _) (fun T hd=>Fv.keepD hd _)),(hI _ _ _).2 ?_,by dsimp only;omega⟩;simp(disch:=omega) only[go_sem,↓reduceIte,e0,e2,e3,e4]
       ·rw[if_neg c9] at hq9 hr';obtain⟨rfl,hH9⟩:=hq9;simp(disch:=omega) only[go_sem,↓reduceIte];rw[hr'];exact RAt.finP (by rw[hH9];exact RAt.up (ha8.set _) hab) ⟨rfl,rfl⟩
     ·have b3':isW l k1 [Bo]=false:=by simpa using b3
      rw[if_neg b3,Cq ha1.get] at hH4;rw[if_neg b3] at hr';rw[hH4];simp(disch:=omega) only[go_sem,↓reduceIte,b3',e0,e2,e3,e4];intro w4 hw4;dsimp only at hw4;simp(disch:=omega) only[go_sem,↓reduceIte];refine(is2 hG K1 w4 Fl Bo hw4 ha1.get (by omega) (by omega)).mono ?_;rintro _ H5 ⟨rfl,hH5⟩;rw[hH5];by_cases b4:isW l k1 [Fl,Bo]=true
      ·rw[if_pos b4] at hr';have hk2:=Ao b4 hk1';rw[show [Fl,Bo].length=2 from rfl] at hk2;have gr:=ha1.get;unfold rdO at gr;have hw1':IntKind.i64.wrap ((k1:Int)+1)=((k1+1:Nat):Int):=by rw[IntKind.wrap_i64];omega
       simp(disch:=omega) only[go_sem,↓reduceIte,b4,e0,e2,e3,e4,gr,hw1'];obtain⟨H6,hH6⟩: ∃H6,H6=upd K1 r (some (rdO l (k1+1))):=⟨_,rfl⟩;have hH6':=hH6;unfold rdO at hH6';rw[<-hH6'];have haK:RAt r l (k1+1) Hb H6:=by rw[hH6];exact ha1.set _
       have hH65:H6 r5=some (.cells [.int .u8 0, .int .u8 0, .int .i64 0, .str [], .oslice 9 q 0 1 1, .nilSlice, .int .i64 t.line, .int .i64 0, .int .i64 0] 36):=by rw[hH6];exact Ai g15 p5r.symm
       have hH64:H6 r4=some (.cells (dEx x) 36):=by rw[hH6];exact Ai g14 q4
       have hH6q:H6 q=some (.cells (dEx x) 36):=by rw[hH6];exact Ai g1q pr.symm
       have hH62:H6 r2=some (.cells [.int .u8 0, .int .u8 0, .int .i64 0, .str [], .nilSlice, .nilSlice, .int .i64 0, .int .i64 0, .int .i64 0] 36):=by rw[hH6];exact Ai g12' q2
       refine An (by kernel_rfl) (.take 0 (.take 1 (.take 2 (.take 6 (.go 3 [1] (.go 4 [1] (.go 5 [] (.go 7 [] (.take 8 (.go 9 [] .done)))))))))) (by kernel_rfl) ?_;simp(disch:=omega) only[go_sem,↓reduceIte,e0,e2,e3,e4,hH65];have hpp:=hgp m (by omega) H6 (k1+1) haK.get (by omega);have had:=(Fu (l:=l) m).paren (k1+1) (by omega);dsimp only at hpp;cases hcc:(P l m).paren (k1+1) with
       | bot=>rw[hcc,Dy] at hr';rw[hr'] at hn;exact absurd rfl hn
       | fail k3=>
        rw[hcc] at hpp;rw[hcc,Dk] at hr';refine(hpp (Ay (by simp))).mono ?_;rintro e H7 ⟨rfl,hH7⟩;simp(disch:=omega) only[go_sem,↓reduceIte];rw[hr'];exact RAt.finP (by rw[hH7];exact RAt.up (haK.set _) hab) ⟨rfl,rfl⟩
       | ok y k3=>
        rw[hcc] at hpp had;rw[hcc,Ek] at hr';dsimp only[Adv] at had;refine(hpp (Ay (by simp))).mono ?_;rintro e H7 ⟨rfl,hH7⟩;have ha7:RAt r l k3 Hb H7:=by rw[hH7];exact haK.set _
        have hH75:H7 r5=some (.cells [.int .u8 0, .int .u8 0, .int .i64 0, .str [], .oslice 9 q 0 1 1, .nilSlice, .int .i64 t.line, .int .i64 0, .int .i64 0] 36):=by rw[hH7];exact Ai hH65 p5r.symm
        have hH74:H7 r4=some (.cells (dEx x) 36):=by rw[hH7];exact Ai hH64 q4
        have hH7q:H7 q=some (.cells (dEx x) 36):=by rw[hH7];exact Ai hH6q pr.symm
        have hly:=Aj y;simp(disch:=omega) only[go_sem,↓reduceIte,dE,e0,e2,e3,e4,hH65,hH75];rw[Af2 hly];simp(disch:=omega) only[go_sem,↓reduceIte,e0,e2,e3,e4,hH65,hH75];intro r8 hr8;dsimp only at hr8;have p8:q≠r8:=Af hr8 hH7q;have p85:r5≠r8:=Af hr8 hH75;simp(disch:=omega) only[go_sem,↓reduceIte,e0,e2,e3,e4,hH65,hH75,p85];rw[if_neg p8,hH7q];obtain⟨Bq,hBq⟩: ∃K,K=upd H7 q none:=⟨_,rfl⟩;have hsB:Sub Bq H7:=by
         rw[hBq];intro b o hb;simp only[upd] at hb;split at hb
         ·cases hb
         ·exact hb
        have haB:RAt r l k3 Hb Bq:=by rw[hBq];exact ha7.own hbq pr.symm none
        have hB5:Bq r5=some (.cells [.int .u8 0, .int .u8 0, .int .i64 0, .str [], .oslice 9 q 0 1 1, .nilSlice, .int .i64 t.line, .int .i64 0, .int .i64 0] 36):=by rw[hBq];exact Ai hH75 m5q.symm
        have hB4:Bq r4=some (.cells (dEx x) 36):=by rw[hBq];exact Ai hH74 p4
        have hv0:Ea Bq 36 9 1 (dEx x) (.oslice 9 q 0 1 1) H7:= .inr ⟨q,by rw[hBq];exact Aa _ _ _,by rw[hlx],rfl,hH7q,hsB⟩;refine Ea.appendO (m:=1) (hv0.new hr8 _) hly (by omega) fun v2 H10 hv2=> ?_;have g105:=hv2.keep hB5;have g104:=hv2.keep hB4;obtain⟨j1,j2⟩:=hv2.cell1;obtain⟨m',rfl⟩: ∃m',m=m'+1:=by
         cases m with
         | zero=>rw[hr'] at hn;exact absurd rfl hn
         | succ m'=>exact⟨m',rfl⟩
        simp(disch:=omega) only[go_sem,↓reduceIte,e0,e2,e3,e4,g105,g104,p54,j1,j2];have hv3:=fun z z'=>(hv2.at hB5 (some z)).at (r:=r4) (by rw[Aq _ _ _ _ p54];exact hB4) (some z');have haf:=fun z z'=>(haB.own hb5 p5r.symm (some z)).own hr4 q4 (some z');refine⟨(m', .mk 8 0 0 [] [x,y] [] t.line 0 0,k3),_,Ik.cell (Aa _ _ _) (Sub.trans (haf _ _) (hv3 _ _).sub) (Bo5 (Sub.trans (haf _ _) (hv3 _ _).sub) (Aa _ _ _) (haf _ _) (by rw[Aa];simp) (by rw[show [x,y].flatMap dEx=dEx x++dEx y by simp];exact hv3 _ _)),(hI _ _ _).2 ?_,by dsimp only;omega⟩;simp(disch:=omega) only[go_sem,↓reduceIte,e0,e2,e3,e4]
      ·have b4':isW l k1 [Fl,Bo]=false:=by simpa using b4
       rw[if_neg b4] at hr';simp(disch:=omega) only[go_sem,↓reduceIte,b4',e0,e2,e3,e4];intro w5 hw5;dsimp only at hw5;simp(disch:=omega) only[go_sem,↓reduceIte];refine(Sy hG K1 w5 Fl hw5 ha1.get (by omega) (by omega)).mono ?_;rintro _ H6 ⟨rfl,hH6⟩;by_cases b5:isW l k1 [Fl]=true
       ·rw[if_pos b5] at hH6 hr';have hk2:=Ao b5 hk1';rw[List.length_singleton] at hk2;have haK:RAt r l (k1+1) Hb H6:=by rw[hH6];exact ha1.set _
        have hH65:H6 r5=some (.cells [.int .u8 0, .int .u8 0, .int .i64 0, .str [], .oslice 9 q 0 1 1, .nilSlice, .int .i64 t.line, .int .i64 0, .int .i64 0] 36):=by rw[hH6];exact Ai g15 p5r.symm
        have hH64:H6 r4=some (.cells (dEx x) 36):=by rw[hH6];exact Ai g14 q4
        have hH6q:H6 q=some (.cells (dEx x) 36):=by rw[hH6];exact Ai g1q pr.symm
        have hH62:H6 r2=some (.cells [.int .u8 0, .int .u8 0, .int .i64 0, .str [], .nilSlice, .nilSlice, .int .i64 0, .int .i64 0, .int .i64 0] 36):=by rw[hH6];exact Ai g12' q2
        simp(disch:=omega) only[go_sem,↓reduceIte,b5,e0,e2,e3,e4];have hbr: ∃t2,t2=tk l (k1+1):=⟨_,rfl⟩;obtain⟨t2,ht2⟩:=hbr;unfold Fq at hr';refine(Wu G H6 1 haK.get (by omega) (by omega)).mono ?_;intro e1 H9 hq9;rw[<-ht2] at hq9 hr';by_cases c9:t2.kind=1
        ·rw[if_pos c9] at hq9 hr';obtain⟨rfl,hH9⟩:=hq9;have hk9:k1+2<=l.length:=Ks (by rw[<-ht2,c9];decide);have haL:RAt r l (k1+2) Hb H9:=by rw[hH9];exact haK.set _
         have hH95:H9 r5=some (.cells [.int .u8 0, .int .u8 0, .int .i64 0, .str [], .oslice 9 q 0 1 1, .nilSlice, .int .i64 t.line, .int .i64 0, .int .i64 0] 36):=by rw[hH9];exact Ai hH65 p5r.symm
         have hH94:H9 r4=some (.cells (dEx x) 36):=by rw[hH9];exact Ai hH64 q4
         have hH9q:H9 q=some (.cells (dEx x) 36):=by rw[hH9];exact Ai hH6q pr.symm
         obtain⟨m',rfl⟩: ∃m',m=m'+1:=by
          cases m with
          | zero=>rw[hr'] at hn;exact absurd rfl hn
          | succ m'=>exact⟨m',rfl⟩
         simp(disch:=omega) only[go_sem,↓reduceIte,Dd,e0,e2,e3,e4,hH95,hH94,p54];have hatf:=fun z z'=>(haL.own hb5 p5r.symm z).own hr4 q4 z';have hqf:=fun z z'=>Ai (y:=z') (Ai (y:=z) hH9q m5q) p4.symm;refine⟨(m', .mk 6 0 0 t2.text [x] [] t.line 0 0,k1+2),_,Ik.cell (Aa _ _ _) (hatf _ _) (Ow (a:= []) (hatf _ _) (Aa _ _ _) hbq pr.symm p4.symm (hqf _ _) (fun T hd=> .as0D hd)),(hI _ _ _).2 ?_,by dsimp only;omega⟩;simp(disch:=omega) only[go_sem,↓reduceIte,e0,e2,e3,e4]
        ·rw[if_neg c9] at hq9 hr';obtain⟨rfl,hH9⟩:=hq9;simp(disch:=omega) only[go_sem,↓reduceIte];rw[hr'];exact RAt.finP (by rw[hH9];exact RAt.up (haK.set _) hab) ⟨rfl,rfl⟩
       ·have b5':isW l k1 [Fl]=false:=by simpa using b5
        rw[if_neg b5,Cq ha1.get] at hH6;rw[if_neg b5] at hr';rw[hH6];have hox:=Ba x;simp(disch:=omega) only[go_sem,↓reduceIte,b5',e0,e2,e3,e4,g14,g12',hlx,hox];rw[hr'];exact RAt.fin ((RAt.up ha1 hab).own hr2 q2 _) ⟨rfl,rfl⟩
 ·rw[if_neg c] at hn hq⊢
  obtain⟨rfl,hH1⟩:=hq;simp(disch:=omega) only[go_sem,↓reduceIte];exact RAt.finP (by rw[hH1];exact ha.set k) ⟨rfl,rfl⟩
end
end Go.Dl

-- Chapter 3: the package's reader: all its functions together.
namespace Go.Dl
open Go Go.Proofs
set_option maxRecDepth 100000
section
variable {G:Nat->DVal} {r:Nat} {l:List Tok}
structure RdAll (G:Nat->DVal) (l:List Tok) (r:Nat) (m:Nat):Prop where
 expr:RdC Tryz.prog G l 105 r fun k=>((P l m).expr k).mp dE
 rest: ∀x,Bo3 Tryz.prog G l 240 r (.agg (dEx x)) fun k=>((P l m).rest x k).mp dE
 relation: ∀x,Bo3 Tryz.prog G l 107 r (.agg (dEx x)) fun k=>((P l m).relation x k).mp dE
 simple:RdC Tryz.prog G l 108 r fun k=>((P l m).simple k).mp dE
 term:RdC Tryz.prog G l 109 r fun k=>((P l m).term k).mp dE
 factor:RdC Tryz.prog G l 110 r fun k=>((P l m).factor k).mp dE
 primary:RdC Tryz.prog G l 111 r fun k=>((P l m).primary k).mp dE
 paren:RdC Tryz.prog G l 249 r fun k=>((P l m).paren k).mp dE
 assoc:RdC Tryz.prog G l 370 r fun k=>((P l m).assoc k).mp dA
 choice:RdC Tryz.prog G l 281 r fun k=>((P l m).choice k).mp dC
 arg:RdC Tryz.prog G l 277 r fun k=>((P l m).arg k).mp dA
 name:RdC Tryz.prog G l 112 r fun k=>((P l m).name k).mp dE
theorem Dq5 (hG:GX G) (hl:l.length<=800000): ∀n m,m<=n->RdAll G l r m:=by
 intro n
 induction n with
 | zero=>
  intro m hm;have:m=0:=by omega
  subst this;constructor<;>intros<;>intro H k _ _ hn<;>exact absurd rfl hn
 | succ n ih=>
  intro m hm;rcases Nat.lt_or_ge m (n+1) with h | h
  ·exact ih m (by omega)
  ·have:m=n+1:=by omega
   subst this;have h0:=ih n (Nat.le_refl _);exact⟨Cf3 hl _ (Fu n) h0.simple h0.rest,Cf5 hG hl n (fun m hm=>(ih m hm).simple) (fun m hm=>(ih m hm).relation),Ak9 hG hl _ (Fu n) h0.simple,
    Bd4 hG hl n (fun m hm=>(ih m hm).term),Cf2 hG hl n (fun m hm=>(ih m hm).factor),Bd2 hG hl _ (Fu n) h0.primary,At5 hG hl _ h0.paren h0.name,
    Bo4 hG hl n h0.expr (fun m hm=>(ih m hm).assoc),At6 hG hl n (fun m hm=>(ih m hm).choice) h0.expr,Bd5 hG hl _ (Fu n) h0.simple h0.rest,Al0 hG hl _ h0.expr,
    Cf7 hG hl n (fun m hm=>(ih m hm).arg) (fun m hm=>(ih m hm).paren)⟩
theorem Dk0 (hG:GX G) (hl:l.length<=800000) (m:Nat):RdAll G l r m:=Dq5 hG hl m m (Nat.le_refl _)
end
end Go.Dl

-- Chapter 3: the package's read: what a panic of reading told becomes the error.
namespace Go.Dl
open Go Go.Proofs
set_option maxRecDepth 100000
section
variable {G:Nat->DVal} {l:List Tok}
def Ct2:Res Ex->DVal
 | .ok x k=> .tuple [dE x,dI k,dI 0]
 | .fail k=> .tuple [dE ex0,dI k,dI 30]
 | .bot=> .nilPtr
set_option maxHeartbeats 4000000 in
theorem Bo6 (hG:GX G) (H:Ab) (hl:l.length<=800000) (g:FuncId) (res:Res Ex) (hn:res≠ .bot) (hf: ∀r H,H r=some (rdO l 0)->Ah Tryz.prog G g [.optr r 0] H (RdR r l H (res.mp dE))):
  Ah Tryz.prog G 113 [Bv l, .func (.func g) [] []] H (Bp (Ct2 res) H):=by
 refine Bd1 Tryz.func113 Tryz.func252 Tryz.call113 Tryz.call252 rfl rfl (by kernel_rfl) (by kernel_rfl) rfl ?_;simp(disch:=omega) only[go_sem,↓reduceIte];intro r4 hr4;dsimp only at hr4;simp(disch:=omega) only[go_sem,↓reduceIte];intro r5 hr5;dsimp only at hr5;obtain⟨m45,m54,hr5'⟩:=Dj1.1 hr5;simp(disch:=omega) only[go_sem,↓reduceIte];intro r6 hr6;dsimp only at hr6;have a5:upd (upd H r4 (some (.cells [.int .u8 0, .int .u8 0, .int .i64 0, .str [], .nilSlice, .nilSlice, .int .i64 0, .int .i64 0, .int .i64 0] 36))) r5 (some (.cells [dI 0] 3)) r5=some (.cells [dI 0] 3):=Aa _ _ _;have a4:upd (upd H r4 (some (.cells [.int .u8 0, .int .u8 0, .int .i64 0, .str [], .nilSlice, .nilSlice, .int .i64 0, .int .i64 0, .int .i64 0] 36))) r5 (some (.cells [dI 0] 3)) r4=some (.cells [.int .u8 0, .int .u8 0, .int .i64 0, .str [], .nilSlice, .nilSlice, .int .i64 0, .int .i64 0, .int .i64 0] 36):=Ai (Aa _ _ _) (Af hr5 (Aa _ _ _));have n56:r5≠r6:=Af hr6 a5;have n46:r4≠r6:=Af hr6 a4;have n45:r4≠r5:=Af hr5 (Aa _ _ _);have hdc:(Bv l).cells= [Bv l]:=rfl;simp(disch:=omega) only[go_sem,↓reduceIte,hdc,List.length_cons,List.length_nil,List.drop_succ_cons,List.drop_zero,List.cons_append,List.nil_append];intro r7 hr7;dsimp only at hr7;have n47:r4≠r7:=Af hr7 (Ai a4 n46);have n57:r5≠r7:=Af hr7 (Ai a5 n56);have n67:r6≠r7:=Af hr7 (Aa _ _ _);have hr6':H r6=none:=((((Sub.refl H).new hr4 _).new hr5 _).lo hr6);have hr7':H r7=none:=(((((Sub.refl H).new hr4 _).new hr5 _).new hr6 _).lo hr7);have n74:=n47.symm;have n75:=n57.symm;have n76:=n67.symm;have n64:=n46.symm;have n65:=n56.symm;simp(disch:=omega) only[go_sem,↓reduceIte];refine(hf r7 _ (Aa _ _ _)).mono ?_;intro e H5 hq;have g4: ∀z,upd (upd (upd (upd (upd H r4 (some (.cells [.int .u8 0, .int .u8 0, .int .i64 0, .str [], .nilSlice, .nilSlice, .int .i64 0, .int .i64 0, .int .i64 0] 36))) r5 (some (.cells [dI 0] 3))) r6 (some (.cells [dI 0] 40))) r7 (some (rdO l 0))) r7 z r4=some (.cells [.int .u8 0, .int .u8 0, .int .i64 0, .str [], .nilSlice, .nilSlice, .int .i64 0, .int .i64 0, .int .i64 0] 36):=fun z=>by
  rw[Aq _ _ _ _ n47,Aq _ _ _ _ n47,Aq _ _ _ _ n46];exact a4
 cases hres:res with
 | bot=>exact absurd hres hn
 | ok x k=>
  rw[hres] at hq;obtain⟨rfl,hH5⟩:=hq;have hlx:=Aj x;have hox:=Ba x;have g54:H5 r4=some (.cells [.int .u8 0, .int .u8 0, .int .i64 0, .str [], .nilSlice, .nilSlice, .int .i64 0, .int .i64 0, .int .i64 0] 36):=by rw[hH5];exact g4 _
  have g55:H5 r5=some (.cells [dI 0] 3):=by rw[hH5,Aq _ _ _ _ n57,Aq _ _ _ _ n57,Aq _ _ _ _ n56];exact a5
  have g56:H5 r6=some (.cells [dI 0] 40):=by rw[hH5,Aq _ _ _ _ n67,Aq _ _ _ _ n67];exact Aa _ _ _
  have g57:H5 r7=some (.cells [Bv l,dI k] 271):=by rw[hH5];exact Aa _ _ _
  have hs5:Sub H H5:=by rw[hH5];exact((((((Sub.refl H).new hr4 _).new hr5 _).new hr6 _).new hr7 _).up hr7' _)
  simp(disch:=omega) only[go_sem,↓reduceIte,dE,g54,hlx,hox];refine An (by kernel_rfl) (.take 0 (.take 1 (.take 2 (.take 3 (.take 4 (.go 5 [4] (.go 6 [] (.go 7 [] .done)))))))) (by kernel_rfl) ?_;simp(disch:=omega) only[go_sem,↓reduceIte,g54,g55,g56,g57,n45,n46,n47,n56,n57,n67,m45,n74,n75,n76,n64,n65,hlx,hox];intro r8 hr8;dsimp only at hr8;obtain⟨K,hK⟩: ∃K,K=upd (upd (upd H5 r4 (some (.cells (dEx x) 36))) r5 (some (.cells [dI k] 3))) r6 (some (.cells [dI 0] 40)):=⟨_,rfl⟩;have hsK:Sub H K:=by rw[hK];exact((hs5.up hr4 _).up hr5' _).up hr6' _
  have k4:K r4=some (.cells (dEx x) 36):=by rw[hK];exact Ai (Ai (Aa _ _ _) n45) n46
  have k5:K r5=some (.cells [dI k] 3):=by rw[hK];exact Ai (Aa _ _ _) n56
  have k6:K r6=some (.cells [dI 0] 40):=by rw[hK];exact Aa _ _ _
  rw[<-hK] at hr8⊢
  have n48:r4≠r8:=Af hr8 k4;have n58:r5≠r8:=Af hr8 k5;have n68:r6≠r8:=Af hr8 k6;simp(disch:=omega) only[go_sem,↓reduceIte,k4,k5,k6,n48,n58,n68,hlx,hox];exact Pm.sub (hsK.new hr8 _) (.refl ⟨rfl,rfl⟩)
 | fail k=>
  rw[hres] at hq;obtain⟨rfl,hH5⟩:=hq;have g54:H5 r4=some (.cells [.int .u8 0, .int .u8 0, .int .i64 0, .str [], .nilSlice, .nilSlice, .int .i64 0, .int .i64 0, .int .i64 0] 36):=by rw[hH5];exact g4 _
  have g55:H5 r5=some (.cells [dI 0] 3):=by rw[hH5,Aq _ _ _ _ n57,Aq _ _ _ _ n57,Aq _ _ _ _ n56];exact a5
  have g56:H5 r6=some (.cells [dI 0] 40):=by rw[hH5,Aq _ _ _ _ n67,Aq _ _ _ _ n67];exact Aa _ _ _
  have hs5:Sub H H5:=by rw[hH5];exact((((((Sub.refl H).new hr4 _).new hr5 _).new hr6 _).new hr7 _).up hr7' _)
  simp(disch:=omega) only[go_sem,↓reduceIte,Bo2];intro r8 hr8;dsimp only at hr8;have n48:r4≠r8:=Af hr8 g54;have n58:r5≠r8:=Af hr8 g55;have n68:r6≠r8:=Af hr8 g56;simp(disch:=omega) only[go_sem,↓reduceIte,g54,g55,g56,n48,n58,n68,n45,n46,n56,m45,n64,n65];have hsK:=fun x y z=>(((hs5.new hr8 x).up hr5' y).up hr6' z);exact Fv.fin (hsK _ _ _) (Fv.tuple (.cons (Fv.agg (Fv.ex (l:= []) (a:= []) (hsK _ _ _) (.exs0 (hsK _ _ _)) (.as0 (hsK _ _ _)))) (Dp.keep (hsK _ _ _) _))) ⟨rfl,rfl⟩
end
end Go.Dl

-- Chapter 3: expressions: the plain laws, part 4: with enough fuel reading comes to an answer; then it needs no fuel.
namespace Go.Dl
open Go
set_option maxRecDepth 10000
section
variable {l:List Tok}
theorem Bx {α β:Type} {a:Nat} {r:Res α} {f:α->Nat->Res β} (h:r≠ .bot) (ha:Adv l a r) (k: ∀x n,a<=n->n<=l.length->f x n≠ .bot):r.then f≠ .bot:=by
 cases r with
 | bot=>exact absurd rfl h
 | fail n=>intro e;cases e
 | ok x n=>exact k x n ha.1 ha.2
theorem Gi {α:Type} {x:α} {k:Nat}:(Res.ok x k)≠ .bot:=fun e=>by cases e
theorem At7 {α:Type} {k:Nat}:(Res.fail k:Res α)≠ .bot:=fun e=>by cases e
theorem Na {α:Type} {s:List UInt8} {k:Nat} {f:Nat->Res α} (hk:k<=l.length) (h:k+1<=l.length->f (k+1)≠ .bot):Da l s k f≠ .bot:=by
 unfold Da;split
 ·rename_i hw
  exact h (Ao hw hk)
 ·exact At7
theorem Af3 {α:Type} {k:Nat} {f:List UInt8->Nat->Res α} (h:k+1<=l.length-> ∀s,f s (k+1)≠ .bot):Fq l k f≠ .bot:=by
 unfold Fq;split
 ·rename_i hw
  exact h (Ks (by rw[hw];decide)) _
 ·exact At7
structure PS.Tot (l:List Tok) (n:Nat) (p:PS):Prop where
 expr: ∀k,k<=l.length->8*(l.length-k)+6<=n->p.expr k≠ .bot
 rest: ∀x k,k<=l.length->8*(l.length-k)+2<=n->p.rest x k≠ .bot
 restL: ∀o x k,k<=l.length->8*(l.length-k)+1<=n->p.restL o x k≠ .bot
 relation: ∀x k,k<=l.length->8*(l.length-k)+1<=n->p.relation x k≠ .bot
 simple: ∀k,k<=l.length->8*(l.length-k)+5<=n->p.simple k≠ .bot
 addL: ∀x k,k<=l.length->8*(l.length-k)+1<=n->p.addL x k≠ .bot
 term: ∀k,k<=l.length->8*(l.length-k)+4<=n->p.term k≠ .bot
 mulL: ∀x k,k<=l.length->8*(l.length-k)+1<=n->p.mulL x k≠ .bot
 factor: ∀k,k<=l.length->8*(l.length-k)+3<=n->p.factor k≠ .bot
 primary: ∀k,k<=l.length->8*(l.length-k)+2<=n->p.primary k≠ .bot
 paren: ∀k,k<=l.length->8*(l.length-k)+1<=n->p.paren k≠ .bot
 assoc: ∀k,k<=l.length->8*(l.length-k)+7<=n->p.assoc k≠ .bot
 assocsL: ∀a k,k<=l.length->8*(l.length-k)+1<=n->p.assocsL a k≠ .bot
 choice: ∀k,k<=l.length->8*(l.length-k)+6<=n->p.choice k≠ .bot
 choicesL: ∀a k,k<=l.length->8*(l.length-k)+1<=n->p.choicesL a k≠ .bot
 arg: ∀k,k<=l.length->8*(l.length-k)+7<=n->p.arg k≠ .bot
 argsL: ∀a k,k<=l.length->8*(l.length-k)+1<=n->p.argsL a k≠ .bot
 name: ∀k,k<=l.length->8*(l.length-k)+1<=n->p.name k≠ .bot
 nameL: ∀i x k,k<=l.length->8*(l.length-k)+1<=n->p.nameL i x k≠ .bot
theorem Cf8 {p:PS} {n:Nat} (h:p.Tot l n) (ha:p.Adv l):(Av l p).Tot l (n+1) where
 expr k hk hn:=Bx (h.simple k hk (by omega)) (ha.simple k hk) fun x m h1 h2=>h.rest x m h2 (by omega)
 rest x k hk hn:=Bx (h.relation x k hk (by omega)) (ha.relation x k hk) fun x m h1 h2=>h.restL _ x m h2 (by omega)
 restL o x k hk hn:=by
  dsimp only[Av]
  split
  ·exact Gi
  ·obtain⟨q1,q2,q3,q4⟩:=Cl (want:=o) Dw0.1 hk
   split
   ·exact Gi
   ·rename_i hq
    have:=q2 hq
    exact Bx (h.simple _ q3 (by omega)) (ha.simple _ q3) fun y n h1 h2=>Bx (h.relation y n h2 (by omega)) (ha.relation y n h2) fun z m h3 h4=>h.restL _ _ m h4 (by omega)
 relation x k hk hn:=by
  dsimp only[Av]
  obtain⟨q1,q2,q3,q4⟩:=Cl (want:=0) Dw0.2.1 hk
  have hin: ∀kind j,k+1<=j->j<=l.length->inK l x kind j p≠ .bot:=fun kind j h1 h2=>by
   refine Bx (h.simple j h2 (by omega)) (ha.simple j h2) fun y m h3 h4=> ?_
   split
   ·rename_i hw
    have:=Ao hw h4
    have:=this
    simp only[List.length_cons,List.length_nil] at this
    exact Bx (h.simple (m+1) (by omega) (by omega)) (ha.simple (m+1) (by omega)) fun z m _ _=>Gi
   ·split
    ·exact Gi
    ·exact At7
  split
  ·rename_i hq
   have:=q2 hq
   exact Bx (h.simple _ q3 (by omega)) (ha.simple _ q3) fun y n h1 h2=>Gi
  ·split
   ·rename_i hw
    have:=Ao hw hk
    simp only[List.length_cons,List.length_nil] at this
    exact hin _ _ (by omega) (by omega)
   ·split
    ·rename_i hw
     have:=Ao hw hk
     simp only[List.length_cons,List.length_nil] at this
     exact hin _ _ (by omega) (by omega)
    ·exact Gi
 simple k hk hn:=by
  obtain⟨q1,q2,q3,q4⟩:=Cl (want:=0) Dw0.2.2.1 hk
  exact Bx (h.term _ q3 (by omega)) (ha.term _ q3) fun x n h1 h2=>h.addL _ n h2 (by omega)
 addL x k hk hn:=by
  dsimp only[Av]
  obtain⟨q1,q2,q3,q4⟩:=Cl (want:=0) Dw0.2.2.2.1 hk
  split
  ·exact Gi
  ·rename_i hq
   have:=q2 hq
   exact Bx (h.term _ q3 (by omega)) (ha.term _ q3) fun x n h1 h2=>h.addL _ n h2 (by omega)
 term k hk hn:=Bx (h.factor k hk (by omega)) (ha.factor k hk) fun x n h1 h2=>h.mulL _ n h2 (by omega)
 mulL x k hk hn:=by
  dsimp only[Av]
  obtain⟨q1,q2,q3,q4⟩:=Cl (want:=0) Dw0.2.2.2.2.1 hk
  split
  ·exact Gi
  ·rename_i hq
   have:=q2 hq
   exact Bx (h.factor _ q3 (by omega)) (ha.factor _ q3) fun x n h1 h2=>h.mulL _ n h2 (by omega)
 factor k hk hn:=by
  obtain⟨q1,q2,q3,q4⟩:=Cl (want:=0) Dw0.2.2.2.2.2 hk
  exact Bx (h.primary _ q3 (by omega)) (ha.primary _ q3) fun x n h1 h2=>Gi
 primary k hk hn:=by
  dsimp only[Av]
  split
  ·exact Gi
  ·split
   ·exact Gi
   ·split
    ·exact h.paren k hk (by omega)
    ·exact h.name k hk (by omega)
 paren k hk hn:=by
  dsimp only[Av]
  refine Na hk fun hk1=> ?_
  split
  ·rename_i hw
   have:=Ao hw hk1
   simp only[List.length_cons,List.length_nil] at this
   refine Bx (h.expr _ this (by omega)) (ha.expr _ this) fun a n1 h1 h2=>Na h2 fun h3=>Bx (h.expr _ h3 (by omega)) (ha.expr _ h3) fun b n2 h4 h5=>Na h5 fun h6=>Bx (h.expr _ h6 (by omega)) (ha.expr _ h6) fun c n3 h7 h8=>Na h8 fun h9=>Gi
  ·exact Bx (h.assoc _ hk1 (by omega)) (ha.assoc _ hk1) fun a n1 h1 h2=>Bx (h.assocsL _ _ h2 (by omega)) (ha.assocsL _ _ h2) fun az n2 h3 h4=>Na h4 fun h5=>Gi
 assoc k hk hn:=by
  refine Bx (h.choice k hk (by omega)) (ha.choice k hk) fun c n h1 h2=> ?_
  split
  ·exact Gi
  ·split
   ·exact Na h2 fun h3=>Bx (h.expr _ h3 (by omega)) (ha.expr _ h3) fun e m h4 h5=>Gi
   ·exact Bx (h.choicesL _ _ h2 (by omega)) (ha.choicesL _ _ h2) fun cs m h3 h4=>Na h4 fun h5=>Bx (h.expr _ h5 (by omega)) (ha.expr _ h5) fun e m h6 h7=>Gi
 assocsL az k hk hn:=by
  dsimp only[Av]
  split
  ·rename_i hw
   have:=Ao hw hk
   simp only[List.length_cons,List.length_nil] at this
   exact Bx (h.assoc _ this (by omega)) (ha.assoc _ this) fun a n h1 h2=>h.assocsL _ n h2 (by omega)
  ·exact Gi
 choice k hk hn:=by
  dsimp only[Av]
  split
  ·exact Gi
  ·refine Bx (h.simple k hk (by omega)) (ha.simple k hk) fun x n h1 h2=> ?_
   split
   ·rename_i hw
    have:=Ao hw h2
    simp only[List.length_cons,List.length_nil] at this
    exact Bx (h.simple _ this (by omega)) (ha.simple _ this) fun y m h3 h4=>Gi
   ·exact Bx (h.rest x n h2 (by omega)) (ha.rest x n h2) fun y m h3 h4=>Gi
 choicesL az k hk hn:=by
  dsimp only[Av]
  split
  ·rename_i hw
   have:=Ao hw hk
   simp only[List.length_cons,List.length_nil] at this
   exact Bx (h.choice _ this (by omega)) (ha.choice _ this) fun a n h1 h2=>h.choicesL _ n h2 (by omega)
  ·exact Gi
 arg k hk hn:=by
  dsimp only[Av]
  split
  ·rename_i hw
   have h1:=Ks (l:=l) (k:=k) (by rw[hw.1];decide)
   have:=Ao hw.2 h1
   simp only[List.length_cons,List.length_nil] at this
   exact Bx (h.expr _ this (by omega)) (ha.expr _ this) fun y m h3 h4=>Gi
  ·exact Bx (h.expr k hk (by omega)) (ha.expr k hk) fun y m h3 h4=>Gi
 argsL az k hk hn:=by
  dsimp only[Av]
  split
  ·rename_i hw
   have:=Ao hw hk
   simp only[List.length_cons,List.length_nil] at this
   exact Bx (h.arg _ this (by omega)) (ha.arg _ this) fun a n h1 h2=>h.argsL _ n h2 (by omega)
  ·exact Gi
 name k hk hn:=Af3 fun h1 s=>h.nameL _ _ _ h1 (by omega)
 nameL i x k hk hn:=by
  dsimp only[Av]
  split
  ·rename_i hw
   have:=Ao hw hk
   simp only[List.length_cons,List.length_nil] at this
   exact h.nameL _ _ _ (by omega) (by omega)
  ·split
   ·rename_i hw
    have:=Ao hw hk
    simp only[List.length_cons,List.length_nil] at this
    exact Af3 fun h1 s=>h.nameL _ _ _ h1 (by omega)
   ·split
    ·rename_i hw
     have:=Ao hw hk
     simp only[List.length_cons,List.length_nil] at this
     exact Bx (h.arg _ this (by omega)) (ha.arg _ this) fun a n h1 h2=>Bx (h.argsL _ _ h2 (by omega)) (ha.argsL _ _ h2) fun az m h3 h4=>Na h4 fun h5=>h.nameL _ _ _ h5 (by omega)
    ·split
     ·rename_i hw
      have:=Ao hw hk
      simp only[List.length_cons,List.length_nil] at this
      exact Bx (h.paren _ (by omega) (by omega)) (ha.paren _ (by omega)) fun a n h1 h2=>h.nameL _ _ _ h2 (by omega)
     ·split
      ·rename_i hw
       have:=Ao hw hk
       simp only[List.length_cons,List.length_nil] at this
       exact Af3 fun h1 s=>h.nameL _ _ _ h1 (by omega)
      ·exact Gi
theorem Dk1: ∀n,(P l n).Tot l n
 | 0=>by constructor<;>intros<;>omega
 | n+1=>Cf8 (Dk1 n) (Fu n)
def Dz (l:List Tok):Nat:=8*l.length+20
def Q (l:List Tok):PS:=P l (Dz l)
theorem Jh {α:Type} {r r':Res α} (h:r.Le r') (hn:r≠ .bot):r'=r:=by
 rcases h with h | h
 ·exact absurd h hn
 ·exact h.symm
structure PS.Fix (l:List Tok) (p:PS):Prop where
 expr: ∀k,k<=l.length->p.expr k=(Av l p).expr k
 rest: ∀x k,k<=l.length->p.rest x k=(Av l p).rest x k
 restL: ∀o x k,k<=l.length->p.restL o x k=(Av l p).restL o x k
 relation: ∀x k,k<=l.length->p.relation x k=(Av l p).relation x k
 simple: ∀k,k<=l.length->p.simple k=(Av l p).simple k
 addL: ∀x k,k<=l.length->p.addL x k=(Av l p).addL x k
 term: ∀k,k<=l.length->p.term k=(Av l p).term k
 mulL: ∀x k,k<=l.length->p.mulL x k=(Av l p).mulL x k
 factor: ∀k,k<=l.length->p.factor k=(Av l p).factor k
 primary: ∀k,k<=l.length->p.primary k=(Av l p).primary k
 paren: ∀k,k<=l.length->p.paren k=(Av l p).paren k
 assoc: ∀k,k<=l.length->p.assoc k=(Av l p).assoc k
 assocsL: ∀a k,k<=l.length->p.assocsL a k=(Av l p).assocsL a k
 choice: ∀k,k<=l.length->p.choice k=(Av l p).choice k
 choicesL: ∀a k,k<=l.length->p.choicesL a k=(Av l p).choicesL a k
 arg: ∀k,k<=l.length->p.arg k=(Av l p).arg k
 argsL: ∀a k,k<=l.length->p.argsL a k=(Av l p).argsL a k
 name: ∀k,k<=l.length->p.name k=(Av l p).name k
 nameL: ∀i x k,k<=l.length->p.nameL i x k=(Av l p).nameL i x k
theorem Dk2:(Q l).Tot l (Dz l):=Dk1 _
theorem Dk3:(Q l).Adv l:=Fu _
theorem Du2:(Q l).Fix l:=by
 have h:(Q l).Le (Av l (Q l)):=An2 _;have t:=Dk2 (l:=l);have f: ∀k,8*(l.length-k)+7<=Dz l:=fun k=>by unfold Dz;omega
 have f': ∀ {k a:Nat},a<=7->8*(l.length-k)+a<=Dz l:=fun {k a} ha=>by have:=f k;omega
 exact⟨fun k hk=>(Jh (h.expr k) (t.expr k hk (f' (by omega)))).symm,
  fun x k hk=>(Jh (h.rest x k) (t.rest x k hk (f' (by omega)))).symm,
  fun o x k hk=>(Jh (h.restL o x k) (t.restL o x k hk (f' (by omega)))).symm,
  fun x k hk=>(Jh (h.relation x k) (t.relation x k hk (f' (by omega)))).symm,
  fun k hk=>(Jh (h.simple k) (t.simple k hk (f' (by omega)))).symm,
  fun x k hk=>(Jh (h.addL x k) (t.addL x k hk (f' (by omega)))).symm,
  fun k hk=>(Jh (h.term k) (t.term k hk (f' (by omega)))).symm,
  fun x k hk=>(Jh (h.mulL x k) (t.mulL x k hk (f' (by omega)))).symm,
  fun k hk=>(Jh (h.factor k) (t.factor k hk (f' (by omega)))).symm,
  fun k hk=>(Jh (h.primary k) (t.primary k hk (f' (by omega)))).symm,
  fun k hk=>(Jh (h.paren k) (t.paren k hk (f' (by omega)))).symm,
  fun k hk=>(Jh (h.assoc k) (t.assoc k hk (f' (by omega)))).symm,
  fun x k hk=>(Jh (h.assocsL x k) (t.assocsL x k hk (f' (by omega)))).symm,
  fun k hk=>(Jh (h.choice k) (t.choice k hk (f' (by omega)))).symm,
  fun x k hk=>(Jh (h.choicesL x k) (t.choicesL x k hk (f' (by omega)))).symm,
  fun k hk=>(Jh (h.arg k) (t.arg k hk (f' (by omega)))).symm,
  fun x k hk=>(Jh (h.argsL x k) (t.argsL x k hk (f' (by omega)))).symm,
  fun k hk=>(Jh (h.name k) (t.name k hk (f' (by omega)))).symm,
  fun i x k hk=>(Jh (h.nameL i x k) (t.nameL i x k hk (f' (by omega)))).symm⟩
end
end Go.Dl

-- Chapter 3: expressions: the plain laws, part 5: the tokens of an expression.
namespace Go.Dl
open Go
set_option maxRecDepth 10000
def Am (s:List UInt8):Tok:=⟨Jf s,0,s,0⟩
def Hs (s:List UInt8):Tok:=⟨1,0,s,0⟩
def Bd7 (n:Int):Tok:=⟨3,0,[],n⟩
def Pq (b:Bool) (t:List Tok):List Tok:=if b then Am Bo::(t++ [Am Cc]) else t
def Fm (s:List UInt8):List (List Tok)->List Tok
 | []=> []
 | [x]=>x
 | x::r=>x++Am s::Fm s r
def Gq (e:Ex):Int:=if Ak e=2 then 3 else 5
def Cw (e:Ex):Int:=if Ak e=1 then 2 else if Ak e=0/\((e.l.getD 0 ex0).kind≠12\/(e.l.getD 0 ex0).oper≠e.oper) then 1 else Ak e
def Eb (e:Ex):Int:=if Ak e=1 then 2 else Ak e+1
def Ki (k:Int):Bool:=decide (k=9) || decide (k=10)
def Kt (e:Ex) (tl ta:List (List Tok)):List Tok:=
 let p:=fun(i:Nat) (lv:Int)=>Pq (decide (Ak (e.l.getD i ex0)<lv)) (tl.getD i [])
 if e.kind=1 then [Bd7 e.n] else if e.kind=2 then [Am Mz] else if e.kind=3 then [Hs e.s]
 else if e.kind=4 then tl.getD 0 []++ [Am In,Hs e.s]
 else if e.kind=5 then tl.getD 0 []++ [Am In,Am Qi]
 else if e.kind=6 then tl.getD 0 []++ [Am Fl,Hs e.s]
 else if e.kind=7 then tl.getD 0 []++Am Bo::(Fm Gx ta++ [Am Cc])
 else if e.kind=8 then tl.getD 0 []++Am Fl::Pq (!Ki (e.l.getD 1 ex0).kind) (tl.getD 1 [])
 else if e.kind=9 then Am Bo::(Fm Gx ta++ [Am Cc])
 else if e.kind=10 then Am Bo::Am wIf::(tl.getD 0 []++Am Jm::(tl.getD 1 []++Am Ke::(tl.getD 2 []++ [Am Cc])))
 else if e.kind=11 then(Al e.oper.toNat).map Am++p 0 (Gq e)
 else if e.kind=12 then p 0 (Cw e)++((Al e.oper.toNat).map Am++p 1 (Eb e))
 else if e.kind=13 then p 0 2++Am wIn::(if e.l.length=3 then p 1 2++Am Ef::p 2 2 else tl.getD 1 [])
 else p 0 2++Am Nf::Am wIn::(if e.l.length=3 then p 1 2++Am Ef::p 2 2 else tl.getD 1 [])
def Du3 (k:Int) (l:List Ex) (tl:List (List Tok)):List Tok:=
 let p:=fun(i:Nat) (lv:Int)=>Pq (decide (Ak (l.getD i ex0)<lv)) (tl.getD i [])
 if k=1 then tl.getD 0 [] else if k=2 then p 0 2++Am Ef::p 1 2 else [Am Gr]
def Dk4 (tc:List (List Tok)) (te:List Tok):List Tok:=if tc.isEmpty then te else Fm Fk tc++Am Bc::te
mutual
def Ag:Ex->List Tok
 | .mk k o n s l a li en t=>Kt (.mk k o n s l a li en t) (Af4 l) (At8 a)
def Af4:List Ex->List (List Tok)
 | []=> []
 | x::l=>Ag x::Af4 l
def Ez:As->List Tok
 | .mk c e=>Dk4 (At9 c) (Ag e)
def At8:List As->List (List Tok)
 | []=> []
 | x::l=>Ez x::At8 l
def Et:Ch->List Tok
 | .mk k l=>Du3 k l (Af4 l)
def At9:List Ch->List (List Tok)
 | []=> []
 | x::l=>Et x::At9 l
end
theorem Ta: ∀l:List Ex,Af4 l=l.map Ag
 | []=>rfl
 | x::l=>by rw[Af4,Ta l,List.map_cons]
theorem Af5: ∀l:List As,At8 l=l.map Ez
 | []=>rfl
 | x::l=>by rw[At8,Af5 l,List.map_cons]
theorem Af6: ∀l:List Ch,At9 l=l.map Et
 | []=>rfl
 | x::l=>by rw[At9,Af6 l,List.map_cons]
theorem Fa (e:Ex):Ag e=Kt e (e.l.map Ag) (e.a.map Ez):=by
 cases e;rw[Ag,Ta,Af5];rfl
theorem Kj (x:As):Ez x=if x.c.isEmpty then Ag x.e else Fm Fk (x.c.map Et)++Am Bc::Ag x.e:=by
 cases x with
 | mk c e=>rw[Ez,Af6,Dk4];cases c<;>rfl
def Aw (e:Ex) (lv:Int):List Tok:=Pq (decide (Ak e<lv)) (Ag e)
theorem Ct3 {α β:Type} (f:α->β) (l:List α) (i:Nat) (d:α) (e:β) (h:i<l.length):(l.map f).getD i e=f (l.getD i d):=by
 simp [List.getD,List.getElem?_map,List.getElem?_eq_getElem h]
theorem Ig (c:Ch):Et c=if c.kind=1 then(c.l.map Ag).getD 0 [] else if c.kind=2 then Pq (decide (Ak (c.l.getD 0 ex0)<2)) ((c.l.map Ag).getD 0 [])++Am Ef::Pq (decide (Ak (c.l.getD 1 ex0)<2)) ((c.l.map Ag).getD 1 []) else [Am Gr]:=by
 cases c;rw[Et,Ta];rfl
def tE (e:Ex) (i:Nat):List Tok:=(e.l.map Ag).getD i []
def pE (e:Ex) (i:Nat) (lv:Int):List Tok:=Pq (decide (Ak (e.l.getD i ex0)<lv)) (tE e i)
def Ga (e:Ex):List Tok:=if e.l.length=3 then pE e 1 2++Am Ef::pE e 2 2 else tE e 1
def taE (e:Ex):List Tok:=Fm Gx (e.a.map Ez)
section
variable {e:Ex}
theorem Ct4 (h:e.kind=1):Ag e= [Bd7 e.n]:=by rw[Fa];unfold Kt;rw[h];rfl
theorem Ct5 (h:e.kind=2):Ag e= [Am Mz]:=by rw[Fa];unfold Kt;rw[h];rfl
theorem Ao1 (h:e.kind=3):Ag e= [Hs e.s]:=by rw[Fa];unfold Kt;rw[h];rfl
theorem Ct6 (h:e.kind=4):Ag e=tE e 0++ [Am In,Hs e.s]:=by rw[Fa];unfold Kt;rw[h];rfl
theorem Ct7 (h:e.kind=5):Ag e=tE e 0++ [Am In,Am Qi]:=by rw[Fa];unfold Kt;rw[h];rfl
theorem Ct8 (h:e.kind=6):Ag e=tE e 0++ [Am Fl,Hs e.s]:=by rw[Fa];unfold Kt;rw[h];rfl
theorem Ct9 (h:e.kind=7):Ag e=tE e 0++Am Bo::(taE e++ [Am Cc]):=by rw[Fa];unfold Kt;rw[h];rfl
theorem Cu0 (h:e.kind=8):Ag e=tE e 0++Am Fl::Pq (!Ki (e.l.getD 1 ex0).kind) (tE e 1):=by rw[Fa];unfold Kt;rw[h];rfl
theorem Bv4 (h:e.kind=9):Ag e=Am Bo::(taE e++ [Am Cc]):=by rw[Fa];unfold Kt;rw[h];rfl
theorem Au0 (h:e.kind=10):Ag e=Am Bo::Am wIf::(tE e 0++Am Jm::(tE e 1++Am Ke::(tE e 2++ [Am Cc]))):=by rw[Fa];unfold Kt;rw[h];rfl
theorem Bo7 (h:e.kind=11):Ag e=(Al e.oper.toNat).map Am++pE e 0 (Gq e):=by rw[Fa];unfold Kt;rw[h];rfl
theorem Bo8 (h:e.kind=12):Ag e=pE e 0 (Cw e)++((Al e.oper.toNat).map Am++pE e 1 (Eb e)):=by rw[Fa];unfold Kt;rw[h];rfl
theorem Bo9 (h:e.kind=13):Ag e=pE e 0 2++Am wIn::Ga e:=by rw[Fa];unfold Kt;rw[h];rfl
theorem Bp0 (h:e.kind=14):Ag e=pE e 0 2++Am Nf::Am wIn::Ga e:=by rw[Fa];unfold Kt;rw[h];rfl
theorem Du4 {i:Nat} (h:i<e.l.length):tE e i=Ag (e.l.getD i ex0):=Ct3 Ag e.l i ex0 [] h
theorem Dk5 {i:Nat} (h:i<e.l.length) (lv:Int):pE e i lv=Aw (e.l.getD i ex0) lv:=by rw[pE,Du4 h];rfl
end
theorem Cf9 {s:List UInt8}:Jf s≠1/\Jf s≠3/\Jf s≠0:=by
 unfold Jf;split<;>decide
theorem Rj (s:List UInt8) (x:List Tok) (r:List (List Tok)) (h:r≠ []):Fm s (x::r)=x++Am s::Fm s r:=by
 cases r with
 | nil=>exact absurd rfl h
 | cons y r=>rfl
theorem Ao2 (s:List UInt8): ∀(l:List (List Tok)) (x:List Tok),l≠ []->Fm s (l++ [x])=Fm s l++Am s::x
 | [],_,h=>absurd rfl h
 | [y],x,_=>rfl
 | y::z::r,x,_=>by
  rw[List.cons_append,Rj s y _ (by simp),Ao2 s (z::r) x (by simp),Rj s y (z::r) (by simp)];simp
end Go.Dl

-- Chapter 3: expressions: the plain laws, part 6: what was read ends with a token that ends an expression; reading sees no token behind it.
namespace Go.Dl
open Go
set_option maxRecDepth 10000
section
variable {l:List Tok}
theorem Af7 {k:Nat} {s:List UInt8}:isW l k [s]=(decide ((tk l k).kind=Jf s)&&decide ((tk l k).text=s)):=by rw[isW,isW,Bool.and_true]
theorem Cu1 {k:Nat} {s t:List UInt8}:isW l k [s,t]=(isW l k [s]&&isW l (k+1) [t]):=by rw[isW,Af7 (s:=s),Af7 (s:=t)]
theorem Dw {k:Nat} {s t:List UInt8} (h:isW l k [s]=true) (hs:s≠t):isW l k [t]=false:=by
 rw[Af7,Bool.and_eq_true,decide_eq_true_eq,decide_eq_true_eq] at h;rw[Af7,h.2,decide_eq_false hs,Bool.and_false]
end
end Go.Dl

-- Chapter 3: expressions: the plain laws, part 7: reading sees no token behind what it reads.
namespace Go.Dl
open Go
set_option maxRecDepth 10000
section
variable {l:List Tok} {n:Nat}
theorem Cu2 {k:Nat} {ws:List (List UInt8)} {s:List UInt8} (h:isW l k ws=true) (hs:ws.head? =some s):isW l k [s]=true:=by
 cases ws with
 | nil=>cases hs
 | cons a r=>
  cases hs;rw[isW,Bool.and_eq_true] at h;rw[Af7];exact h.1
theorem Af8 {want k:Nat} {l:List Tok}: ∀ {os:List Nat},(∀o∈os,isW l k (Al o)=false)->opF l want k os=(0,k)
 | [],_=>rfl
 | o::r,h=>by rw[opF,h o (by simp),if_neg (by simp)];exact Af8 fun x hx=>h x (by simp [hx])
end
end Go.Dl

-- Chapter 3: expressions: the plain laws, part 8: what was read is not shorter than its tokens.
namespace Go.Dl
open Go
set_option maxRecDepth 10000
section
variable {l:List Tok}
theorem Bd8 (b:Bool) (t:List Tok):(Pq b t).length=t.length+if b then 2 else 0:=by
 cases b<;>simp [Pq]
theorem Kk (e:Ex):0<=Ak e/\Ak e<=5:=by
 unfold Ak;repeat' split
 all_goals omega
def Gz {α:Type} (R:α->Nat->Prop) (r:Res α):Prop:= ∀x k',r= .ok x k'->R x k'
theorem Bd {α β:Type} {r:Res α} {f:α->Nat->Res β} {R:α->Nat->Prop} {S:β->Nat->Prop} (h:Gz R r) (hf: ∀x k1,R x k1->Gz S (f x k1)):Gz S (r.then f):=fun y k' e=>by
 cases r with
 | bot=>cases e
 | fail n=>cases e
 | ok x n=>exact hf x n (h x n rfl) y k' e
theorem Cr {α:Type} {R:α->Nat->Prop} {k:Nat} {x:α} (h:R x k):Gz R (.ok x k):=fun y k' e=>by cases e;exact h
theorem Ww {α:Type} {R:α->Nat->Prop} {k:Nat}:Gz R (.fail k):=fun y k' e=>by cases e
theorem Iw {α:Type} {R:α->Nat->Prop} {k:Nat} {s:List UInt8} {f:Nat->Res α} (h:isW l k [s]=true->Gz R (f (k+1))):Gz R (Da l s k f):=by
 unfold Da;split
 ·exact h ‹_›
 ·exact Ww
theorem Wx {α:Type} {R:α->Nat->Prop} {k:Nat} {f:List UInt8->Nat->Res α} (h:(tk l k).kind=1->Gz R (f (tk l k).text (k+1))):Gz R (Fq l k f):=by
 unfold Fq;split
 ·exact h ‹_›
 ·exact Ww
theorem Cd {α:Type} {R S:α->Nat->Prop} {r:Res α} (h:Gz R r) (g:Gz S r):Gz (fun x k=>R x k/\S x k) r:=fun x k e=>⟨h x k e,g x k e⟩
theorem Ce {α:Type} {a:Nat} {r:Res α} (h:Adv l a r):Gz (fun _ k'=>a<=k'/\k'<=l.length) r:=fun x k' e=>by rw[e] at h;exact h
def Cu3 (ta:List (List Tok)):Nat:=(ta.map fun t=>t.length+1).sum-1
theorem Af9 (s:List UInt8): ∀l:List (List Tok),(Fm s l).length=Cu3 l
 | []=>rfl
 | [x]=>by simp [Fm,Cu3]
 | x::y::r=>by
  have ih:=Af9 s (y::r);rw[Rj s x _ (by simp),List.length_append,List.length_cons,ih];simp only[Cu3,List.map_cons,List.sum_cons];omega
def Au1 (ta:List (List Tok)):Nat:=(ta.map fun t=>t.length+1).sum
theorem Qn {e:Ex} (h:Az e=true):Ak e=5:=by
 unfold Az at h;rw[Bool.and_eq_true,decide_eq_true_eq,decide_eq_true_eq] at h;unfold Ak;rw[if_neg (by omega),if_neg (by omega),if_neg (by omega)]
theorem Au2 {want k:Nat}: ∀ {os:List Nat},(opF l want k os).1≠0->(opF l want k os).1∈os/\(opF l want k os).2=k+(Al (opF l want k os).1).length/\isW l k (Al (opF l want k os).1)=true
 | [],h=>absurd rfl h
 | o::r,h=>by
  rw[opF] at h⊢
  split
  ·rename_i hw
   rw[if_pos hw] at h;split
   ·rename_i hc
    rw[if_pos hc] at h;exact absurd rfl h
   ·exact⟨List.mem_cons_self,rfl,hw⟩
  ·rename_i hw
   rw[if_neg hw] at h;have:=Au2 h;exact⟨List.mem_cons_of_mem _ this.1,this.2⟩
theorem Ao3 (o:Nat) (x y:Ex):Ag (both o x y)=Aw x (Cw (both o x y))++((Al o).map Am++Aw y (Eb (both o x y))):=by
 rw[Fa];rfl
theorem Cu4 {o:Nat} (h:o∈Ej):o=18\/o=19:=by simp [Ej] at h;omega
theorem Dg0 {o:Nat} (h:o∈Gp):o=20\/o=21:=by simp [Gp] at h;omega
theorem Cu5 (s:List UInt8) (ta:List (List Tok)) (h:ta≠ []):(Fm s ta).length+1=Au1 ta:=by
 rw[Af9,Cu3,Au1];cases ta with
 | nil=>exact absurd rfl h
 | cons t r=>simp only[List.map_cons,List.sum_cons];omega
theorem Ao4 (o:Nat) (x y:Ex):(both o x y).kind=12/\(both o x y).oper=(o:Int):=⟨rfl,rfl⟩
end
end Go.Dl

-- Chapter 3: what was read fits into a machine.
namespace Go.Dl
open Go Go.Proofs
set_option maxRecDepth 100000
section
variable {l:List Tok}
theorem Tb (a:As): ∀l:List As,Dg (l++ [a])=Dg l+Ma a
 | []=>by simp [Dg]
 | x::l=>by rw[List.cons_append,Dg,Dg,Tb a l];omega
theorem Ag0 (a:Ch): ∀l:List Ch,Fz (l++ [a])=Fz l+Po a
 | []=>by simp [Fz]
 | x::l=>by rw[List.cons_append,Fz,Fz,Ag0 a l];omega
theorem Wy (a:As): ∀l:List As,Kz (l++ [a])↔Kz l/\okA a
 | []=>by simp [Kz]
 | x::l=>by rw[List.cons_append,Kz,Kz,Wy a l];exact and_assoc.symm
theorem Ao5 (a:Ch): ∀l:List Ch,Uu (l++ [a])↔Uu l/\okC a
 | []=>by simp [Uu]
 | x::l=>by rw[List.cons_append,Uu,Uu,Ao5 a l];exact and_assoc.symm
def FE (k:Nat) (x:Ex) (k':Nat):Prop:=Cp x+1+2*k<=2*k'/\okE x
def FL (k:Nat) (x y:Ex) (k':Nat):Prop:=Cp y+2*k<=Cp x+2*k'/\okE y
structure PS.Fits (l:List Tok) (p:PS):Prop where
 expr: ∀k,k<=l.length->Gz (FE k) (p.expr k)
 rest: ∀x k,k<=l.length->okE x->Gz (FL k x) (p.rest x k)
 restL: ∀o x k,k<=l.length->okE x->Gz (FL k x) (p.restL o x k)
 relation: ∀x k,k<=l.length->okE x->Gz (FL k x) (p.relation x k)
 simple: ∀k,k<=l.length->Gz (FE k) (p.simple k)
 addL: ∀x k,k<=l.length->okE x->Gz (FL k x) (p.addL x k)
 term: ∀k,k<=l.length->Gz (FE k) (p.term k)
 mulL: ∀x k,k<=l.length->okE x->Gz (FL k x) (p.mulL x k)
 factor: ∀k,k<=l.length->Gz (FE k) (p.factor k)
 primary: ∀k,k<=l.length->Gz (FE k) (p.primary k)
 paren: ∀k,k<=l.length->Gz (FE k) (p.paren k)
 assoc: ∀k,k<=l.length->Gz (fun x k'=>Ma x+1+2*k<=2*k'/\okA x) (p.assoc k)
 assocsL: ∀a k,k<=l.length->Kz a->Gz (fun b k'=>Dg b+2*k<=Dg a+2*k'/\Kz b) (p.assocsL a k)
 choice: ∀k,k<=l.length->Gz (fun x k'=>Po x+2*k<=2*k'/\okC x) (p.choice k)
 choicesL: ∀a k,k<=l.length->Uu a->Gz (fun b k'=>Fz b+2*k<=Fz a+2*k'/\Uu b) (p.choicesL a k)
 arg: ∀k,k<=l.length->Gz (fun x k'=>Ma x+1+2*k<=2*k'/\okA x) (p.arg k)
 argsL: ∀a k,k<=l.length->Kz a->Gz (fun b k'=>Dg b+2*k<=Dg a+2*k'/\Kz b) (p.argsL a k)
 name: ∀k,k<=l.length->Gz (FE k) (p.name k)
 nameL: ∀i x k,k<=l.length->okE x->Gz (FL k x) (p.nameL i x k)
theorem Uw (o:Nat) (x y:Ex):Cp (both o x y)=1+Cp x+Cp y:=by
 rw[both,Cp];simp only[Ho,Dg];omega
theorem Zk {o:Nat} {x y:Ex} (h1:okE x) (h2:okE y):okE (both o x y):=by
 rw[both,okE];simp only[okL,Kz];exact⟨by decide,⟨h1,h2,trivial⟩,trivial⟩
theorem Bd9 (o:Nat) (x:Ex) (li:Int):Cp (Kf o li x)=if o=0 then Cp x else 1+Cp x:=by
 unfold Kf;split
 ·rfl
 ·rw[Cp];simp only[Ho,Dg];omega
theorem Bv5 {o:Nat} {x:Ex} {li:Int} (h1:okE x):okE (Kf o li x):=by
 unfold Kf;split
 ·exact h1
 ·rw[okE];simp only[okL,Kz];exact⟨by decide,⟨h1,trivial⟩,trivial⟩
theorem Bp1 (hT: ∀k,(tk l k).text.length<=9223372036854775807) {p:PS} (h:p.Fits l) (hA:p.Adv l):(Av l p).Fits l where
 expr k hk:=Bd (Cd (h.simple k hk) (Ce (hA.simple k hk))) fun x m ⟨h1,h2⟩ y k' e=>by
  obtain⟨g1,g2⟩:=h.rest x m h2.2 h1.2 y k' e
  exact⟨by have:=h1.1;omega,g2⟩
 rest x k hk hx:=Bd (Cd (h.relation x k hk hx) (Ce (hA.relation x k hk))) fun y m ⟨h1,h2⟩ z k' e=>by
  obtain⟨g1,g2⟩:=h.restL _ y m h2.2 h1.2 z k' e
  exact⟨by have:=h1.1;omega,g2⟩
 restL o x k hk hx:=by
  dsimp only[Av]
  split
  ·exact Cr ⟨Nat.le_refl _,hx⟩
  ·obtain⟨q1,q2,q3,q4⟩:=Cl (want:=o) Dw0.1 hk
   split
   ·exact Cr ⟨Nat.le_refl _,hx⟩
   ·rename_i hq
    have:=q2 hq
    refine Bd (Cd (h.simple _ q3) (Ce (hA.simple _ q3))) fun y j ⟨h1,h2⟩=>Bd (Cd (h.relation y j h2.2 h1.2) (Ce (hA.relation y j h2.2))) fun z i ⟨h3,h4⟩ w k' e=> ?_
    obtain⟨g1,g2⟩:=h.restL o (both o x z) i h4.2 (Zk hx h3.2) w k' e
    rw[Uw] at g1
    have:=h1.1
    have:=h3.1
    exact⟨by omega,g2⟩
 relation x k hk hx:=by
  dsimp only[Av]
  obtain⟨q1,q2,q3,q4⟩:=Cl (want:=0) Dw0.2.1 hk
  have hin: ∀(kind:Int) (j:Nat),k+1<=j->j<=l.length->Gz (FL k x) (inK l x kind j p):=fun kind j hkj hj=>by
   refine Bd (Cd (h.simple _ hj) (Ce (hA.simple _ hj))) fun y i ⟨h1,h2⟩=> ?_
   have:=h1.1
   split
   ·rename_i hw
    have j1:=Ao hw h2.2
    simp only[List.length_cons,List.length_nil] at j1
    refine Bd (h.simple _ j1) fun z n h3=>Cr ⟨?_,?_⟩
    ·have:=h3.1
     rw[Cp];simp only[Ho,Dg];omega
    ·rw[okE];simp only[okL,Kz];exact⟨by decide,⟨hx,h1.2,h3.2,trivial⟩,trivial⟩
   ·split
    ·refine Cr ⟨?_,?_⟩
     ·rw[Cp];simp only[Ho,Dg];omega
     ·rw[okE];simp only[okL,Kz];exact⟨by decide,⟨hx,h1.2,trivial⟩,trivial⟩
    ·exact Ww
  split
  ·rename_i hq
   have:=q2 hq
   refine Bd (h.simple _ q3) fun y j h1=>Cr ⟨?_,Zk hx h1.2⟩
   have:=h1.1
   rw[Uw];omega
  ·split
   ·rename_i hw
    have j1:=Ao hw hk
    simp only[List.length_cons,List.length_nil] at j1
    exact hin _ _ (by omega) j1
   ·split
    ·rename_i hw
     have j1:=Ao hw hk
     simp only[List.length_cons,List.length_nil] at j1
     exact hin _ _ (by omega) j1
    ·exact Cr ⟨Nat.le_refl _,hx⟩
 simple k hk:=by
  obtain⟨q1,q2,q3,q4⟩:=Cl (want:=0) Dw0.2.2.1 hk
  refine Bd (Cd (h.term _ q3) (Ce (hA.term _ q3))) fun x j ⟨h1,h2⟩ y k' e=> ?_
  obtain⟨g1,g2⟩:=h.addL _ j h2.2 (Bv5 h1.2) y k' e
  have:=h1.1
  rw[Bd9] at g1
  refine⟨?_,g2⟩
  by_cases c:(opF l 0 k Ej).1=0
  ·rw[if_pos c] at g1;omega
  ·have:=q2 c
   rw[if_neg c] at g1;omega
 addL x k hk hx:=by
  dsimp only[Av]
  obtain⟨q1,q2,q3,q4⟩:=Cl (want:=0) Dw0.2.2.2.1 hk
  split
  ·exact Cr ⟨Nat.le_refl _,hx⟩
  ·rename_i hq
   have:=q2 hq
   refine Bd (Cd (h.term _ q3) (Ce (hA.term _ q3))) fun y j ⟨h1,h2⟩ z k' e=> ?_
   obtain⟨g1,g2⟩:=h.addL _ j h2.2 (Zk hx h1.2) z k' e
   have:=h1.1
   rw[Uw] at g1
   exact⟨by omega,g2⟩
 term k hk:=Bd (Cd (h.factor k hk) (Ce (hA.factor k hk))) fun x j ⟨h1,h2⟩ y k' e=>by
  obtain⟨g1,g2⟩:=h.mulL x j h2.2 h1.2 y k' e
  have:=h1.1
  exact⟨by omega,g2⟩
 mulL x k hk hx:=by
  dsimp only[Av]
  obtain⟨q1,q2,q3,q4⟩:=Cl (want:=0) Dw0.2.2.2.2.1 hk
  split
  ·exact Cr ⟨Nat.le_refl _,hx⟩
  ·rename_i hq
   have:=q2 hq
   refine Bd (Cd (h.factor _ q3) (Ce (hA.factor _ q3))) fun y j ⟨h1,h2⟩ z k' e=> ?_
   obtain⟨g1,g2⟩:=h.mulL _ j h2.2 (Zk hx h1.2) z k' e
   have:=h1.1
   rw[Uw] at g1
   exact⟨by omega,g2⟩
 factor k hk:=by
  obtain⟨q1,q2,q3,q4⟩:=Cl (want:=0) Dw0.2.2.2.2.2 hk
  refine Bd (h.primary _ q3) fun x j h1=>Cr ⟨?_,Bv5 h1.2⟩
  have:=h1.1
  rw[Bd9]
  by_cases c:(opF l 0 k Gp).1=0
  ·rw[if_pos c];omega
  ·have:=q2 c
   rw[if_neg c];omega
 primary k hk:=by
  dsimp only[Av]
  split
  ·exact Cr ⟨by rw[Cp];simp only[Ho,Dg];omega,by rw[okE];exact⟨by decide,trivial,trivial⟩⟩
  ·split
   ·exact Cr ⟨by rw[Cp];simp only[Ho,Dg];omega,by rw[okE];exact⟨by decide,trivial,trivial⟩⟩
   ·split
    ·exact h.paren k hk
    ·exact h.name k hk
 paren k hk:=by
  dsimp only[Av]
  refine Iw fun hw=> ?_
  have hk1:=Ao hw hk
  simp only[List.length_cons,List.length_nil] at hk1
  split
  ·rename_i hw2
   have hk2:=Ao hw2 hk1
   simp only[List.length_cons,List.length_nil] at hk2
   refine Bd (Cd (h.expr _ hk2) (Ce (hA.expr _ hk2))) fun a i1 ⟨g1,g2⟩=>Iw fun w1=> ?_
   have j1:=Ao w1 g2.2
   refine Bd (Cd (h.expr _ j1) (Ce (hA.expr _ j1))) fun b i2 ⟨g3,g4⟩=>Iw fun w2=> ?_
   have j2:=Ao w2 g4.2
   refine Bd (Cd (h.expr _ j2) (Ce (hA.expr _ j2))) fun c i3 ⟨g5,g6⟩=>Iw fun w3=>Cr ⟨?_,?_⟩
   ·have:=g1.1;have:=g3.1;have:=g5.1
    rw[Cp];simp only[Ho,Dg];omega
   ·rw[okE];simp only[okL,Kz];exact⟨by decide,⟨g1.2,g3.2,g5.2,trivial⟩,trivial⟩
  ·refine Bd (Cd (h.assoc _ hk1) (Ce (hA.assoc _ hk1))) fun a i1 ⟨g1,g2⟩=>Bd (Cd (h.assocsL [a] i1 g2.2 ⟨g1.2,trivial⟩) (Ce (hA.assocsL [a] i1 g2.2))) fun b i2 ⟨g3,g4⟩=>Iw fun w1=>Cr ?_
   have g1':=g1.1
   have g3':=g3.1
   simp only[Dg] at g3'
   have key: ∀li,FE k (.mk 9 0 0 [] [] b li 0 0) (i2+1):=fun li=>⟨by rw[Cp];simp only[Ho];omega,by rw[okE];exact⟨by decide,trivial,g3.2⟩⟩
   match b,g3,g3',key with
   | [],g3,_,key=>exact key _
   | x::y::r,g3,_,key=>exact key _
   | [x],g3,g3',key=>
    show FE k (if x.c= [] then x.e else _) _
    split
    ·simp only[Dg] at g3'
     have h6:=Ur x
     have h5:=g3.2
     simp only[Kz] at h5
     exact⟨by omega,(Dp9.1 h5.1).2⟩
    ·exact key _
 assoc k hk:=by
  refine Bd (Cd (h.choice k hk) (Ce (hA.choice k hk))) fun c i1 ⟨⟨g1,g1'⟩,g2⟩=> ?_
  rw[Rf] at g1
  split
  ·refine Cr ?_
   rw[Dq0] at g1'
   rw[Ma,okA]
   simp only[Fz,Uu]
   obtain⟨m,hm⟩: ∃m,m=c.l:=⟨_,rfl⟩
   rw[<-hm] at g1 g1'⊢
   cases m with
   | nil=>exact⟨by show 0+Cp ex0+1+2*k<=_;rw[show Cp ex0=1 from rfl];omega,trivial,by simp [ex0,okE,okL,Kz]⟩
   | cons x r=>
    rw[Ho] at g1
    rw[okL] at g1'
    exact⟨by show 0+Cp x+1+2*k<=_;omega,trivial,g1'.1⟩
  ·split
   ·refine Iw fun w1=> ?_
    have j1:=Ao w1 g2.2
    simp only[List.length_cons,List.length_nil] at j1
    refine Bd (h.expr _ j1) fun e i2 g3=>Cr ⟨?_,?_⟩
    ·have:=g3.1
     rw[Ma];simp only[Fz,Rf];omega
    ·rw[okA];exact⟨⟨g1',trivial⟩,g3.2⟩
   ·refine Bd (Cd (h.choicesL [c] i1 g2.2 ⟨g1',trivial⟩) (Ce (hA.choicesL [c] i1 g2.2))) fun b i2 ⟨⟨g3,g3'⟩,g4⟩=>Iw fun w1=> ?_
    have j1:=Ao w1 g4.2
    simp only[List.length_cons,List.length_nil] at j1
    refine Bd (h.expr _ j1) fun e i3 g5=>Cr ⟨?_,?_⟩
    ·have:=g5.1
     simp only[Fz,Rf] at g3
     rw[Ma];omega
    ·rw[okA];exact⟨g3',g5.2⟩
 assocsL a k hk ha:=by
  dsimp only[Av]
  split
  ·rename_i hw
   have:=Ao hw hk
   simp only[List.length_cons,List.length_nil] at this
   refine Bd (Cd (h.assoc _ this) (Ce (hA.assoc _ this))) fun x n ⟨h1,h2⟩ y k' e=> ?_
   obtain⟨g,g'⟩:=h.assocsL _ n h2.2 ((Wy _ _).2 ⟨ha,h1.2⟩) y k' e
   rw[Tb] at g
   have:=h1.1
   exact⟨by omega,g'⟩
  ·exact Cr ⟨Nat.le_refl _,ha⟩
 choice k hk:=by
  dsimp only[Av]
  split
  ·exact Cr ⟨by rw[Po];simp only[Ho];omega,by rw[okC];trivial⟩
  ·refine Bd (Cd (h.simple k hk) (Ce (hA.simple k hk))) fun x i1 ⟨g1,g2⟩=> ?_
   have:=g1.1
   split
   ·rename_i hw
    have j1:=Ao hw g2.2
    simp only[List.length_cons,List.length_nil] at j1
    refine Bd (h.simple _ j1) fun y i2 g3=>Cr ⟨?_,?_⟩
    ·have:=g3.1
     rw[Po];simp only[Ho];omega
    ·rw[okC];exact⟨g1.2,g3.2,trivial⟩
   ·refine Bd (h.rest x i1 g2.2 g1.2) fun y i2 g3=>Cr ⟨?_,?_⟩
    ·have:=g3.1
     rw[Po];simp only[Ho];omega
    ·rw[okC];exact⟨g3.2,trivial⟩
 choicesL a k hk ha:=by
  dsimp only[Av]
  split
  ·rename_i hw
   have:=Ao hw hk
   simp only[List.length_cons,List.length_nil] at this
   refine Bd (Cd (h.choice _ this) (Ce (hA.choice _ this))) fun x n ⟨h1,h2⟩ y k' e=> ?_
   obtain⟨g,g'⟩:=h.choicesL _ n h2.2 ((Ao5 _ _).2 ⟨ha,h1.2⟩) y k' e
   rw[Ag0] at g
   have:=h1.1
   exact⟨by omega,g'⟩
  ·exact Cr ⟨Nat.le_refl _,ha⟩
 arg k hk:=by
  dsimp only[Av]
  split
  ·rename_i hw
   have j0:=Ks (l:=l) (k:=k) (by rw[hw.1];decide)
   have j1:=Ao hw.2 j0
   simp only[List.length_cons,List.length_nil] at j1
   refine Bd (h.expr _ j1) fun e i1 g1=>Cr ⟨?_,?_⟩
   ·have:=g1.1
    rw[Ma];simp only[Fz,Po,Ho,Cp,Dg];omega
   ·rw[okA];simp only[Uu,okC,okL,okE,Kz];exact⟨⟨⟨⟨hT k,trivial,trivial⟩,trivial⟩,trivial⟩,g1.2⟩
  ·refine Bd (h.expr k hk) fun e i1 g1=>Cr ⟨?_,?_⟩
   ·have:=g1.1
    rw[Ma];simp only[Fz];omega
   ·rw[okA];exact⟨trivial,g1.2⟩
 argsL a k hk ha:=by
  dsimp only[Av]
  split
  ·rename_i hw
   have:=Ao hw hk
   simp only[List.length_cons,List.length_nil] at this
   refine Bd (Cd (h.arg _ this) (Ce (hA.arg _ this))) fun x n ⟨h1,h2⟩ y k' e=> ?_
   obtain⟨g,g'⟩:=h.argsL _ n h2.2 ((Wy _ _).2 ⟨ha,h1.2⟩) y k' e
   rw[Tb] at g
   have:=h1.1
   exact⟨by omega,g'⟩
  ·exact Cr ⟨Nat.le_refl _,ha⟩
 name k hk:=by
  dsimp only[Av]
  refine Wx fun hkd=> ?_
  have j0:=Ks (l:=l) (k:=k) (by rw[hkd];decide)
  intro x k' e
  obtain⟨g,g'⟩:=h.nameL _ (.mk 3 0 0 (tk l k).text [] [] (tk l k).line 0 0) (k+1) j0 (by rw[okE];exact⟨hT k,trivial,trivial⟩) x k' e
  rw[Cp] at g
  simp only[Ho,Dg] at g
  exact⟨by omega,g'⟩
 nameL i x k hk hx:=by
  have hn: ∀(y:Ex) (j:Nat),j<=l.length->okE y->Cp y+2*k<=Cp x+2*j->Gz (FL k x) (p.nameL i y j):=fun y j hj hy hl z k' e=>by
   obtain⟨g,g'⟩:=h.nameL i y j hj hy z k' e
   exact⟨by omega,g'⟩
  dsimp only[Av]
  split
  ·rename_i hw
   have j1:=Ao hw hk
   simp only[List.length_cons,List.length_nil] at j1
   refine hn _ _ j1 ?_ ?_
   ·rw[okE];exact⟨by decide,⟨hx,trivial⟩,trivial⟩
   ·rw[Cp];simp only[Ho,Dg];omega
  ·split
   ·rename_i hw
    have j1:=Ao hw hk
    refine Wx fun hkd=> ?_
    have j2:=Ks (l:=l) (k:=k+1) (by rw[hkd];decide)
    refine hn _ _ j2 ?_ ?_
    ·rw[okE];exact⟨hT _,⟨hx,trivial⟩,trivial⟩
    ·rw[Cp];simp only[Ho,Dg];omega
   ·split
    ·rename_i hw
     have j1:=Ao hw hk
     simp only[List.length_cons,List.length_nil] at j1
     refine Bd (Cd (h.arg _ j1) (Ce (hA.arg _ j1))) fun a i1 ⟨g1,g2⟩=>Bd (Cd (h.argsL [a] i1 g2.2 ⟨g1.2,trivial⟩) (Ce (hA.argsL [a] i1 g2.2))) fun b i2 ⟨g3,g4⟩=>Iw fun w1=> ?_
     have j2:=Ao w1 g4.2
     have g1':=g1.1
     have g3':=g3.1
     simp only[Dg] at g3'
     refine hn _ _ j2 ?_ ?_
     ·rw[okE];exact⟨by decide,⟨hx,trivial⟩,g3.2⟩
     ·rw[Cp];simp only[Ho];omega
    ·split
     ·rename_i hw
      have j1:=Ao hw hk
      simp only[List.length_cons,List.length_nil] at j1
      have j2:k+1<=l.length:=by omega
      refine Bd (Cd (h.paren _ j2) (Ce (hA.paren _ j2))) fun y i1 ⟨g1,g2⟩=> ?_
      have g1':=g1.1
      refine hn _ _ g2.2 ?_ ?_
      ·rw[okE];exact⟨by decide,⟨hx,g1.2,trivial⟩,trivial⟩
      ·rw[Cp];simp only[Ho,Dg];omega
     ·split
      ·rename_i hw
       have j1:=Ao hw hk
       refine Wx fun hkd=> ?_
       have j2:=Ks (l:=l) (k:=k+1) (by rw[hkd];decide)
       refine hn _ _ j2 ?_ ?_
       ·rw[okE];exact⟨hT _,⟨hx,trivial⟩,trivial⟩
       ·rw[Cp];simp only[Ho,Dg];omega
      ·exact Cr ⟨Nat.le_refl _,hx⟩
theorem Cu6 (hT: ∀k,(tk l k).text.length<=9223372036854775807): ∀n,(P l n).Fits l
 | 0=>by constructor<;>intros<;>intro x k' e<;>cases e
 | n+1=>Bp1 hT (Cu6 hT n) (Fu n)
end
end Go.Dl

-- Chapter 3: the package's Front, FrontArgs, FrontChoices.
namespace Go.Dl
open Go Go.Proofs
set_option maxRecDepth 100000
def Ox (l:List Tok):Nat->Res Ex
 | 0=>(Q l).expr 0
 | 1=>((Q l).simple 0).then fun x k=>(Q l).relation x k
 | 2=>(Q l).simple 0
 | 3=>(Q l).term 0
 | 4=>(Q l).factor 0
 | 5=>(Q l).primary 0
 | _=>(Q l).name 0
def Du (l:List Tok) (level:Int):Ex×Int×Int:=
 if level<0\/7<=level then(ex0,0,2) else match Ox l level.toNat with
  | .ok x k=>if Ko x then(x,k,0) else(ex0,0,3)
  | .fail k=>(ex0,k,30)
  | .bot=>(ex0,0,0)
section
variable {l:List Tok}
theorem Au3 (j:Nat):Ox l j≠ .bot:=by
 have t:=Dk2 (l:=l);have f': ∀ {k a:Nat},a<=7->8*(l.length-k)+a<=Dz l:=fun {k a} ha=>by unfold Dz;omega
 unfold Ox;split
 ·exact t.expr _ (by omega) (f' (by omega))
 ·exact Bx (t.simple _ (by omega) (f' (by omega))) (Dk3.simple 0 (by omega)) fun x n _ h=>t.relation _ _ h (f' (by omega))
 ·exact t.simple _ (by omega) (f' (by omega))
 ·exact t.term _ (by omega) (f' (by omega))
 ·exact t.factor _ (by omega) (f' (by omega))
 ·exact t.primary _ (by omega) (f' (by omega))
 ·exact t.name _ (by omega) (f' (by omega))
theorem Dg1 (j:Nat):Adv l 1 (Ox l j):=by
 have t:=Dk3 (l:=l);unfold Ox;split
 ·exact t.expr _ (by omega)
 ·exact Bm (t.simple _ (by omega)) fun x n h1 h=>Db (t.relation x n h) h1
 ·exact t.simple _ (by omega)
 ·exact t.term _ (by omega)
 ·exact t.factor _ (by omega)
 ·exact t.primary _ (by omega)
 ·exact t.name _ (by omega)
def Tc (l:List Tok):Prop:= ∀k,(tk l k).text.length<=9223372036854775807
theorem Cu7 (hT:Tc l) (j:Nat):Gz (FE 0) (Ox l j):=by
 have t:=Cu6 hT (Dz l);change (Q l).Fits l at t;unfold Ox;split
 ·exact t.expr _ (by omega)
 ·exact Bd (Cd (t.simple _ (by omega)) (Ce (Dk3.simple _ (by omega)))) fun x n ⟨h1,h2⟩ y k' e=>by
   obtain⟨g,g'⟩:=t.relation x n h2.2 h1.2 y k' e;have:=h1.1;exact⟨by omega,g'⟩
 ·exact t.simple _ (by omega)
 ·exact t.term _ (by omega)
 ·exact t.factor _ (by omega)
 ·exact t.primary _ (by omega)
 ·exact t.name _ (by omega)
end
section
variable {G:Nat->DVal} {l:List Tok}
theorem Be0 (hG:GX G) (hl:l.length<=800000) (r:Nat) (H:Ab) (hr:H r=some (rdO l 0)):Ah Tryz.prog G 106 [.optr r 0] H (RdR r l H ((Ox l 1).mp dE)):=by
 have ha:=Dk0 (r:=r) hG hl (Dz l);have hne:=Au3 (l:=l) 1;refine Ac Tryz.func106 Tryz.call106 rfl (by kernel_rfl) ?_;simp(disch:=omega) only[go_sem,↓reduceIte];intro r2 hr2;dsimp only at hr2;have n2:r≠r2:=Af hr2 hr;have q2:=n2.symm;simp(disch:=omega) only[go_sem,↓reduceIte];have h0:RAt r l 0 H (upd H r2 (some (.cells [.int .u8 0, .int .u8 0, .int .i64 0, .str [], .nilSlice, .nilSlice, .int .i64 0, .int .i64 0, .int .i64 0] 36))):=(RAt.refl hr).new hr2 _;have hp:=ha.simple _ 0 h0.get (by omega);have had:=Dk3.simple (l:=l) 0 (by omega);unfold Ox at hne⊢
 dsimp only at hp;change ((P l (Dz l)).simple 0).then _≠_ at hne
 change Ah _ _ _ _ _ _;cases hc:(P l (Dz l)).simple 0 with
 | bot=>rw[hc] at hne;exact absurd rfl hne
 | fail k=>
  rw[hc] at hp;refine(hp (Ay (by simp))).mono ?_;rintro e H4 ⟨rfl,rfl⟩;simp(disch:=omega) only[go_sem,↓reduceIte];have:(Q l).simple 0= .fail k:=hc;rw[this];exact RAt.finP (h0.set k) ⟨rfl,rfl⟩
 | ok x k=>
  rw[hc] at hp hne;have hq:(Q l).simple 0= .ok x k:=hc;rw[hq] at had;refine(hp (Ay (by simp))).mono ?_;rintro e H4 ⟨rfl,hH4⟩;have h4:RAt r l k H H4:=by rw[hH4];exact h0.set k
  have g4:H4 r2=some (.cells [.int .u8 0, .int .u8 0, .int .i64 0, .str [], .nilSlice, .nilSlice, .int .i64 0, .int .i64 0, .int .i64 0] 36):=by rw[hH4];exact Ai (Aa _ _ _) q2
  simp(disch:=omega) only[go_sem,↓reduceIte,dE];have hp2:=ha.relation x H4 k h4.get had.2;dsimp only at hp2;rw[hq,Ek];change (P l (Dz l)).relation x k≠_ at hne;cases hc2:(P l (Dz l)).relation x k with
  | bot=>exact absurd hc2 hne
  | fail k2=>
   rw[hc2] at hp2;refine(hp2 (Ay (by simp))).mono ?_;rintro e H5 ⟨rfl,rfl⟩;simp(disch:=omega) only[go_sem,↓reduceIte];have:(Q l).relation x k= .fail k2:=hc2;rw[this];exact RAt.finP (h4.set k2) ⟨rfl,rfl⟩
  | ok y k2=>
   rw[hc2] at hp2;refine(hp2 (Ay (by simp))).mono ?_;rintro e H5 ⟨rfl,hH5⟩;have h5:RAt r l k2 H H5:=by rw[hH5];exact h4.set k2
   have g5:H5 r2=some (.cells [.int .u8 0, .int .u8 0, .int .i64 0, .str [], .nilSlice, .nilSlice, .int .i64 0, .int .i64 0, .int .i64 0] 36):=by rw[hH5];exact Ai g4 q2
   have hly:=Aj y;have hoy:=Ba y;simp(disch:=omega) only[go_sem,↓reduceIte,dE,g5,hly,hoy];have:(Q l).relation x k= .ok y k2:=hc2;rw[this];exact RAt.fin (h5.own hr2 q2 _) ⟨rfl,rfl⟩
theorem Cg0 (hG:GX G) (hl:l.length<=800000) (j:Nat) (hj:j<7): ∃g,([.func (.func 105) [] [], .func (.func 106) [] [], .func (.func 108) [] [], .func (.func 109) [] [], .func (.func 110) [] [], .func (.func 111) [] [], .func (.func 112) [] []]:List DVal)[j]? =some (.func (.func g) [] [])/\ ∀r H,H r=some (rdO l 0)->Ah Tryz.prog G g [.optr r 0] H (RdR r l H ((Ox l j).mp dE)):=by
 have ha:=fun r=>Dk0 (r:=r) hG hl (Dz l);have hne:=Au3 (l:=l) j;have hj':j=0\/j=1\/j=2\/j=3\/j=4\/j=5\/j=6:=by omega
 rcases hj' with rfl | rfl | rfl | rfl | rfl | rfl | rfl
 ·exact⟨_,rfl,fun r H hr=>(ha r).expr H 0 hr (by omega) (Ay hne)⟩
 ·exact⟨_,rfl,fun r H hr=>Be0 hG hl r H hr⟩
 ·exact⟨_,rfl,fun r H hr=>(ha r).simple H 0 hr (by omega) (Ay hne)⟩
 ·exact⟨_,rfl,fun r H hr=>(ha r).term H 0 hr (by omega) (Ay hne)⟩
 ·exact⟨_,rfl,fun r H hr=>(ha r).factor H 0 hr (by omega) (Ay hne)⟩
 ·exact⟨_,rfl,fun r H hr=>(ha r).primary H 0 hr (by omega) (Ay hne)⟩
 ·exact⟨_,rfl,fun r H hr=>(ha r).name H 0 hr (by omega) (Ay hne)⟩
def Td (p:Ex×Int×Int):DVal:= .tuple [dE p.1,dI p.2.1,dI p.2.2]
theorem Fv.ex0 {H H':Ab} (hs:Sub H H'):Fv H' (.agg [.int .u8 0, .int .u8 0, .int .i64 0, .str [], .nilSlice, .nilSlice, .int .i64 0, .int .i64 0, .int .i64 0]) H (dE ex0):=Fv.agg (Fv.ex (l:= []) (a:= []) hs (.exs0 hs) (.as0 hs))
set_option maxHeartbeats 4000000 in
theorem Jx (hG:GX G) (H:Ab) (level:Int) (hl:l.length<=800000) (hT:Tc l):Ah Tryz.prog G 19 [Bv l,dI level] H (Bp (Td (Du l level)) H):=by
 refine Ac Tryz.func19 Tryz.call19 rfl (by kernel_rfl) ?_
 simp(disch:=omega) only[go_sem,↓reduceIte]
 intro r4 hr4;dsimp only at hr4
 have hs4:=fun z=>(Sub.refl H).new hr4 z
 simp(disch:=omega) only[go_sem,↓reduceIte]
 intro r8 hr8;dsimp only at hr8
 have n48:r4≠r8:=Af hr8 (Aa _ _ _)
 have m48:=n48.symm
 have hr8':H r8=none:=(hs4 _).lo hr8
 simp(disch:=omega) only[go_sem,↓reduceIte]
 have hs8:=fun y=>((Sub.refl H).new hr4 (some (.cells [.int .u8 0, .int .u8 0, .int .i64 0, .str [], .nilSlice, .nilSlice, .int .i64 0, .int .i64 0, .int .i64 0] 36))).new hr8 y
 by_cases c0:level<0
 ·simp(disch:=omega) only[go_sem,↓reduceIte,c0,n48,m48]
  have hf:Du l level=(ex0,0,2):=by rw[Du,if_pos (.inl c0)]
  rw[hf]
  have hs:=fun y z=>((hs8 y).up hr4 z)
  exact Fv.fin (hs _ _) (Fv.tuple (.cons (Fv.ex0 (hs _ _)) (Dp.keep (hs _ _) _))) ⟨rfl,rfl⟩
 ·by_cases c7:7<=level
  ·simp(disch:=omega) only[go_sem,↓reduceIte,c0,c7,n48,m48]
   have hf:Du l level=(ex0,0,2):=by rw[Du,if_pos (.inr c7)]
   rw[hf]
   have hs:=fun y z=>((hs8 y).up hr4 z)
   exact Fv.fin (hs _ _) (Fv.tuple (.cons (Fv.ex0 (hs _ _)) (Dp.keep (hs _ _) _))) ⟨rfl,rfl⟩
  ·obtain⟨j,hj⟩: ∃j:Nat,level=j:=⟨level.toNat,by omega⟩
   subst hj
   obtain⟨g,hg1,hg2⟩:=Cg0 (l:=l) hG hl j (by omega)
   have hf:Du l j=match Ox l j with
    | .ok x k=>if Ko x then(x,k,0) else(ex0,0,3)
    | .fail k=>(ex0,k,30)
    | .bot=>(ex0,0,0):=by rw[Du,if_neg (by omega),Int.toNat_natCast]
   have hj7:(j:Int)<7:=by omega
   simp(disch:=omega) only[go_sem,↓reduceIte,c0,c7,n48,m48,hg1,Int.toNat_natCast,hj7]
   refine(Bo6 hG _ hl g (Ox l j) (Au3 j) hg2).mono ?_
   rintro _ H1 ⟨rfl,hH1⟩
   have had:=Dg1 (l:=l) j
   have hfit:=Cu7 hT j
   have hs1:Sub H H1:=by rw[hH1];exact hs8 _
   have g14:H1 r4=some (.cells [.int .u8 0, .int .u8 0, .int .i64 0, .str [], .nilSlice, .nilSlice, .int .i64 0, .int .i64 0, .int .i64 0] 36):=by rw[hH1];exact Ai (Aa _ _ _) n48
   cases hres:Ox l j with
   | bot=>exact absurd hres (Au3 j)
   | fail k=>
    rw[hres] at hf
    rw[hf,Ct2]
    have hl0:=Aj ex0
    have ho0:=Ba ex0
    simp(disch:=omega) only[go_sem,↓reduceIte,dE,g14,hl0,ho0]
    have hs:=fun z=>hs1.up hr4 z
    exact Fv.fin (hs _) (Fv.tuple (.cons (Fv.ex0 (hs _)) (Dp.keep (hs _) _))) ⟨rfl,rfl⟩
   | ok x k=>
    rw[hres] at hf hfit had
    rw[hf,Ct2]
    obtain⟨hb,hok⟩:=hfit x k rfl
    have hk:=had.2
    have hF:Fit x:=⟨by omega,hok⟩
    have hlx:=Aj x
    have hox:=Ba x
    simp(disch:=omega) only[go_sem,↓reduceIte,dE,g14,hlx,hox]
    refine(Kh hG _ x hF).mono ?_
    rintro _ H2 ⟨rfl,hH2⟩
    have g24:H2 r4=some (.cells (dEx x) 36):=by rw[hH2];exact Aa _ _ _
    have hs2:Sub H H2:=by rw[hH2];exact hs1.up hr4 _
    have hs:=fun z=>hs2.up hr4 z
    cases hm:Ko x with
    | true=>
     simp(disch:=omega) only[go_sem,↓reduceIte,g24,hlx,hox]
     exact Pm.sub (hs _) (.refl ⟨rfl,rfl⟩)
    | false=>
     simp(disch:=omega) only[go_sem,↓reduceIte,g24,hlx,hox]
     exact Fv.fin (hs _) (Fv.tuple (.cons (Fv.ex0 (hs _)) (Dp.keep (hs _) _))) ⟨rfl,rfl⟩
end
end Go.Dl

-- Chapter 3: the package's writer: words, names.
namespace Go.Dl
open Go Go.Proofs
set_option maxRecDepth 100000
def WAt (B:Ab) (r:Nat) (ts:List Tok) (H:Ab):Prop:= ∃v,Ea (upd B r (some (.cells [v] 281))) 31 4 ts.length (ts.flatMap Dd) v H
def WrC (P:Program) (G:Nat->DVal) (f:FuncId) (args:List DVal) (t:List Tok):Prop:=
 ∀B r ts H,B r=none->ts.length+t.length<=1000000000->WAt B r ts H->Ah P G f (.optr r 0::args) H (fun e H'=>e= .ret (.tuple [])/\WAt B r (ts++t) H')
section
variable {B B1 H H':Ab} {r x:Nat} {ts:List Tok}
theorem WAt.keep (h:WAt B r ts H) {o:DObj} (hx:B x=some o) (n:x≠r):H x=some o:=by
 obtain⟨v,h⟩:=h;exact h.keep (by rw[Aq _ _ _ _ n];exact hx)
theorem WAt.lo (h:WAt B r ts H) (hx:H x=none):B x=none/\x≠r:=by
 obtain⟨v,h⟩:=h;have:=h.sub.lo hx;simp only[upd] at this;split at this
 ·cases this
 ·exact⟨this,‹_›⟩
theorem WAt.frame (h:WAt B r ts H) (hx:H x=none) (o:DObj):WAt (upd B x (some o)) r ts (upd H x (some o)):=by
 have n:=(h.lo hx).2;obtain⟨v,h⟩:=h;refine⟨v,?_⟩;rw[Qd n.symm];exact h.frame hx o
theorem WAt.less (h:WAt B r ts H) (s:Sub B1 B):WAt B1 r ts H:=by
 obtain⟨v,h⟩:=h;exact⟨v,h.less (s.both r _)⟩
theorem WAt.drop {o:DObj} (h:WAt (upd B x (some o)) r ts H) (hx:B x=none):WAt B r ts H:=h.less ((Sub.refl B).new hx _)
end
section
variable {G:Nat->DVal} {H:Ab}
theorem Oy (ts:List Tok) (t:Tok):(ts++ [t]).flatMap Dd=ts.flatMap Dd++Dd t:=by simp
set_option maxHeartbeats 4000000 in
theorem Hd (hG:GX G) (ws:List (List UInt8)):WrC Tryz.prog G 371 [dW ws] (ws.map Am):=by
 intro B r ts H hB hlen hw;rw[List.length_map] at hlen;refine Ac Tryz.func371 Tryz.call371 rfl (by kernel_rfl) ?_;simp(disch:=omega) only[go_sem,↓reduceIte,dW];obtain⟨I,hI⟩: ∃I:Nat->(Nat->DVal)->Ab->Prop,∀j env heap,I j env heap↔(env 0= .optr r 0/\env 7=dW ws/\env 8=dI ws.length/\env 9=dI j/\j<=ws.length/\WAt B r (ts++(ws.take j).map Am) heap):=⟨_,fun _ _ _=>Iff.rfl⟩;refine Bs7.run I (fun j=>ws.length-j) 0 ((hI _ _ _).2 ?_) ?_
 ·simp(disch:=omega) only[go_sem,↓reduceIte];(repeat' apply And.intro)<;>(try first | rfl | assumption | omega);simpa using hw
 ·intro j env heap hi;obtain⟨e0,e7,e8,e9,hj,hwj⟩:=(hI _ _ _).1 hi;by_cases hlt:j<ws.length
  ·have hlt':(j:Int)<(ws.length:Int):=by omega
   have hw1:IntKind.i64.wrap ((j:Int)+1)=((j+1:Nat):Int):=by rw[IntKind.wrap_i64];omega
   have hget:(ws.map DVal.str)[j]? =some (.str ws[j]):=by rw[List.getElem?_map,List.getElem?_eq_getElem hlt];rfl
   have hml:(ws.map DVal.str).length=ws.length:=List.length_map _;have htk:(ws.take (j+1)).map Am=(ws.take j).map Am++ [Am ws[j]]:=by rw[List.take_add_one,List.getElem?_eq_getElem hlt,Option.toList_some,List.map_append,List.map_singleton]
   obtain⟨s,hse⟩: ∃s,s=ws[j]:=⟨_,rfl⟩;rw[<-hse] at hget htk;simp(disch:=omega) only[go_sem,↓reduceIte,e0,e7,e8,e9,hlt',dW,hget,hml,Int.toNat_natCast];intro r6 hr6;dsimp only at hr6;simp(disch:=omega) only[go_sem,↓reduceIte,e0,e7,e8,e9];obtain⟨v,hv⟩:=hwj;have gr:=hv.keep (Aa _ _ _);have n6:r≠r6:=Af hr6 gr;have m6:=n6.symm;have hl2:(ts++(ws.take j).map Am).length<=1000000000:=by rw[List.length_append,List.length_map,List.length_take];omega
   refine(Ac8 hG _ s).mono ?_;rintro _ H2 ⟨rfl,rfl⟩;cases hkb:Sq s with
   | true=>
    have hk:Am s=⟨2,0,s,0⟩:=by rw[Am,Jf,hkb];rfl
    simp(disch:=omega) only[go_sem,↓reduceIte,e0,e7,e8,e9];refine An (by kernel_rfl) (.take 0 (.take 1 (.take 2 (.take 3 (.take 4 (.take 5 (.go 6 [4] (.go 7 [] (.take 8 (.take 9 (.go 10 [] .done))))))))))) (by kernel_rfl) ?_;simp(disch:=omega) only[go_sem,↓reduceIte,e0,e7,e8,e9,gr,n6,m6];intro r24 hr24;dsimp only at hr24;have n24:r≠r24:=Af hr24 (Ai gr n6);have m24:=n24.symm;have hv6:=(hv.new hr6 _).new hr24 (some (.cells (Dd (Am s)) 31));simp(disch:=omega) only[go_sem,↓reduceIte,e0,e7,e8,e9,gr,n6,m6,n24,m24];rw[hk] at hv6;refine Ea.append (m:=1) hv6 rfl (by omega) fun v2 H6 hv2=> ?_;have g6:=hv2.keep (Aa _ _ _);obtain⟨j1,j2⟩:=hv2.cell1;simp(disch:=omega) only[go_sem,↓reduceIte,e0,e7,e8,e9,g6,j1,j2];refine⟨j+1,_,Ik.refl _,(hI _ _ _).2 ?_,by omega⟩;simp(disch:=omega) only[go_sem,↓reduceIte,e0,e7,e8,e9,hw1];(repeat' apply And.intro)<;>(try first | rfl | assumption | omega);refine⟨v2,?_⟩;have hv3:=hv2.at (Aa _ _ _) (some (.cells [v2] 281));rw[Hj] at hv3;rw[htk,<-List.append_assoc,Oy,hk,List.length_append,List.length_singleton];exact hv3
   | false=>
    have hk:Am s=⟨4,0,s,0⟩:=by rw[Am,Jf,hkb];rfl
    simp(disch:=omega) only[go_sem,↓reduceIte,e0,e7,e8,e9];refine An (by kernel_rfl) (.take 0 (.take 1 (.take 2 (.take 3 (.take 4 (.take 5 (.go 6 [4] (.go 7 [] (.take 8 (.take 9 (.go 10 [] .done))))))))))) (by kernel_rfl) ?_;simp(disch:=omega) only[go_sem,↓reduceIte,e0,e7,e8,e9,gr,n6,m6];intro r24 hr24;dsimp only at hr24;have n24:r≠r24:=Af hr24 (Ai gr n6);have m24:=n24.symm;have hv6:=(hv.new hr6 _).new hr24 (some (.cells (Dd (Am s)) 31));simp(disch:=omega) only[go_sem,↓reduceIte,e0,e7,e8,e9,gr,n6,m6,n24,m24];rw[hk] at hv6;refine Ea.append (m:=1) hv6 rfl (by omega) fun v2 H6 hv2=> ?_;have g6:=hv2.keep (Aa _ _ _);obtain⟨j1,j2⟩:=hv2.cell1;simp(disch:=omega) only[go_sem,↓reduceIte,e0,e7,e8,e9,g6,j1,j2];refine⟨j+1,_,Ik.refl _,(hI _ _ _).2 ?_,by omega⟩;simp(disch:=omega) only[go_sem,↓reduceIte,e0,e7,e8,e9,hw1];(repeat' apply And.intro)<;>(try first | rfl | assumption | omega);refine⟨v2,?_⟩;have hv3:=hv2.at (Aa _ _ _) (some (.cells [v2] 281));rw[Hj] at hv3;rw[htk,<-List.append_assoc,Oy,hk,List.length_append,List.length_singleton];exact hv3
  ·have:j=ws.length:=by omega
   subst this;have hlt': ¬(ws.length:Int)<(ws.length:Int):=by omega
   rw[List.take_length] at hwj;simp(disch:=omega) only[go_sem,↓reduceIte,e0,e7,e8,e9,hlt'];exact Pm.refl ⟨rfl,hwj⟩
end
end Go.Dl

-- Chapter 3: the package's writer: names, parts, bounds, operators, membership, choices.
namespace Go.Dl
open Go Go.Proofs
set_option maxRecDepth 100000
section
variable {G:Nat->DVal} {H B:Ab} {r:Nat} {ts:List Tok}
theorem WAt.ne {x:Nat} (h:WAt B r ts H) (hx:H x=none):r≠x:=fun e=>(h.lo hx).2 e.symm
def WQ (B:Ab) (r:Nat) (ts:List Tok) (e:DEnd) (H':Ab):Prop:=e= .ret (.tuple [])/\WAt B r ts H'
theorem Mk (hG:GX G) (s:List UInt8) {q:Nat} (hq:H q=none) (hB:B r=none) (hlen:ts.length+1<=1000000000) (hw:WAt B r ts H):Ah Tryz.prog G 371 [.optr r 0, .oslice 1 q 0 1 1] (upd H q (some (.cells [.str s] 9))) (WQ B r (ts++ [Am s])):=by
 refine Ah.fzA q hq ?_;have n:r≠q:=hw.ne hq;simp only[fzs,fz,if_neg n,if_pos];exact Hd hG [s] B r ts H hB hlen hw
theorem Dw2 (hG:GX G) (s t:List UInt8) {q:Nat} (hq:H q=none) (hB:B r=none) (hlen:ts.length+2<=1000000000) (hw:WAt B r ts H):Ah Tryz.prog G 371 [.optr r 0, .oslice 1 q 0 2 2] (upd H q (some (.cells [.str s, .str t] 9))) (WQ B r (ts++ [Am s,Am t])):=by
 refine Ah.fzA q hq ?_;have n:r≠q:=hw.ne hq;simp only[fzs,fz,if_neg n,if_pos];exact Hd hG [s,t] B r ts H hB hlen hw
theorem Te (G:Nat->DVal) (s:List UInt8):WrC Tryz.prog G 372 [.str s] [Hs s]:=by
 intro B r ts H hB hlen hw;rw[List.length_singleton] at hlen;refine Ac Tryz.func372 Tryz.call372 rfl (by kernel_rfl) ?_;simp(disch:=omega) only[go_sem,↓reduceIte];obtain⟨v,hv⟩:=hw;have gr:=hv.keep (Aa _ _ _);simp(disch:=omega) only[go_sem,↓reduceIte,gr];intro r6 hr6;dsimp only at hr6;have n6:r≠r6:=Af hr6 gr;have m6:=n6.symm;have hv6:=hv.new hr6 (some (.cells (Dd (Hs s)) 31));simp(disch:=omega) only[go_sem,↓reduceIte,gr,n6,m6];refine Ea.append (m:=1) hv6 rfl (by omega) fun v2 H6 hv2=> ?_;have g6:=hv2.keep (Aa _ _ _);obtain⟨j1,j2⟩:=hv2.cell1;simp(disch:=omega) only[go_sem,↓reduceIte,g6,j1,j2];refine Pm.refl ⟨rfl,v2,?_⟩;have hv3:=hv2.at (Aa _ _ _) (some (.cells [v2] 281));rw[Hj] at hv3;rw[Oy,List.length_append,List.length_singleton];exact hv3
end
section
variable {G:Nat->DVal}
set_option maxHeartbeats 4000000 in
theorem Ca (hG:GX G) (e:Ex) (lv:Int) (he:WrC Tryz.prog G 255 [.agg (dEx e)] (Ag e)):WrC Tryz.prog G 373 [.agg (dEx e),dI lv] (Aw e lv):=by
 intro B r ts H hB hlen hw;refine Ac Tryz.func373 Tryz.call373 rfl (by kernel_rfl) ?_;simp(disch:=omega) only[go_sem,↓reduceIte,DVal.cells];intro r4 hr4;dsimp only at hr4;obtain⟨K,hK⟩: ∃K',K'=upd H r4 (some (.cells (dEx e) 36)):=⟨_,rfl⟩;rw[<-hK];have gr4:K r4=some (.cells (dEx e) 36):=by rw[hK];exact Aa _ _ _
 have hwK:WAt (upd B r4 (some (.cells (dEx e) 36))) r ts K:=by rw[hK];exact hw.frame hr4 _
 have n4:r≠r4:=hw.ne hr4;have hB4:B r4=none:=(hw.lo hr4).1;have hBK:upd B r4 (some (.cells (dEx e) 36)) r=none:=by rw[Aq _ _ _ _ n4];exact hB
 simp(disch:=omega) only[go_sem,↓reduceIte,gr4];refine(Jw G K e).mono ?_;rintro _ K1 ⟨rfl,rfl⟩;by_cases c:Ak e<lv
 ·have c': ¬lv<=Ak e:=by omega
  have hp:Aw e lv=Am Bo::(Ag e++ [Am Cc]):=by rw[Aw,decide_eq_true c];rfl
  rw[hp] at hlen⊢
  simp only[List.length_cons,List.length_append,List.length_nil] at hlen;simp(disch:=omega) only[go_sem,↓reduceIte,c'];intro q1 hq1;dsimp only at hq1;simp(disch:=omega) only[go_sem,↓reduceIte];refine(Mk hG Bo hq1 hBK (by omega) hwK).mono ?_;rintro _ H1 ⟨rfl,h1⟩;have g1:=h1.keep (Aa _ _ _) n4.symm;simp(disch:=omega) only[go_sem,↓reduceIte,g1];refine(he _ r _ _ hBK (by simp;omega) h1).mono ?_;rintro _ H2 ⟨rfl,h2⟩;simp(disch:=omega) only[go_sem,↓reduceIte];intro q2 hq2;dsimp only at hq2;simp(disch:=omega) only[go_sem,↓reduceIte];refine(Mk hG Cc hq2 hBK (by simp;omega) h2).mono ?_;rintro _ H3 ⟨rfl,h3⟩;simp(disch:=omega) only[go_sem,↓reduceIte];refine Pm.refl ⟨rfl,?_⟩;have:=h3.drop hB4;simpa using this
 ·have c':lv<=Ak e:=by omega
  have hp:Aw e lv=Ag e:=by rw[Aw,decide_eq_false c];rfl
  rw[hp] at hlen⊢
  simp(disch:=omega) only[go_sem,↓reduceIte,c',gr4];refine(he _ r _ _ hBK hlen hwK).mono ?_;rintro _ H1 ⟨rfl,h1⟩;simp(disch:=omega) only[go_sem,↓reduceIte];exact Pm.refl ⟨rfl,h1.drop hB4⟩
end
end Go.Dl

-- Chapter 3: expressions: the plain laws, part 9: reading without the lines.
namespace Go.Dl
open Go
set_option maxRecDepth 10000
mutual
/-- Without lines, entities, types. -/
def stE:Ex->Ex
 | .mk k o n s l a _ _ _=> .mk k o n s (stL l) (Wz a) 0 0 0
def stL:List Ex->List Ex
 | []=> []
 | x::l=>stE x::stL l
def stA:As->As
 | .mk c e=> .mk (Xa c) (stE e)
def Wz:List As->List As
 | []=> []
 | x::l=>stA x::Wz l
def stC:Ch->Ch
 | .mk k l=> .mk k (stL l)
def Xa:List Ch->List Ch
 | []=> []
 | x::l=>stC x::Xa l
end
theorem Ux: ∀l:List Ex,stL l=l.map stE
 | []=>rfl
 | x::l=>by rw[stL,Ux l,List.map_cons]
theorem Ag1: ∀l:List As,Wz l=l.map stA
 | []=>rfl
 | x::l=>by rw[Wz,Ag1 l,List.map_cons]
theorem Ag2: ∀l:List Ch,Xa l=l.map stC
 | []=>rfl
 | x::l=>by rw[Xa,Ag2 l,List.map_cons]
theorem Ag3 (e:Ex):(stE e).kind=e.kind:=by cases e;rfl
theorem Cu8 (e:Ex):(stE e).oper=e.oper:=by cases e;rfl
theorem Du5 (e:Ex):(stE e).n=e.n:=by cases e;rfl
theorem Du6 (e:Ex):(stE e).s=e.s:=by cases e;rfl
theorem Cu9 (e:Ex):(stE e).l=e.l.map stE:=by cases e;exact Ux _
theorem Dk6 (e:Ex):(stE e).a=e.a.map stA:=by cases e;exact Ag1 _
theorem Nr (e:Ex):(stE e).line=0:=by cases e;rfl
theorem Ag4 (x:As):(stA x).c=x.c.map stC:=by cases x;exact Ag2 _
theorem Dk7 (x:As):(stA x).e=stE x.e:=by cases x;rfl
theorem Uy (c:Ch):(stC c).kind=c.kind:=by cases c;rfl
theorem Cv0 (c:Ch):(stC c).l=c.l.map stE:=by cases c;exact Ux _
theorem Dh (e:Ex):stE e= .mk e.kind e.oper e.n e.s (e.l.map stE) (e.a.map stA) 0 0 0:=by cases e;rw[stE,Ux,Ag1];rfl
theorem Tf (x:As):stA x= .mk (x.c.map stC) (stE x.e):=by cases x;rw[stA,Ag2];rfl
theorem Ag5 (c:Ch):stC c= .mk c.kind (c.l.map stE):=by cases c;rw[stC,Ux];rfl
mutual
theorem Ag6: ∀e f:Ex,Jl e f=true↔stE e=stE f
 | .mk k o n s l a li en t, .mk k' o' n' s' l' a' li' en' t'=>by
  rw[Jl,stE,stE]
  show(decide (k=k')&&decide (o=o')&&decide (n=n')&&decide (s=s')&&Gw l l'&&Im a a')=true↔_
  simp only[Bool.and_eq_true,decide_eq_true_eq,Ag7 l l',Ao6 a a',Ex.mk.injEq,and_true,and_assoc]
theorem Ag7: ∀l m:List Ex,Gw l m=true↔stL l=stL m
 | [],[]=>by simp [Gw,stL]
 | [],y::m=>by simp [Gw,stL]
 | x::l,[]=>by simp [Gw,stL]
 | x::l,y::m=>by rw[Gw,stL,stL,Bool.and_eq_true,Ag6 x y,Ag7 l m,List.cons.injEq]
theorem Cv1: ∀x y:As,Yh x y=true↔stA x=stA y
 | .mk c e, .mk c' e'=>by
  rw[Yh,stA,stA]
  show(Hy c c'&&Jl e e')=true↔_
  simp only[Bool.and_eq_true,Ao7 c c',Ag6 e e',As.mk.injEq]
theorem Ao6: ∀l m:List As,Im l m=true↔Wz l=Wz m
 | [],[]=>by simp [Im,Wz]
 | [],y::m=>by simp [Im,Wz]
 | x::l,[]=>by simp [Im,Wz]
 | x::l,y::m=>by rw[Im,Wz,Wz,Bool.and_eq_true,Cv1 x y,Ao6 l m,List.cons.injEq]
theorem Cv2: ∀x y:Ch,Yi x y=true↔stC x=stC y
 | .mk k l, .mk k' l'=>by
  rw[Yi,stC,stC]
  show(decide (k=k')&&Gw l l')=true↔_
  simp only[Bool.and_eq_true,decide_eq_true_eq,Ag7 l l',Ch.mk.injEq]
theorem Ao7: ∀l m:List Ch,Hy l m=true↔Xa l=Xa m
 | [],[]=>by simp [Hy,Xa]
 | [],y::m=>by simp [Hy,Xa]
 | x::l,[]=>by simp [Hy,Xa]
 | x::l,y::m=>by rw[Hy,Xa,Xa,Bool.and_eq_true,Cv2 x y,Ao7 l m,List.cons.injEq]
end
theorem Uz (e:Ex):Az (stE e)=Az e:=by rw[Az,Az,Ag3]
theorem Xb (l:List Ex) (i:Nat):(l.map stE).getD i ex0=stE (l.getD i ex0):=by
 rw[List.getD,List.getD,List.getElem?_map];cases l[i]? <;>rfl
theorem Ix {α β:Type} (f:α->β) (l:List α):(l.map f).isEmpty=l.isEmpty:=by cases l<;>rfl
theorem Cg1 (e:Ex) (k:Nat):Ev (stE e) k=Ev e k:=by
 rw[Ev,Ev,Cu9,List.length_map,Xb,Uz]
theorem Ag8: ∀l:List As,Lz (l.map stA)=Lz l
 | []=>rfl
 | [_]=>rfl
 | a::b::r=>by
  have:=Ag8 (b::r);rw[List.map_cons] at this;rw[List.map_cons,List.map_cons,Lz,Lz,this,Ag4,Ag4,Ix,Ix]
theorem Be1 (l:List Ch):Cn (l.map stC)=Cn l:=by
 match l with
 | []=>rfl
 | [.mk k []]=>rfl
 | [.mk k [x]]=>show(decide _&&decide ((stE x).kind=3))=_;rw[Ag3];rfl
 | [.mk k (x::y::r)]=>rfl
 | c::d::r=>rfl
theorem Cg2 (n:Nat) (c:Ch):Dt n (stC c)=Dt n c:=by simp only[Dt,Uy,Cv0,List.length_map]
theorem all_map {α β:Type} (f:α->β) (p:β->Bool) (l:List α):(l.map f).all p=l.all fun x=>p (f x):=by rw[List.all_map];rfl
theorem Bp2 (l:List Ch):Co (l.map stC)=Co l:=by
 simp only[Co,List.length_map,all_map,Cg2]
theorem Cg3 (l:List As):Hx (l.map stA)=Hx l:=by
 simp only[Hx,List.length_map,Ag8,all_map,Ag4,Ix,Be1]
theorem Ag9 (l:List Ch):Iu (l.map stC)=Iu l:=by
 cases l with
 | nil=>rfl
 | cons c r=>simp only[List.map_cons,Iu,Uy]
theorem Ym: ∀l:List As,Ew (l.map stA)=Ew l
 | []=>rfl
 | a::r=>by simp only[List.map_cons,Ew,Ym r,Ag4,Ix,Bp2,Ag9]
theorem Ah0 (l:List As):My (l.map stA)=My l:=by
 match l with
 | []=>rfl
 | [a]=>show(stA a).c.isEmpty=_;rw[Ag4,Ix];rfl
 | _::_::_=>rfl
theorem Be2 (l:List As):Ey (l.map stA)=Ey l:=by
 simp only[Ey,List.length_map,Ag8,Ah0,Ym]
theorem Cg4 (e:Ex):Ae (stE e)=Ae e:=by
 simp only[Ae,zO,zN,zS,zA,Cg1,Ag3,Cu8,Du5,Du6,Cu9,Dk6,Ix,List.length_map,Cg3,Be2,Xb,Uz]
theorem Oz {α β γ:Type} (f:α->β) (g:β->List γ) (l:List α):(l.map f).flatMap g=l.flatMap fun x=>g (f x):=by
 induction l with
 | nil=>rfl
 | cons x l ih=>rw[List.map_cons,List.flatMap_cons,List.flatMap_cons,ih]
theorem Cg5 (x:As):Cu (stA x)=(Cu x).map stE:=by
 rw[Cu,Cu,Ag4,Dk7,Oz,List.map_append,List.map_flatMap,List.map_singleton];congr 1;simp only[Cv0]
theorem Be3 (e:Ex):parts (stE e)=(parts e).map stE:=by
 rw[parts,parts,Cu9,Dk6,Oz,List.map_append,List.map_flatMap];simp only[Cg5]
theorem Dg2 (e:Ex):Ee (stE e)=Ee e:=by
 refine Ex.ind (p:=fun e=>Ee (stE e)=Ee e) (fun e ih=> ?_) e;rw[Lh,Lh e,Be3,Hm,Hm,List.map_map];congr 2;exact List.map_congr_left ih
theorem Cv3 (e:Ex): ∀d,Cv d (stE e)=Cv d e:=by
 refine Ex.ind (p:=fun e=> ∀d,Cv d (stE e)=Cv d e) (fun e ih d=> ?_) e;rw[Iv,Iv d e,Cg4,Be3,all_map];congr 1;rw[Bool.eq_iff_iff,List.all_eq_true,List.all_eq_true];exact⟨fun h x hx=>by rw[<-ih x hx];exact h x hx,fun h x hx=>by rw[ih x hx];exact h x hx⟩
theorem Bv6 (e:Ex):Ko (stE e)=Ko e:=by rw[Ko,Ko,Cv3,Dg2]
theorem Be4 {e f:Ex} (h:stE e=stE f):Ko e=Ko f:=by rw[<-Bv6 e,h,Bv6]
def stT (t:Tok):Tok:=⟨t.kind,0,t.text,t.n⟩
section
variable {l:List Tok}
theorem Be5 (k:Nat):tk (l.map stT) k=stT (tk l k):=by
 rw[tk,tk,List.getD,List.getD,List.getElem?_map];cases l[k]? <;>rfl
theorem Md (k:Nat):(tk (l.map stT) k).kind=(tk l k).kind:=by rw[Be5];rfl
theorem Pa (k:Nat):(tk (l.map stT) k).text=(tk l k).text:=by rw[Be5];rfl
theorem Dg3 (k:Nat):(tk (l.map stT) k).n=(tk l k).n:=by rw[Be5];rfl
theorem Gg (k:Nat):(tk (l.map stT) k).line=0:=by rw[Be5];rfl
theorem Jy: ∀(ws:List (List UInt8)) (k:Nat),isW (l.map stT) k ws=isW l k ws
 | [],_=>rfl
 | s::r,k=>by rw[isW,isW,Md,Pa,Jy r]
theorem Qo (want k:Nat): ∀os:List Nat,opF (l.map stT) want k os=opF l want k os
 | []=>rfl
 | o::r=>by rw[opF,opF,Jy,Qo want k r]
def Nt {α β:Type} (f:α->β):Res α->Res β->Prop
 | .bot,r=>r= .bot
 | .fail k,r=>r= .fail k
 | .ok x k,r=>r= .ok (f x) k
theorem By {α α' β β':Type} {f:α->α'} {g:β->β'} {r:Res α} {r':Res α'} {F:α->Nat->Res β} {F':α'->Nat->Res β'} (h:Nt f r r') (k: ∀x j,Nt g (F x j) (F' (f x) j)):Nt g (r.then F) (r'.then F'):=by
 cases r with
 | bot=>cases h;exact rfl
 | fail j=>cases h;exact rfl
 | ok x j=>cases h;exact k x j
theorem Cb {α β:Type} {f:α->β} {c:Prop} [Decidable c] {a b:Res α} {a' b':Res β} (h:Nt f a a') (k:Nt f b b'):Nt f (if c then a else b) (if c then a' else b'):=by
 split
 ·exact h
 ·exact k
theorem Gj {α β:Type} {f:α->β} {x:α} {y:β} {k:Nat} (h:y=f x):Nt f (.ok x k) (.ok y k):=by rw[h];exact rfl
theorem Ij {α β:Type} {f:α->β} {k:Nat}:Nt f (.fail k) (.fail k):=rfl
theorem Zl (o:Nat) (x y:Ex):stE (both o x y)=both o (stE x) (stE y):=by
 simp only[Dh (both o x y),both,Nr];rfl
theorem Bv7 (o:Nat) (li:Int) (x:Ex):stE (Kf o li x)=Kf o 0 (stE x):=by
 unfold Kf;split
 ·rfl
 ·rw[Dh];rfl
theorem Dg4 (li:Int) (az:List As):stE (Ad5 li az)=Ad5 0 (az.map stA):=by
 match az with
 | []=>rfl
 | [x]=>
  show stE (if x.c= [] then x.e else _)=if(stA x).c= [] then(stA x).e else _
  rw[Ag4,Dk7]
  by_cases c:x.c= []
  ·rw[if_pos c,if_pos (by rw[c];rfl)]
  ·rw[if_neg c,if_neg (by simpa using c),Dh];rfl
 | x::y::r=>show stE (.mk 9 0 0 [] [] _ li 0 0)=_;rw[Dh];rfl
structure PS.Nat (p q:PS):Prop where
 expr: ∀k,Nt stE (p.expr k) (q.expr k)
 rest: ∀x k,Nt stE (p.rest x k) (q.rest (stE x) k)
 restL: ∀o x k,Nt stE (p.restL o x k) (q.restL o (stE x) k)
 relation: ∀x k,Nt stE (p.relation x k) (q.relation (stE x) k)
 simple: ∀k,Nt stE (p.simple k) (q.simple k)
 addL: ∀x k,Nt stE (p.addL x k) (q.addL (stE x) k)
 term: ∀k,Nt stE (p.term k) (q.term k)
 mulL: ∀x k,Nt stE (p.mulL x k) (q.mulL (stE x) k)
 factor: ∀k,Nt stE (p.factor k) (q.factor k)
 primary: ∀k,Nt stE (p.primary k) (q.primary k)
 paren: ∀k,Nt stE (p.paren k) (q.paren k)
 assoc: ∀k,Nt stA (p.assoc k) (q.assoc k)
 assocsL: ∀a k,Nt (List.map stA) (p.assocsL a k) (q.assocsL (a.map stA) k)
 choice: ∀k,Nt stC (p.choice k) (q.choice k)
 choicesL: ∀a k,Nt (List.map stC) (p.choicesL a k) (q.choicesL (a.map stC) k)
 arg: ∀k,Nt stA (p.arg k) (q.arg k)
 argsL: ∀a k,Nt (List.map stA) (p.argsL a k) (q.argsL (a.map stA) k)
 name: ∀k,Nt stE (p.name k) (q.name k)
 nameL: ∀i x k,Nt stE (p.nameL i x k) (q.nameL 0 (stE x) k)
theorem Bv8 {p q:PS} (h:p.Nat q) (x:Ex) (kind:Int) (k:Nat):Nt stE (inK l x kind k p) (inK (l.map stT) (stE x) kind k q):=by
 unfold inK;simp only[Jy];refine By (h.simple _) fun y j=> ?_;simp only[Uz];exact Cb (By (h.simple _) fun z i=>Gj (by rw[Nr,Dh (.mk _ _ _ _ _ _ _ _ _)];rfl)) (Cb (Gj (by rw[Nr,Dh (.mk _ _ _ _ _ _ _ _ _)];rfl)) Ij)
theorem Cg6 {p q:PS} (h:p.Nat q):(Av l p).Nat (Av (l.map stT) q) where
 expr k:=By (h.simple k) fun x k=>h.rest x k
 rest x k:=By (h.relation x k) fun x k=>by simp only[Qo];exact h.restL _ x k
 restL o x k:=by
  dsimp only[Av];simp only[Qo]
  exact Cb (Gj rfl) (Cb (Gj rfl) (By (h.simple _) fun y k=>By (h.relation y k) fun y k=>by rw[<-Zl];exact h.restL _ _ k))
 relation x k:=by
  dsimp only[Av];simp only[Qo,Jy]
  exact Cb (By (h.simple _) fun y k=>Gj (Zl _ _ _).symm) (Cb (Bv8 h _ _ _) (Cb (Bv8 h _ _ _) (Gj rfl)))
 simple k:=by
  dsimp only[Av];simp only[Qo,Gg]
  exact By (h.term _) fun x k'=>by rw[<-Bv7 _ (tk l k).line];exact h.addL _ _
 addL x k:=by
  dsimp only[Av];simp only[Qo]
  exact Cb (Gj rfl) (By (h.term _) fun y k=>by rw[<-Zl];exact h.addL _ _)
 term k:=By (h.factor k) fun x k=>h.mulL x k
 mulL x k:=by
  dsimp only[Av];simp only[Qo]
  exact Cb (Gj rfl) (By (h.factor _) fun y k=>by rw[<-Zl];exact h.mulL _ _)
 factor k:=by
  dsimp only[Av];simp only[Qo,Gg]
  exact By (h.primary _) fun x k'=>Gj (Bv7 _ _ _).symm
 primary k:=by
  dsimp only[Av];simp only[Jy,Md,Dg3,Gg]
  exact Cb (Gj (by rw[Dh (.mk _ _ _ _ _ _ _ _ _)];rfl)) (Cb (Gj (by rw[Dh (.mk _ _ _ _ _ _ _ _ _)];rfl)) (Cb (h.paren k) (h.name k)))
 paren k:=by
  dsimp only[Av,Da];simp only[Jy,Gg]
  refine Cb (Cb (By (h.expr _) fun a k=>Cb (By (h.expr _) fun b k=>Cb (By (h.expr _) fun c k=>Cb (Gj (by rw[Dh (.mk _ _ _ _ _ _ _ _ _)];rfl)) Ij) Ij) Ij) ?_) Ij
  exact By (h.assoc _) fun a k=>By (h.assocsL [a] k) fun az k=>Cb (Gj (Dg4 _ _).symm) Ij
 assoc k:=by
  dsimp only[Av,Da];simp only[Jy]
  refine By (h.choice k) fun c k=> ?_
  rw[Uy,Cv0,Xb]
  exact Cb (Gj (by rw[Tf (.mk _ _)];rfl)) (Cb (Cb (By (h.expr _) fun e k=>Gj (by rw[Tf (.mk _ _)];rfl)) Ij) (By (h.choicesL [c] k) fun cs k=>Cb (By (h.expr _) fun e k=>Gj (by rw[Tf (.mk _ _)];rfl)) Ij))
 assocsL az k:=by
  dsimp only[Av];simp only[Jy]
  exact Cb (By (h.assoc _) fun a k=>by
   have:=h.assocsL (az++ [a]) k
   rw[List.map_append] at this;exact this) (Gj rfl)
 choice k:=by
  dsimp only[Av];simp only[Jy]
  exact Cb (Gj (by rw[Ag5 (.mk _ _)];rfl)) (By (h.simple k) fun x k=>Cb (By (h.simple _) fun y k=>Gj (by rw[Ag5 (.mk _ _)];rfl)) (By (h.rest x k) fun y k=>Gj (by rw[Ag5 (.mk _ _)];rfl)))
 choicesL az k:=by
  dsimp only[Av];simp only[Jy]
  exact Cb (By (h.choice _) fun a k=>by
   have:=h.choicesL (az++ [a]) k
   rw[List.map_append] at this;exact this) (Gj rfl)
 arg k:=by
  dsimp only[Av];simp only[Jy,Md,Pa,Gg]
  exact Cb (By (h.expr _) fun e k=>Gj (by rw[Tf (.mk _ _)];rfl)) (By (h.expr _) fun e k=>Gj (by rw[Tf (.mk _ _)];rfl))
 argsL az k:=by
  dsimp only[Av];simp only[Jy]
  exact Cb (By (h.arg _) fun a k=>by
   have:=h.argsL (az++ [a]) k
   rw[List.map_append] at this;exact this) (Gj rfl)
 name k:=by
  dsimp only[Av,Fq];simp only[Md,Pa,Gg]
  refine Cb ?_ Ij
  have:=h.nameL (tk l k).line (.mk 3 0 0 (tk l k).text [] [] (tk l k).line 0 0) (k+1)
  rw[Dh (.mk _ _ _ _ _ _ _ _ _)] at this
  exact this
 nameL i x k:=by
  have hn: ∀y z j,stE y=z->Nt stE (p.nameL i y j) (q.nameL 0 z j):=fun y z j e=>by rw[<-e];exact h.nameL i y j
  dsimp only[Av,Fq,Da];simp only[Jy,Md,Pa]
  refine Cb (hn _ _ _ (by rw[Dh (.mk _ _ _ _ _ _ _ _ _)];rfl)) (Cb (Cb (hn _ _ _ (by rw[Dh (.mk _ _ _ _ _ _ _ _ _)];rfl)) Ij) (Cb ?_ (Cb ?_ (Cb (Cb (hn _ _ _ (by rw[Dh (.mk _ _ _ _ _ _ _ _ _)];rfl)) Ij) (Gj rfl)))))
  ·exact By (h.arg _) fun a k=>By (h.argsL [a] k) fun az k=>Cb (hn _ _ _ (by rw[Dh (.mk _ _ _ _ _ _ _ _ _)];rfl)) Ij
  ·exact By (h.paren _) fun y k=>hn _ _ _ (by rw[Dh (.mk _ _ _ _ _ _ _ _ _)];rfl)
theorem Dk8: ∀m,(P l m).Nat (P (l.map stT) m)
 | 0=>by constructor<;>intros<;>exact rfl
 | m+1=>Cg6 (Dk8 m)
theorem Du7:(Q l).Nat (Q (l.map stT)):=by
 have:=Dk8 (l:=l) (Dz l);rw[Q,Q,Dz,Dz,List.length_map];exact this
end
end Go.Dl
