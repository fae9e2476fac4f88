/- The data level and the contracts of the functions that are reached (part 10). -/
import Derived.Test.YtlahodmjhbpfiaaGreatDoorPui
set_option linter.unusedSimpArgs false
set_option linter.unusedVariables false
set_option linter.unusedSectionVars false
-- Chapter 4: tokens of aspects, parameters, lines of components, by the reference (printed by gen_th.py).
namespace Go.Dl
open Go Go.Proofs
set_option maxRecDepth 100000
theorem Cv3 (ts:List Tok):(Aq ts).cells= [Aq ts]:=rfl
theorem Ef5 (ts:List Tok):(Aq ts).one=true:=rfl
attribute [go_sem] Cv3 Ef5
theorem Fv (X:Ab):Sub h0 X:=fun _ _ h=>by cases h
theorem Bc1 {M:Ab}: ∀tss:List (List Tok),Px M (tss.map Aq) h0 (tss.map Aq):=fun tss=>Px.keep (Fv M) _
theorem Vq {M:Ab} {a b:List Tok} (h:b=a):Qg M (Aq a) h0 (Aq b):=by rw[h];exact .keep (Fv M) _
theorem Bc2 {M:Ab} {b:List Tok} (h:b= []):Qg M .nilSlice h0 (Aq b):=by rw[h];exact .nil (Fv M)
theorem Vr (ls:List Lin):(ls.flatMap Eg).all (fun d=>d.one)=true:=by
 rw[List.all_eq_true];intro d hd;obtain⟨x,_,hd⟩:=List.mem_flatMap.1 hd;exact List.all_eq_true.1 (Ch5 x) d hd
theorem Te (ls:List Lin):(ls.flatMap Eg).take (ls.length*2)=ls.flatMap Eg:=List.take_of_length_le (by rw[Al Jw];omega)
section
variable (G:Nat->DVal) (H:Ab)
theorem Dp6 (tss:List (List Tok)) (hn:tss.length<=1000000) (hl:(tss.flatten).length<=100000000):Ae Tryz.prog G 291 [Bh4 tss] h0 (fun e X=> ∃v,e= .ret v/\Dl6 h0 31 4 (tss.flatten).length ((tss.flatten).flatMap Af) v X):=
 (Uh G h0 tss hn hl).ghost fun e X ⟨v,he,hv⟩=>by
  obtain⟨H1,ha,hs⟩:=hv.exact;exact⟨v,v,H1,he,Ok.sub hs v,v,rfl,ha⟩
theorem Aq7 {M:Ab} {q n:Nat} (tss:List (List Tok)) (cs:List DVal) (hq:M q=some (.cells cs 32)) (hcs:Px M cs h0 (tss.map Aq)) (hc:cs.length=n) (hn:tss.length=n) (hn2:n<=1000000) (hl:(tss.flatten).length<=100000000):
  Ae Tryz.prog G 291 [.oslice 1 q 0 n n] M (fun e H2=> ∃v,e= .ret v/\Df M 31 4 (tss.flatten).length ((tss.flatten).flatMap Af) v H2):=by
 refine Px.lentA (args':= [Bh4 tss]) (.cons ?_ .nil) (Dp6 G tss (by omega) hl) (Cv2 _);rw[Bh4,hn];exact Qg.cells (Fv M) rfl hq (by omega) hcs
theorem Al9 {l:List Asp} (h:0<l.length):Jj (l.take 1)=Ab1 l[0]:=by
 cases l with
 | nil=>simp at h
 | cons s l=>rfl
theorem Ab3 {l:List Asp} {k:Nat} (hlt:k<l.length) (hk:0<k):Jj (l.take (k+1))=Jj (l.take k)++Aj Cx::Ab1 l[k]:=by
 unfold Jj;rw[Hl hlt,List.map_append,List.map_singleton,Ua _ _ _ (by
  intro e;have:=congrArg List.length e;rw[jK,List.length_take,jB] at this;omega)]
theorem Dc8 {a:Asp} (h:Oa a=true):(Ab1 a).length<=5002:=by
 rw[Oa,jF] at h;have:=Hw h.2;rw[Ab1,jA,jA];omega
theorem Ag3 {l:List Asp} (h: ∀a∈l,Oa a=true): ∀k,k<=l.length->(Jj (l.take k)).length<=k*5003
 | 0,_=>by simp [Jj,Et]
 | 1,hk=>by
  rw[Al9 (by omega)];have:=Dc8 (h _ (List.getElem_mem (show 0<l.length by omega)));omega
 | k+2,hk=>by
  rw[Ab3 (by omega) (by omega),jC,jA];have:=Ag3 h (k+1) (by omega);have:=Dc8 (h _ (List.getElem_mem (show k+1<l.length by omega)));omega
theorem Am0 {l:List Par} (h:0<l.length):Ji (l.take 1)=Kn l[0]:=by
 cases l with
 | nil=>simp at h
 | cons s l=>rfl
theorem Ab4 {l:List Par} {k:Nat} (hlt:k<l.length) (hk:0<k):Ji (l.take (k+1))=Ji (l.take k)++Aj Ew::Kn l[k]:=by
 unfold Ji;rw[Hl hlt,List.map_append,List.map_singleton,Ua _ _ _ (by
  intro e;have:=congrArg List.length e;rw[jK,List.length_take,jB] at this;omega)]
theorem Na {p:Par} (h:Fm p=true):Fb p.names 8=true/\Cl p.type=true/\Gx p.e=true:=by
 simp only[Fm,jF] at h;obtain⟨⟨⟨⟨⟨h1,h2⟩,h3⟩,-⟩,-⟩,-⟩:=h;rw[Jh,jF] at h2;exact⟨h1,h2.1,h3⟩
theorem Bc3 (m:Int):(Gv m).length<=2:=by
 rw[Gv];split
 ·simp
 ·split<;>simp
theorem Dc9 {p:Par} (h:Fm p=true):(Kn p).length<=10100:=by
 obtain⟨h1,h2,h3⟩:=Na h;have:=(Iy h1).2;have:=Hw h2;have:=Su h3;have:=Bc3 p.mode;rw[Kn];simp;omega
theorem Ag4 {l:List Par} (h: ∀a∈l,Fm a=true): ∀k,k<=l.length->(Ji (l.take k)).length<=k*10101
 | 0,_=>by simp [Ji,Et]
 | 1,hk=>by
  rw[Am0 (by omega)];have:=Dc9 (h _ (List.getElem_mem (show 0<l.length by omega)));omega
 | k+2,hk=>by
  rw[Ab4 (by omega) (by omega),jC,jA];have:=Ag4 h (k+1) (by omega);have:=Dc9 (h _ (List.getElem_mem (show k+1<l.length by omega)));omega
set_option maxHeartbeats 8000000 in
theorem Bh5 (l:List Asp) (hm: ∀a∈l,Oa a=true) (hl8:l.length<=8):Ae Tryz.prog G 176 [Gh l] H (Ba (Aq (Jj l)) H):=by
 suffices hown:Ae Tryz.prog G 176 [Gh l] H (fun e H'=> ∃v,e= .ret v/\Df H 31 4 (Jj l).length ((Jj l).flatMap Af) v H') from hown.frozenJ
 refine Aa Tryz.func176 Tryz.call176 rfl (by kernel_rfl) ?_;simp(disch:=omega)only[go_sem];obtain⟨I,hI⟩: ∃I:Nat->(Nat->DVal)->Ab->Prop,∀k env heap,I k env heap↔(env 0=Gh l/\env 4=dI k/\k<=l.length/\Df H 31 4 (Jj (l.take k)).length ((Jj (l.take k)).flatMap Af) (env 3) heap):=⟨_,fun _ _ _=>Iff.rfl⟩;refine Dt1.run I (fun k=>l.length-k) 0 ((hI _ _ _).2 ?_) ?_
 ·simp(disch:=omega)only[go_sem];(repeat' apply And.intro)<;>(try first | rfl | assumption | omega);exact Df.nil _ _ (Sub.refl H)
 ·intro k env heap hi;obtain⟨e0,e4,hk,hv⟩:=(hI _ _ _).1 hi;obtain⟨v,hve⟩: ∃v,v=env 3:=⟨_,rfl⟩;rw[<-hve] at hv;have hfl:=Al Dg l;by_cases hlt:k<l.length
  ·have hlt':(k:Int)<(l.length:Int):=by omega
   have hw1:IntKind.i64.wrap ((k:Int)+1)=((k+1:Nat):Int):=by rw[IntKind.wrap_i64];omega
   have mx:=List.getElem_mem hlt;have hle:=Ag3 hm k hk;have x0:=Ck Dg l k hlt 0 (by decide);rw[Nr] at x0;have x0z:=x0;rw[Nat.add_zero] at x0z;have x1:=Mx Dg l k hlt 1 9 (by decide);rw[Ns] at x1;by_cases k0:k=0
   ·have k0': ¬(0:Int)<(k:Int):=by omega
    have htk:Jj (l.take (k+1))= []++Ab1 l[k]:=by subst k0;exact Al9 hlt
    have hn0:Jj (l.take k)= []:=by subst k0;rfl
    obtain⟨x,hx⟩: ∃x,x=l[k]:=⟨_,rfl⟩;rw[<-hx] at x0 x0z x1 mx htk;have ho:=hm x mx;rw[Oa,jF] at ho;obtain⟨o1,o2⟩:=ho;have hml:=Hw o2;obtain⟨ts0,hts⟩: ∃ts0:List Tok,ts0= []:=⟨_,rfl⟩;have hv0:Df H 31 4 ts0.length (ts0.flatMap Af) v heap:=by rw[hts,<-hn0];exact hv
    rw[<-hts] at htk;have hle0:ts0.length<=50000:=by rw[hts];simp
    clear hts;simp(disch:=omega)only[go_sem,e0,e4,hlt',Gh,k0'];refine Ak (by kernel_rfl) pL24 (by kernel_rfl) ?_;simp(disch:=omega)only[go_sem,e0,e4,hlt',hfl,jD,x0,x0z,x1,Gh,<-hve];refine Ae.monoR (Vp G _ x.name) ?_;simp(disch:=omega)only[go_sem,e0,e4,hlt',hfl,jD,x0,x0z,x1,Gh,<-hve];refine Ae.monoR (Cz G _ Cc) ?_;simp(disch:=omega)only[go_sem,e0,e4,hlt',hfl,jD,x0,x0z,x1,Gh,<-hve];refine Ae.monoR (Rm G x.e o2 _) ?_;obtain⟨j1,j2⟩:=hv0.cell1;try simp(disch:=omega)only[go_sem,e0,e4,hlt',hfl,jD,x0,x0z,x1,Gh,<-hve,j1,Af,Ap,Ar,Au,Bf,Bg,Bh,jA,jB,jE,jJ,jL,jI,jG,jH,jM,jR]
    intro q hq;dsimp only at hq;obtain⟨M,hM⟩: ∃M,M=upd heap q (some (.cells [v,Aq [Dq x.name],Aq [Bb Cc],Aq (Ai x.e)] 32)):=⟨_,rfl⟩;try simp(disch:=omega)only[go_sem,e0,e4,hlt',hfl,jD,x0,x0z,x1,Gh,<-hve,Af,Ap,Ar,Au,Bf,Bg,Bh,jA,jB,jE,jJ,jL,jI,jG,jH]
    rw[<-hM];have gq:M q=some (.cells [v,Aq [Dq x.name],Aq [Bb Cc],Aq (Ai x.e)] 32):=by rw[hM];exact Ac _ _ _
    have hvM:Df H 31 4 ts0.length (ts0.flatMap Af) v M:=by rw[hM];exact hv0.new hq _
    clear hM;refine(Aq7 G (n:=4) [ts0,[Dq x.name],[Bb Cc],Ai x.e] _ gq (.cons (.own (hvM.less (Fv H))) (Bc1 [[Dq x.name],[Bb Cc],Ai x.e])) rfl rfl (by omega) (by simp;omega)).mono ?_;rintro _ H2 ⟨v2,rfl,hv2⟩;have hv3:=hv2.less hvM.sub;simp(disch:=omega)only[go_sem,e0,e4];refine⟨k+1,_,Ws.refl _,(hI _ _ _).2 ?_,by omega⟩;simp(disch:=omega)only[go_sem,e0,e4,hw1];(repeat' apply And.intro)<;>(try first | rfl | assumption | omega);rw[htk];simpa [Ab1,Ag2] using hv3
   ·have k0':(0:Int)<(k:Int):=by omega
    have htk:Jj (l.take (k+1))=(Jj (l.take k)++ [Bb Cx])++Ab1 l[k]:=by rw[Ab3 hlt (by omega),Ci9];simp
    obtain⟨x,hx⟩: ∃x,x=l[k]:=⟨_,rfl⟩;rw[<-hx] at x0 x0z x1 mx htk;have ho:=hm x mx;rw[Oa,jF] at ho;obtain⟨o1,o2⟩:=ho;have hml:=Hw o2;simp(disch:=omega)only[go_sem,e0,e4,<-hve,hlt',Gh,k0'];refine Ae.monoR (Cn G _ Cx) ?_;simp(disch:=omega)only[go_sem,e0,e4,<-hve,Af,Ap,Ar,Au,Bf,Bg,Bh,jA,jB,jE,jJ,jL,jI,jG,jH];intro r24 hr24;dsimp only at hr24;have hv5:=hv.new hr24 (some (.cells (Af (Bb Cx)) 31));simp(disch:=omega)only[go_sem,e0,e4,<-hve,Af,Ap,Ar,Au,Bf,Bg,Bh,jA,jB,jE,jJ,jL,jI,jG,jH];refine Df.append (m:=1) hv5 rfl (by omega) fun v1 H5 hv1=> ?_;obtain⟨ts0,hts⟩: ∃ts0:List Tok,ts0=Jj (l.take k)++ [Bb Cx]:=⟨_,rfl⟩;have hv0:Df H 31 4 ts0.length (ts0.flatMap Af) v1 H5:=by rw[hts,Ea,jC];exact hv1
    rw[<-hts] at htk;have hle0:ts0.length<=50000:=by rw[hts,jC,jQ];omega
    clear hts;simp(disch:=omega)only[go_sem,e0,e4];refine Ak (by kernel_rfl) pL24 (by kernel_rfl) ?_;simp(disch:=omega)only[go_sem,e0,e4,hlt',hfl,jD,x0,x0z,x1,Gh,e4];refine Ae.monoR (Vp G _ x.name) ?_;simp(disch:=omega)only[go_sem,e0,e4,hlt',hfl,jD,x0,x0z,x1,Gh,e4];refine Ae.monoR (Cz G _ Cc) ?_;simp(disch:=omega)only[go_sem,e0,e4,hlt',hfl,jD,x0,x0z,x1,Gh,e4];refine Ae.monoR (Rm G x.e o2 _) ?_;obtain⟨j1,j2⟩:=hv0.cell1;try simp(disch:=omega)only[go_sem,e0,e4,hlt',hfl,jD,x0,x0z,x1,Gh,e4,j1,Af,Ap,Ar,Au,Bf,Bg,Bh,jA,jB,jE,jJ,jL,jI,jG,jH,jM,jR]
    intro q hq;dsimp only at hq;obtain⟨M,hM⟩: ∃M,M=upd H5 q (some (.cells [v1,Aq [Dq x.name],Aq [Bb Cc],Aq (Ai x.e)] 32)):=⟨_,rfl⟩;try simp(disch:=omega)only[go_sem,e0,e4,hlt',hfl,jD,x0,x0z,x1,Gh,e4,Af,Ap,Ar,Au,Bf,Bg,Bh,jA,jB,jE,jJ,jL,jI,jG,jH]
    rw[<-hM];have gq:M q=some (.cells [v1,Aq [Dq x.name],Aq [Bb Cc],Aq (Ai x.e)] 32):=by rw[hM];exact Ac _ _ _
    have hvM:Df H 31 4 ts0.length (ts0.flatMap Af) v1 M:=by rw[hM];exact hv0.new hq _
    clear hM;refine(Aq7 G (n:=4) [ts0,[Dq x.name],[Bb Cc],Ai x.e] _ gq (.cons (.own (hvM.less (Fv H))) (Bc1 [[Dq x.name],[Bb Cc],Ai x.e])) rfl rfl (by omega) (by simp;omega)).mono ?_;rintro _ H2 ⟨v2,rfl,hv2⟩;have hv3:=hv2.less hvM.sub;simp(disch:=omega)only[go_sem,e0,e4];refine⟨k+1,_,Ws.refl _,(hI _ _ _).2 ?_,by omega⟩;simp(disch:=omega)only[go_sem,e0,e4,hw1];(repeat' apply And.intro)<;>(try first | rfl | assumption | omega);rw[htk];simpa [Ab1,Ag2] using hv3
  ·have:k=l.length:=by omega
   subst this;have hlt': ¬(l.length:Int)<(l.length:Int):=by omega
   rw[List.take_length] at hv;simp(disch:=omega)only[go_sem,e0,e4,<-hve,hlt',Gh];exact Wj.refl ⟨_,rfl,hv⟩
set_option maxHeartbeats 40000000 in
theorem Bv7 (l:List Par) (hm: ∀a∈l,Fm a=true) (hl:Hf Xr 1048576 l) (hl8:l.length<=8):Ae Tryz.prog G 175 [Cj l] H (Ba (Aq (Ji l)) H):=by
 suffices hown:Ae Tryz.prog G 175 [Cj l] H (fun e H'=> ∃v,e= .ret v/\Df H 31 4 (Ji l).length ((Ji l).flatMap Af) v H') from hown.frozenJ
 refine Aa Tryz.func175 Tryz.call175 rfl (by kernel_rfl) ?_;simp(disch:=omega)only[go_sem];obtain⟨I,hI⟩: ∃I:Nat->(Nat->DVal)->Ab->Prop,∀k env heap,I k env heap↔(env 0=Cj l/\env 4=dI k/\k<=l.length/\Df H 31 4 (Ji (l.take k)).length ((Ji (l.take k)).flatMap Af) (env 3) heap):=⟨_,fun _ _ _=>Iff.rfl⟩;refine Dt1.run I (fun k=>l.length-k) 0 ((hI _ _ _).2 ?_) ?_
 ·simp(disch:=omega)only[go_sem];(repeat' apply And.intro)<;>(try first | rfl | assumption | omega);exact Df.nil _ _ (Sub.refl H)
 ·intro k env heap hi;obtain⟨e0,e4,hk,hv⟩:=(hI _ _ _).1 hi;obtain⟨v,hve⟩: ∃v,v=env 3:=⟨_,rfl⟩;rw[<-hve] at hv;have hfl:=Al An l;by_cases hlt:k<l.length
  ·have hlt':(k:Int)<(l.length:Int):=by omega
   have hw1:IntKind.i64.wrap ((k:Int)+1)=((k+1:Nat):Int):=by rw[IntKind.wrap_i64];omega
   have mx:=List.getElem_mem hlt;have hle:=Ag4 hm k hk;have x0:=Ck An l k hlt 0 (by decide);rw[Ce] at x0;have x0z:=x0;rw[Nat.add_zero] at x0z;have x1:=Ck An l k hlt 1 (by decide);rw[Cf] at x1;have x2:=Mx An l k hlt 2 9 (by decide);rw[Cg] at x2;have x3:=Mx An l k hlt 11 9 (by decide);rw[Bn] at x3;by_cases k0:k=0
   ·have k0': ¬(0:Int)<(k:Int):=by omega
    have htk:Ji (l.take (k+1))= []++Kn l[k]:=by subst k0;exact Am0 hlt
    have hn0:Ji (l.take k)= []:=by subst k0;rfl
    obtain⟨x,hx⟩: ∃x,x=l[k]:=⟨_,rfl⟩;rw[<-hx] at x0 x0z x1 x2 x3 mx htk;obtain⟨o1,o2,o3⟩:=Na (hm x mx);obtain⟨f0,f1,f2⟩:=hl.2 x mx;have hml:=Hw o2;have hdl:=Su o3;have hnl:=Iy o1;have hmd:=Bc3 x.mode;obtain⟨ts0,hts⟩: ∃ts0:List Tok,ts0= []:=⟨_,rfl⟩;have hv0:Df H 31 4 ts0.length (ts0.flatMap Af) v heap:=by rw[hts,<-hn0];exact hv
    rw[<-hts] at htk;have hle0:ts0.length<=100000:=by rw[hts];simp
    clear hts;simp(disch:=omega)only[go_sem,e0,e4,hlt',Cj,k0'];by_cases m2:x.mode=2
    ·have hmo:Gv x.mode= [Az Md]:=by rw[Gv,if_pos m2,Bv5]
     simp(disch:=omega)only[go_sem,e0,e4,hlt',hfl,jD,x0,x0z,x1,x2,x3,Cj,<-hve,m2];refine Ae.monoR (Bp G _ Md) ?_;simp(disch:=omega)only[go_sem,e0,e4,hlt',hfl,jD,x0,x0z,x1,x2,x3,Cj,<-hve];refine Ak (by kernel_rfl) pL3 (by kernel_rfl) ?_;simp(disch:=omega)only[go_sem,e0,e4,hlt',hfl,jD,x0,x0z,x1,x2,x3,Cj,<-hve];refine Ae.monoR (Ko G _ x.names (by omega)) ?_;simp(disch:=omega)only[go_sem,e0,e4,hlt',hfl,jD,x0,x0z,x1,x2,x3,Cj,<-hve];refine Ae.monoR (Cz G _ Dr) ?_;simp(disch:=omega)only[go_sem,e0,e4,hlt',hfl,jD,x0,x0z,x1,x2,x3,Cj,<-hve];refine Ae.monoR (Rm G x.type o2 _) ?_;simp(disch:=omega)only[go_sem,e0,e4,hlt',hfl,jD,x0,x0z,x1,x2,x3,Cj,<-hve];refine Ae.monoR (Ik G _ x.e o3 f2) ?_;obtain⟨j1,j2⟩:=hv0.cell1;try simp(disch:=omega)only[go_sem,e0,e4,hlt',hfl,jD,x0,x0z,x1,x2,x3,Cj,<-hve,j1,Af,Ap,Ar,Au,Bf,Bg,Bh,jA,jB,jE,jJ,jL,jI,jG,jH,jM,jR]
     intro q hq;dsimp only at hq;obtain⟨M,hM⟩: ∃M,M=upd heap q (some (.cells [v,Aq (Bv x.names),Aq [Bb Dr],Aq [Az Md],Aq (Ai x.type),Aq (Li x.e)] 32)):=⟨_,rfl⟩;try simp(disch:=omega)only[go_sem,e0,e4,hlt',hfl,jD,x0,x0z,x1,x2,x3,Cj,<-hve,Af,Ap,Ar,Au,Bf,Bg,Bh,jA,jB,jE,jJ,jL,jI,jG,jH]
     rw[<-hM];have gq:M q=some (.cells [v,Aq (Bv x.names),Aq [Bb Dr],Aq [Az Md],Aq (Ai x.type),Aq (Li x.e)] 32):=by rw[hM];exact Ac _ _ _
     have hvM:Df H 31 4 ts0.length (ts0.flatMap Af) v M:=by rw[hM];exact hv0.new hq _
     clear hM;refine(Aq7 G (n:=6) [ts0,Bv x.names,[Bb Dr],Gv x.mode,Ai x.type,Li x.e] _ gq (.cons (.own (hvM.less (Fv H))) (.cons (.keep (Fv M) _) (.cons (.keep (Fv M) _) (.cons (Vq hmo) (.cons (.keep (Fv M) _) (.cons (.keep (Fv M) _) .nil)))))) rfl rfl (by omega) (by simp;omega)).mono ?_;rintro _ H2 ⟨v2,rfl,hv2⟩;have hv3:=hv2.less hvM.sub;simp(disch:=omega)only[go_sem,e0,e4];refine⟨k+1,_,Ws.refl _,(hI _ _ _).2 ?_,by omega⟩;simp(disch:=omega)only[go_sem,e0,e4,hw1];(repeat' apply And.intro)<;>(try first | rfl | assumption | omega);rw[htk];simpa [Kn,Rl] using hv3
    ·by_cases m3:x.mode=3
     ·have hmo:Gv x.mode= [[Az wIn],[Az Md]].flatten:=by rw[Gv,if_neg m2,if_pos m3,Bv5,Bm5];rfl
      simp(disch:=omega)only[go_sem,e0,e4,hlt',hfl,jD,x0,x0z,x1,x2,x3,Cj,<-hve,m2,m3];refine Ae.monoR (Bp G _ wIn) ?_;simp(disch:=omega)only[go_sem,e0,e4,hlt',hfl,jD,x0,x0z,x1,x2,x3,Cj,<-hve];refine Ae.monoR (Bp G _ Md) ?_;simp(disch:=omega)only[go_sem,e0,e4,hlt',hfl,jD,x0,x0z,x1,x2,x3,Cj,<-hve,Af,Ap,Ar,Au,Bf,Bg,Bh,jA,jB,jE,jJ,jL,jI,jG,jH,jM,jR];intro p hp;dsimp only at hp;simp(disch:=omega)only[go_sem];refine Ae.monoR (Cw G heap [[Az wIn],[Az Md]] hp rfl (by simp) (by simp)) ?_;simp(disch:=omega)only[go_sem,e0,e4,hlt',hfl,jD,x0,x0z,x1,x2,x3,Cj,<-hve];refine Ak (by kernel_rfl) pL3 (by kernel_rfl) ?_;simp(disch:=omega)only[go_sem,e0,e4,hlt',hfl,jD,x0,x0z,x1,x2,x3,Cj,<-hve];refine Ae.monoR (Ko G _ x.names (by omega)) ?_;simp(disch:=omega)only[go_sem,e0,e4,hlt',hfl,jD,x0,x0z,x1,x2,x3,Cj,<-hve];refine Ae.monoR (Cz G _ Dr) ?_;simp(disch:=omega)only[go_sem,e0,e4,hlt',hfl,jD,x0,x0z,x1,x2,x3,Cj,<-hve];refine Ae.monoR (Rm G x.type o2 _) ?_;simp(disch:=omega)only[go_sem,e0,e4,hlt',hfl,jD,x0,x0z,x1,x2,x3,Cj,<-hve];refine Ae.monoR (Ik G _ x.e o3 f2) ?_;obtain⟨j1,j2⟩:=hv0.cell1;try simp(disch:=omega)only[go_sem,e0,e4,hlt',hfl,jD,x0,x0z,x1,x2,x3,Cj,<-hve,j1,Af,Ap,Ar,Au,Bf,Bg,Bh,jA,jB,jE,jJ,jL,jI,jG,jH,jM,jR]
      intro q hq;dsimp only at hq;obtain⟨M,hM⟩: ∃M,M=upd heap q (some (.cells [v,Aq (Bv x.names),Aq [Bb Dr],Aq [[Az wIn],[Az Md]].flatten,Aq (Ai x.type),Aq (Li x.e)] 32)):=⟨_,rfl⟩;try simp(disch:=omega)only[go_sem,e0,e4,hlt',hfl,jD,x0,x0z,x1,x2,x3,Cj,<-hve,Af,Ap,Ar,Au,Bf,Bg,Bh,jA,jB,jE,jJ,jL,jI,jG,jH]
      rw[<-hM];have gq:M q=some (.cells [v,Aq (Bv x.names),Aq [Bb Dr],Aq [[Az wIn],[Az Md]].flatten,Aq (Ai x.type),Aq (Li x.e)] 32):=by rw[hM];exact Ac _ _ _
      have hvM:Df H 31 4 ts0.length (ts0.flatMap Af) v M:=by rw[hM];exact hv0.new hq _
      clear hM;refine(Aq7 G (n:=6) [ts0,Bv x.names,[Bb Dr],Gv x.mode,Ai x.type,Li x.e] _ gq (.cons (.own (hvM.less (Fv H))) (.cons (.keep (Fv M) _) (.cons (.keep (Fv M) _) (.cons (Vq hmo) (.cons (.keep (Fv M) _) (.cons (.keep (Fv M) _) .nil)))))) rfl rfl (by omega) (by simp;omega)).mono ?_;rintro _ H2 ⟨v2,rfl,hv2⟩;have hv3:=hv2.less hvM.sub;simp(disch:=omega)only[go_sem,e0,e4];refine⟨k+1,_,Ws.refl _,(hI _ _ _).2 ?_,by omega⟩;simp(disch:=omega)only[go_sem,e0,e4,hw1];(repeat' apply And.intro)<;>(try first | rfl | assumption | omega);rw[htk];simpa [Kn,Rl] using hv3
     ·have hmo:Gv x.mode= []:=by rw[Gv,if_neg m2,if_neg m3]
      simp(disch:=omega)only[go_sem,e0,e4,hlt',hfl,jD,x0,x0z,x1,x2,x3,Cj,<-hve,m2,m3];refine Ak (by kernel_rfl) pL3 (by kernel_rfl) ?_;simp(disch:=omega)only[go_sem,e0,e4,hlt',hfl,jD,x0,x0z,x1,x2,x3,Cj,<-hve];refine Ae.monoR (Ko G _ x.names (by omega)) ?_;simp(disch:=omega)only[go_sem,e0,e4,hlt',hfl,jD,x0,x0z,x1,x2,x3,Cj,<-hve];refine Ae.monoR (Cz G _ Dr) ?_;simp(disch:=omega)only[go_sem,e0,e4,hlt',hfl,jD,x0,x0z,x1,x2,x3,Cj,<-hve];refine Ae.monoR (Rm G x.type o2 _) ?_;simp(disch:=omega)only[go_sem,e0,e4,hlt',hfl,jD,x0,x0z,x1,x2,x3,Cj,<-hve];refine Ae.monoR (Ik G _ x.e o3 f2) ?_;obtain⟨j1,j2⟩:=hv0.cell1;try simp(disch:=omega)only[go_sem,e0,e4,hlt',hfl,jD,x0,x0z,x1,x2,x3,Cj,<-hve,j1,Af,Ap,Ar,Au,Bf,Bg,Bh,jA,jB,jE,jJ,jL,jI,jG,jH,jM,jR]
      intro q hq;dsimp only at hq;obtain⟨M,hM⟩: ∃M,M=upd heap q (some (.cells [v,Aq (Bv x.names),Aq [Bb Dr], .nilSlice,Aq (Ai x.type),Aq (Li x.e)] 32)):=⟨_,rfl⟩;try simp(disch:=omega)only[go_sem,e0,e4,hlt',hfl,jD,x0,x0z,x1,x2,x3,Cj,<-hve,Af,Ap,Ar,Au,Bf,Bg,Bh,jA,jB,jE,jJ,jL,jI,jG,jH]
      rw[<-hM];have gq:M q=some (.cells [v,Aq (Bv x.names),Aq [Bb Dr], .nilSlice,Aq (Ai x.type),Aq (Li x.e)] 32):=by rw[hM];exact Ac _ _ _
      have hvM:Df H 31 4 ts0.length (ts0.flatMap Af) v M:=by rw[hM];exact hv0.new hq _
      clear hM;refine(Aq7 G (n:=6) [ts0,Bv x.names,[Bb Dr],Gv x.mode,Ai x.type,Li x.e] _ gq (.cons (.own (hvM.less (Fv H))) (.cons (.keep (Fv M) _) (.cons (.keep (Fv M) _) (.cons (Bc2 hmo) (.cons (.keep (Fv M) _) (.cons (.keep (Fv M) _) .nil)))))) rfl rfl (by omega) (by simp;omega)).mono ?_;rintro _ H2 ⟨v2,rfl,hv2⟩;have hv3:=hv2.less hvM.sub;simp(disch:=omega)only[go_sem,e0,e4];refine⟨k+1,_,Ws.refl _,(hI _ _ _).2 ?_,by omega⟩;simp(disch:=omega)only[go_sem,e0,e4,hw1];(repeat' apply And.intro)<;>(try first | rfl | assumption | omega);rw[htk];simpa [Kn,Rl] using hv3
   ·have k0':(0:Int)<(k:Int):=by omega
    have htk:Ji (l.take (k+1))=(Ji (l.take k)++ [Bb Ew])++Kn l[k]:=by rw[Ab4 hlt (by omega),Ag1];simp
    obtain⟨x,hx⟩: ∃x,x=l[k]:=⟨_,rfl⟩;rw[<-hx] at x0 x0z x1 x2 x3 mx htk;obtain⟨o1,o2,o3⟩:=Na (hm x mx);obtain⟨f0,f1,f2⟩:=hl.2 x mx;have hml:=Hw o2;have hdl:=Su o3;have hnl:=Iy o1;have hmd:=Bc3 x.mode;simp(disch:=omega)only[go_sem,e0,e4,<-hve,hlt',Cj,k0'];refine Ae.monoR (Cn G _ Ew) ?_;simp(disch:=omega)only[go_sem,e0,e4,<-hve,Af,Ap,Ar,Au,Bf,Bg,Bh,jA,jB,jE,jJ,jL,jI,jG,jH];intro r24 hr24;dsimp only at hr24;have hv5:=hv.new hr24 (some (.cells (Af (Bb Ew)) 31));simp(disch:=omega)only[go_sem,e0,e4,<-hve,Af,Ap,Ar,Au,Bf,Bg,Bh,jA,jB,jE,jJ,jL,jI,jG,jH];refine Df.append (m:=1) hv5 rfl (by omega) fun v1 H5 hv1=> ?_;obtain⟨ts0,hts⟩: ∃ts0:List Tok,ts0=Ji (l.take k)++ [Bb Ew]:=⟨_,rfl⟩;have hv0:Df H 31 4 ts0.length (ts0.flatMap Af) v1 H5:=by rw[hts,Ea,jC];exact hv1
    rw[<-hts] at htk;have hle0:ts0.length<=100000:=by rw[hts,jC,jQ];omega
    clear hts;simp(disch:=omega)only[go_sem,e0,e4];by_cases m2:x.mode=2
    ·have hmo:Gv x.mode= [Az Md]:=by rw[Gv,if_pos m2,Bv5]
     simp(disch:=omega)only[go_sem,e0,e4,hlt',hfl,jD,x0,x0z,x1,x2,x3,Cj,e4,m2];refine Ae.monoR (Bp G _ Md) ?_;simp(disch:=omega)only[go_sem,e0,e4,hlt',hfl,jD,x0,x0z,x1,x2,x3,Cj,e4];refine Ak (by kernel_rfl) pL3 (by kernel_rfl) ?_;simp(disch:=omega)only[go_sem,e0,e4,hlt',hfl,jD,x0,x0z,x1,x2,x3,Cj,e4];refine Ae.monoR (Ko G _ x.names (by omega)) ?_;simp(disch:=omega)only[go_sem,e0,e4,hlt',hfl,jD,x0,x0z,x1,x2,x3,Cj,e4];refine Ae.monoR (Cz G _ Dr) ?_;simp(disch:=omega)only[go_sem,e0,e4,hlt',hfl,jD,x0,x0z,x1,x2,x3,Cj,e4];refine Ae.monoR (Rm G x.type o2 _) ?_;simp(disch:=omega)only[go_sem,e0,e4,hlt',hfl,jD,x0,x0z,x1,x2,x3,Cj,e4];refine Ae.monoR (Ik G _ x.e o3 f2) ?_;obtain⟨j1,j2⟩:=hv0.cell1;try simp(disch:=omega)only[go_sem,e0,e4,hlt',hfl,jD,x0,x0z,x1,x2,x3,Cj,e4,j1,Af,Ap,Ar,Au,Bf,Bg,Bh,jA,jB,jE,jJ,jL,jI,jG,jH,jM,jR]
     intro q hq;dsimp only at hq;obtain⟨M,hM⟩: ∃M,M=upd H5 q (some (.cells [v1,Aq (Bv x.names),Aq [Bb Dr],Aq [Az Md],Aq (Ai x.type),Aq (Li x.e)] 32)):=⟨_,rfl⟩;try simp(disch:=omega)only[go_sem,e0,e4,hlt',hfl,jD,x0,x0z,x1,x2,x3,Cj,e4,Af,Ap,Ar,Au,Bf,Bg,Bh,jA,jB,jE,jJ,jL,jI,jG,jH]
     rw[<-hM];have gq:M q=some (.cells [v1,Aq (Bv x.names),Aq [Bb Dr],Aq [Az Md],Aq (Ai x.type),Aq (Li x.e)] 32):=by rw[hM];exact Ac _ _ _
     have hvM:Df H 31 4 ts0.length (ts0.flatMap Af) v1 M:=by rw[hM];exact hv0.new hq _
     clear hM;refine(Aq7 G (n:=6) [ts0,Bv x.names,[Bb Dr],Gv x.mode,Ai x.type,Li x.e] _ gq (.cons (.own (hvM.less (Fv H))) (.cons (.keep (Fv M) _) (.cons (.keep (Fv M) _) (.cons (Vq hmo) (.cons (.keep (Fv M) _) (.cons (.keep (Fv M) _) .nil)))))) rfl rfl (by omega) (by simp;omega)).mono ?_;rintro _ H2 ⟨v2,rfl,hv2⟩;have hv3:=hv2.less hvM.sub;simp(disch:=omega)only[go_sem,e0,e4];refine⟨k+1,_,Ws.refl _,(hI _ _ _).2 ?_,by omega⟩;simp(disch:=omega)only[go_sem,e0,e4,hw1];(repeat' apply And.intro)<;>(try first | rfl | assumption | omega);rw[htk];simpa [Kn,Rl] using hv3
    ·by_cases m3:x.mode=3
     ·have hmo:Gv x.mode= [[Az wIn],[Az Md]].flatten:=by rw[Gv,if_neg m2,if_pos m3,Bv5,Bm5];rfl
      simp(disch:=omega)only[go_sem,e0,e4,hlt',hfl,jD,x0,x0z,x1,x2,x3,Cj,e4,m2,m3];refine Ae.monoR (Bp G _ wIn) ?_;simp(disch:=omega)only[go_sem,e0,e4,hlt',hfl,jD,x0,x0z,x1,x2,x3,Cj,e4];refine Ae.monoR (Bp G _ Md) ?_;simp(disch:=omega)only[go_sem,e0,e4,hlt',hfl,jD,x0,x0z,x1,x2,x3,Cj,e4,Af,Ap,Ar,Au,Bf,Bg,Bh,jA,jB,jE,jJ,jL,jI,jG,jH,jM,jR];intro p hp;dsimp only at hp;simp(disch:=omega)only[go_sem];refine Ae.monoR (Cw G H5 [[Az wIn],[Az Md]] hp rfl (by simp) (by simp)) ?_;simp(disch:=omega)only[go_sem,e0,e4,hlt',hfl,jD,x0,x0z,x1,x2,x3,Cj,e4];refine Ak (by kernel_rfl) pL3 (by kernel_rfl) ?_;simp(disch:=omega)only[go_sem,e0,e4,hlt',hfl,jD,x0,x0z,x1,x2,x3,Cj,e4];refine Ae.monoR (Ko G _ x.names (by omega)) ?_;simp(disch:=omega)only[go_sem,e0,e4,hlt',hfl,jD,x0,x0z,x1,x2,x3,Cj,e4];refine Ae.monoR (Cz G _ Dr) ?_;simp(disch:=omega)only[go_sem,e0,e4,hlt',hfl,jD,x0,x0z,x1,x2,x3,Cj,e4];refine Ae.monoR (Rm G x.type o2 _) ?_;simp(disch:=omega)only[go_sem,e0,e4,hlt',hfl,jD,x0,x0z,x1,x2,x3,Cj,e4];refine Ae.monoR (Ik G _ x.e o3 f2) ?_;obtain⟨j1,j2⟩:=hv0.cell1;try simp(disch:=omega)only[go_sem,e0,e4,hlt',hfl,jD,x0,x0z,x1,x2,x3,Cj,e4,j1,Af,Ap,Ar,Au,Bf,Bg,Bh,jA,jB,jE,jJ,jL,jI,jG,jH,jM,jR]
      intro q hq;dsimp only at hq;obtain⟨M,hM⟩: ∃M,M=upd H5 q (some (.cells [v1,Aq (Bv x.names),Aq [Bb Dr],Aq [[Az wIn],[Az Md]].flatten,Aq (Ai x.type),Aq (Li x.e)] 32)):=⟨_,rfl⟩;try simp(disch:=omega)only[go_sem,e0,e4,hlt',hfl,jD,x0,x0z,x1,x2,x3,Cj,e4,Af,Ap,Ar,Au,Bf,Bg,Bh,jA,jB,jE,jJ,jL,jI,jG,jH]
      rw[<-hM];have gq:M q=some (.cells [v1,Aq (Bv x.names),Aq [Bb Dr],Aq [[Az wIn],[Az Md]].flatten,Aq (Ai x.type),Aq (Li x.e)] 32):=by rw[hM];exact Ac _ _ _
      have hvM:Df H 31 4 ts0.length (ts0.flatMap Af) v1 M:=by rw[hM];exact hv0.new hq _
      clear hM;refine(Aq7 G (n:=6) [ts0,Bv x.names,[Bb Dr],Gv x.mode,Ai x.type,Li x.e] _ gq (.cons (.own (hvM.less (Fv H))) (.cons (.keep (Fv M) _) (.cons (.keep (Fv M) _) (.cons (Vq hmo) (.cons (.keep (Fv M) _) (.cons (.keep (Fv M) _) .nil)))))) rfl rfl (by omega) (by simp;omega)).mono ?_;rintro _ H2 ⟨v2,rfl,hv2⟩;have hv3:=hv2.less hvM.sub;simp(disch:=omega)only[go_sem,e0,e4];refine⟨k+1,_,Ws.refl _,(hI _ _ _).2 ?_,by omega⟩;simp(disch:=omega)only[go_sem,e0,e4,hw1];(repeat' apply And.intro)<;>(try first | rfl | assumption | omega);rw[htk];simpa [Kn,Rl] using hv3
     ·have hmo:Gv x.mode= []:=by rw[Gv,if_neg m2,if_neg m3]
      simp(disch:=omega)only[go_sem,e0,e4,hlt',hfl,jD,x0,x0z,x1,x2,x3,Cj,e4,m2,m3];refine Ak (by kernel_rfl) pL3 (by kernel_rfl) ?_;simp(disch:=omega)only[go_sem,e0,e4,hlt',hfl,jD,x0,x0z,x1,x2,x3,Cj,e4];refine Ae.monoR (Ko G _ x.names (by omega)) ?_;simp(disch:=omega)only[go_sem,e0,e4,hlt',hfl,jD,x0,x0z,x1,x2,x3,Cj,e4];refine Ae.monoR (Cz G _ Dr) ?_;simp(disch:=omega)only[go_sem,e0,e4,hlt',hfl,jD,x0,x0z,x1,x2,x3,Cj,e4];refine Ae.monoR (Rm G x.type o2 _) ?_;simp(disch:=omega)only[go_sem,e0,e4,hlt',hfl,jD,x0,x0z,x1,x2,x3,Cj,e4];refine Ae.monoR (Ik G _ x.e o3 f2) ?_;obtain⟨j1,j2⟩:=hv0.cell1;try simp(disch:=omega)only[go_sem,e0,e4,hlt',hfl,jD,x0,x0z,x1,x2,x3,Cj,e4,j1,Af,Ap,Ar,Au,Bf,Bg,Bh,jA,jB,jE,jJ,jL,jI,jG,jH,jM,jR]
      intro q hq;dsimp only at hq;obtain⟨M,hM⟩: ∃M,M=upd H5 q (some (.cells [v1,Aq (Bv x.names),Aq [Bb Dr], .nilSlice,Aq (Ai x.type),Aq (Li x.e)] 32)):=⟨_,rfl⟩;try simp(disch:=omega)only[go_sem,e0,e4,hlt',hfl,jD,x0,x0z,x1,x2,x3,Cj,e4,Af,Ap,Ar,Au,Bf,Bg,Bh,jA,jB,jE,jJ,jL,jI,jG,jH]
      rw[<-hM];have gq:M q=some (.cells [v1,Aq (Bv x.names),Aq [Bb Dr], .nilSlice,Aq (Ai x.type),Aq (Li x.e)] 32):=by rw[hM];exact Ac _ _ _
      have hvM:Df H 31 4 ts0.length (ts0.flatMap Af) v1 M:=by rw[hM];exact hv0.new hq _
      clear hM;refine(Aq7 G (n:=6) [ts0,Bv x.names,[Bb Dr],Gv x.mode,Ai x.type,Li x.e] _ gq (.cons (.own (hvM.less (Fv H))) (.cons (.keep (Fv M) _) (.cons (.keep (Fv M) _) (.cons (Bc2 hmo) (.cons (.keep (Fv M) _) (.cons (.keep (Fv M) _) .nil)))))) rfl rfl (by omega) (by simp;omega)).mono ?_;rintro _ H2 ⟨v2,rfl,hv2⟩;have hv3:=hv2.less hvM.sub;simp(disch:=omega)only[go_sem,e0,e4];refine⟨k+1,_,Ws.refl _,(hI _ _ _).2 ?_,by omega⟩;simp(disch:=omega)only[go_sem,e0,e4,hw1];(repeat' apply And.intro)<;>(try first | rfl | assumption | omega);rw[htk];simpa [Kn,Rl] using hv3
  ·have:k=l.length:=by omega
   subst this;have hlt': ¬(l.length:Int)<(l.length:Int):=by omega
   rw[List.take_length] at hv;simp(disch:=omega)only[go_sem,e0,e4,<-hve,hlt',Cj];exact Wj.refl ⟨_,rfl,hv⟩
set_option maxHeartbeats 8000000 in
theorem Sy (l:List Cmp) (d:Int) (hm: ∀c∈l,Fc c=true) (hl:Hf Oc 1048576 l) (hl9:l.length<=900000):Ae Tryz.prog G 178 [Cv l,dI d] H (Ba (.vslice ((Hz l d).flatMap Eg) (Hz l d).length) H):=by
 suffices hown:Ae Tryz.prog G 178 [Cv l,dI d] H (fun e H'=> ∃v,e= .ret v/\Df H 158 2 (Hz l d).length ((Hz l d).flatMap Eg) v H') from hown.frozenJ
 refine Aa Tryz.func178 Tryz.call178 rfl (by kernel_rfl) ?_;by_cases h0:l.length=0
 ·have h0':(l.length:Int)=0:=by omega
  have hl0:l= []:=List.length_eq_zero_iff.1 h0;have hc:Hz l d= [⟨d,[[Az Hu],[Bb Ew]].flatten⟩]:=by rw[hl0,Hz,Bv2,Ag1];rfl
  rw[hc];simp(disch:=omega)only[go_sem,Cv,h0'];refine Ae.monoR (Bp G _ Hu) ?_;simp(disch:=omega)only[go_sem];refine Ae.monoR (Cz G _ Ew) ?_;simp(disch:=omega)only[go_sem,Af,Ap,Ar,Au,Bf,Bg,Bh,jA,jB,jE,jJ,jL,jI,jG,jH,jM,jR];intro p hp;dsimp only at hp;simp(disch:=omega)only[go_sem];refine Ae.monoR (Cw G H [[Az Hu],[Bb Ew]] hp rfl (by simp) (by simp)) ?_;simp(disch:=omega)only[go_sem,Af,Ap,Ar,Au,Bf,Bg,Bh,jA,jB,jE,jJ,jL,jI,jG,jH,jM,jR];intro q hq;dsimp only at hq;simp(disch:=omega)only[go_sem,Af,Ap,Ar,Au,Bf,Bg,Bh,jA,jB,jE,jJ,jL,jI,jG,jH];exact Wj.refl ⟨_,rfl, .inr ⟨q,hq,rfl,rfl,Ac _ _ _,(Sub.refl H).new hq _⟩⟩
 ·have h0': ¬(l.length:Int)=0:=by omega
  have hl0:l≠ []:=fun e=>h0 (by rw[e];rfl);have hc:Hz l d=l.map (Iz d):=by rw[Hz,if_neg (by simpa using hl0)];rfl
  rw[hc,jK];simp(disch:=omega)only[go_sem,Cv,h0'];obtain⟨I,hI⟩: ∃I:Nat->(Nat->DVal)->Ab->Prop,∀k env heap,I k env heap↔(env 0=Cv l/\env 1=dI d/\env 6=dI k/\k<=l.length/\Df H 158 2 k (((l.take k).map (Iz d)).flatMap Eg) (env 5) heap):=⟨_,fun _ _ _=>Iff.rfl⟩;refine Dt1.run I (fun k=>l.length-k) 0 ((hI _ _ _).2 ?_) ?_
  ·simp(disch:=omega)only[go_sem,Cv];(repeat' apply And.intro)<;>(try first | rfl | assumption | omega);exact Df.nil _ _ (Sub.refl H)
  ·intro k env heap hi;obtain⟨e0,e1,e6,hk,hv⟩:=(hI _ _ _).1 hi;obtain⟨v,hve⟩: ∃v,v=env 5:=⟨_,rfl⟩;rw[<-hve] at hv;have hfl:=Al Bm l;by_cases hlt:k<l.length
   ·have hlt':(k:Int)<(l.length:Int):=by omega
    have hw1:IntKind.i64.wrap ((k:Int)+1)=((k+1:Nat):Int):=by rw[IntKind.wrap_i64];omega
    have mx:=List.getElem_mem hlt;have x0:=Ck Bm l k hlt 0 (by decide);rw[Fo] at x0;have x0z:=x0;rw[Nat.add_zero] at x0z;have x1:=Mx Bm l k hlt 1 36 (by decide);rw[Fp] at x1;have x2:=Mx Bm l k hlt 37 9 (by decide);rw[Eb] at x2;have htk:(l.take (k+1)).map (Iz d)=(l.take k).map (Iz d)++ [Iz d l[k]]:=by rw[Hl hlt,List.map_append,List.map_singleton]
    obtain⟨x,hx⟩: ∃x,x=l[k]:=⟨_,rfl⟩;rw[<-hx] at x0 x0z x1 x2 mx htk;have hok:=hm x mx;have hcl:=Dc4 hok;rw[Fc,jF,jF] at hok;obtain⟨⟨o1,o2⟩,o3⟩:=hok;obtain⟨f0,f1,f2⟩:=hl.2 x mx;have hnl:=Iy o1;have hct:Ch7 x= [Bv x.names,[Bb Dr],Im x.sub,Li x.e,[Bb Ew]].flatten:=by rw[Ch7,Rl,Ag1];simp
    simp(disch:=omega)only[go_sem,e0,e1,e6,<-hve,hlt',Cv];refine Ak (by kernel_rfl) pL20 (by kernel_rfl) ?_;simp(disch:=omega)only[go_sem,e0,e1,e6,hlt',hfl,jD,x0,x0z,x1,x2,Cv,<-hve];refine Ae.monoR (Ko G _ x.names (by omega)) ?_;simp(disch:=omega)only[go_sem,e0,e1,e6,hlt',hfl,jD,x0,x0z,x1,x2,Cv,<-hve];refine Ae.monoR (Cz G _ Dr) ?_;simp(disch:=omega)only[go_sem,e0,e1,e6,hlt',hfl,jD,x0,x0z,x1,x2,Cv,<-hve];refine Ae.monoR (Pp G _ x.sub o2 f1) ?_;simp(disch:=omega)only[go_sem,e0,e1,e6,hlt',hfl,jD,x0,x0z,x1,x2,Cv,<-hve];refine Ae.monoR (Ik G _ x.e o3 f2) ?_;simp(disch:=omega)only[go_sem,e0,e1,e6,hlt',hfl,jD,x0,x0z,x1,x2,Cv,<-hve];refine Ae.monoR (Cz G _ Ew) ?_;simp(disch:=omega)only[go_sem,e0,e1,e6,hlt',hfl,jD,x0,x0z,x1,x2,Cv,<-hve,Af,Ap,Ar,Au,Bf,Bg,Bh,jA,jB,jE,jJ,jL,jI,jG,jH,jM,jR];intro p hp;dsimp only at hp;try simp(disch:=omega)only[go_sem,e0,e1,e6,hlt',hfl,jD,x0,x0z,x1,x2,Cv,<-hve]
    refine Ae.monoR (Cw G heap [Bv x.names,[Bb Dr],Im x.sub,Li x.e,[Bb Ew]] hp rfl (by simp) (by rw[<-hct];omega)) ?_;rw[<-hct];simp(disch:=omega)only[go_sem,e0,e1,e6,hlt',hfl,jD,x0,x0z,x1,x2,Cv,<-hve,Af,Ap,Ar,Au,Bf,Bg,Bh,jA,jB,jE,jJ,jL,jI,jG,jH,jM,jR];intro q hq;dsimp only at hq;have hv6:=hv.new hq (some (.cells (Eg (Iz d x)) 158));simp(disch:=omega)only[go_sem,e0,e1,e6,hlt',hfl,jD,x0,x0z,x1,x2,Cv,<-hve,Af,Ap,Ar,Au,Bf,Bg,Bh,jA,jB,jE,jJ,jL,jI,jG,jH];refine Df.append (m:=1) hv6 rfl (by omega) fun v2 H6 hv2=> ?_;simp(disch:=omega)only[go_sem,e0,e1,e6];refine⟨k+1,_,Ws.refl _,(hI _ _ _).2 ?_,by omega⟩;simp(disch:=omega)only[go_sem,e0,e1,e6,hw1];(repeat' apply And.intro)<;>(try first | rfl | assumption | omega);rw[htk,Gp];exact hv2
   ·have:k=l.length:=by omega
    subst this;have hlt': ¬(l.length:Int)<(l.length:Int):=by omega
    rw[List.take_length] at hv;simp(disch:=omega)only[go_sem,e0,e1,e6,<-hve,hlt',Cv];exact Wj.refl ⟨_,rfl,hv⟩
end
end Go.Dl

-- Chapter 4: lines of records and type definitions, the functions ..Tokens and ..Lines, by the reference (printed by gen_ti.py).
namespace Go.Dl
open Go Go.Proofs
set_option maxRecDepth 100000
def Bv8 (ls:List Lin):DVal:= .vslice (ls.flatMap Eg) ls.length
theorem Au7 {t:Typ} (hm:Jr t=true):(t.kind=1->Fb t.names 64=true)/\(t.kind=2->Cl t.lo=true/\Cl t.hi=true)/\(t.kind=3->Cm t.sub=true)/\(t.kind=6->Cm t.sub=true)/\(t.kind=4->Cm t.sub=true/\Fk t.disc=true)/\(t.kind=5->Hd t=true)/\(t.kind=1\/t.kind=2\/t.kind=3\/t.kind=4\/t.kind=5\/t.kind=6\/t.kind=7):=by
 refine⟨fun h=> ?_,fun h=> ?_,fun h=> ?_,fun h=> ?_,fun h=> ?_,fun h=> ?_, ?_⟩
 ·simp [Jr,h] at hm;exact hm.1.1.1.1.1
 ·simp [Jr,h] at hm;exact hm.1.1.1.1.2
 ·simp [Jr,h] at hm;exact hm.1.1.1.2
 ·simp [Jr,h] at hm;exact hm.1.1.1.2
 ·simp [Jr,h] at hm;exact⟨hm.1.1.1.2,hm.1.1.2⟩
 ·simp [Jr,h] at hm;exact hm.1.2
 ·by_cases h1:t.kind=1
  ·omega
  by_cases h2:t.kind=2
  ·omega
  by_cases h3:t.kind=3
  ·omega
  by_cases h4:t.kind=4
  ·omega
  by_cases h5:t.kind=5
  ·omega
  by_cases h6:t.kind=6
  ·omega
  simp [Jr,h1,h2,h3,h4,h5,h6] at hm;omega
section
variable (G:Nat->DVal) (H:Ab)
set_option maxHeartbeats 40000000 in
theorem Ze (t:Typ) (d:Int) (hm:Hd t=true) (ht:Np 1048576 t) (hc40:t.comps.length<=40) (hac: ∀a∈t.arms,a.comps.length<=40):Ae Tryz.prog G 299 [.agg (Dp t),dI d] H (Ba (Bv8 (Xo t d)) H):=by
 suffices hown:Ae Tryz.prog G 299 [.agg (Dp t),dI d] H (fun e H'=> ∃v,e= .ret v/\Df H 158 2 (Xo t d).length ((Xo t d).flatMap Eg) v H') from hown.frozenJ
 obtain⟨f0,f1,f2,f3,f4,f5,f6,f7⟩:=ht;simp only[Hd,jF,decide_eq_true_eq,List.all_eq_true] at hm;obtain⟨⟨⟨⟨⟨hcm,-⟩,ha16⟩,-⟩,harm⟩,-⟩:=hm;have har: ∀a∈t.arms,(∀c∈a.comps,Fc c=true)/\Kg a.c=true:=fun a ha=>by
  have:=harm a ha;rw[Gu,jF,List.all_eq_true] at this;exact this
 refine Aa Tryz.func299 Tryz.call299 rfl (by kernel_rfl) ?_;simp(disch:=omega)only[go_sem,DVal.cells];intro r2 hr2;dsimp only at hr2;obtain⟨K,hK⟩: ∃K',K'=upd H r2 (some (.cells (Dp t) 62)):=⟨_,rfl⟩;rw[<-hK];have g2:K r2=some (.cells (Dp t) 62):=by rw[hK];exact Ac _ _ _
 have hs:Sub H K:=by rw[hK];exact(Sub.refl H).new hr2 _
 clear hK;simp(disch:=omega)only[go_sem,g2];refine Ae.monoR (Bp G K Bt) ?_;simp(disch:=omega)only[go_sem,g2,Af,Ap,Ar,Au,Bf,Bg,Bh,jA,jB,jE,jJ,jL,jI,jG,jH,jM,jR];intro q hq;dsimp only at hq;obtain⟨ls1,hls1⟩: ∃l,l=Ip t d:=⟨_,rfl⟩;have hX:Xo t d=ls1++Jz t d:=by rw[Bv4,hls1]
 have hvq:Df K 158 2 1 (Eg ⟨d,[Az Bt]⟩) (.oslice 2 q 0 1 1) (upd K q (some (.cells (Eg ⟨d,[Az Bt]⟩) 158))):= .inr ⟨q,hq,rfl,rfl,Ac _ _ _,(Sub.refl K).new hq _⟩;obtain⟨H1,hH1⟩: ∃X,X=upd K q (some (.cells [DVal.int .i64 d,Aq [Az Bt]] 158)):=⟨_,rfl⟩;have nq:r2≠q:=Am hq g2;replace hvq:Df K 158 2 1 (Eg ⟨d,[Az Bt]⟩) (.oslice 2 q 0 1 1) H1:=by rw[hH1];exact hvq
 have g1:=hvq.keep g2;by_cases c0:t.comps.length=0
 ·have c0': ¬(0:Int)<(t.comps.length:Int):=by omega
  have hc0:t.comps= []:=List.length_eq_zero_iff.1 c0;have hl1:ls1.length<=300:=by rw[hls1,Ip,hc0];simp
  have hv:Df K 158 2 ls1.length (ls1.flatMap Eg) (.oslice 2 q 0 1 1) H1:=by rw[hls1,Ip,hc0,Oq];exact hvq
  clear hls1 hvq;simp(disch:=omega)only[go_sem,Af,Ap,Ar,Au,Bf,Bg,Bh,jA,jB,jE,jJ,jL,jI,jG,jH,jM,jR,g2,nq,Cv,c0'];rw[<-hH1];clear hH1;obtain⟨v1,hv1⟩: ∃v,v=DVal.oslice 2 q 0 1 1:=⟨_,rfl⟩;rw[<-hv1] at hv⊢
  clear hv1;by_cases v0:t.var= []
  ·simp(disch:=omega)only[go_sem,g1,v0];refine Ae.monoR (Bp G _ He) ?_;simp(disch:=omega)only[go_sem,g1,v0];refine Ae.monoR (Bp G _ Bt) ?_;simp(disch:=omega)only[go_sem,g1,v0,Af,Ap,Ar,Au,Bf,Bg,Bh,jA,jB,jE,jJ,jL,jI,jG,jH,jM,jR];intro pz hpz;dsimp only at hpz;try simp(disch:=omega)only[go_sem,g1,v0]
   refine Ae.monoR (Cw G H1 [[Az He],[Az Bt]] hpz rfl (by simp) (by simp)) ?_;simp(disch:=omega)only[go_sem,g1,v0,Af,Ap,Ar,Au,Bf,Bg,Bh,jA,jB,jE,jJ,jL,jI,jG,jH,jM,jR];intro qz hqz;dsimp only at hqz;have hvqz:=hv.new hqz (some (.cells (Eg ⟨d,[Az He,Az Bt]⟩) 158));simp(disch:=omega)only[go_sem,g1,v0,Af,Ap,Ar,Au,Bf,Bg,Bh,jA,jB,jE,jJ,jL,jI,jG,jH,jM,jR];refine Df.append (m:=1) hvqz rfl (by omega) fun vqz Hqz haqz=> ?_;have gqz:=haqz.keep g2;simp(disch:=omega)only[go_sem,Af,Ap,Ar,Au,Bf,Bg,Bh,jA,jB,jE,jJ,jL,jI,jG,jH,jM,jR];refine Wj.refl ⟨_,rfl, ?_⟩;rw[hX,Jz,if_pos v0];have hf:ls1++([]++ [⟨d,[Aj He,Aj Bt]⟩])=ls1++ [⟨d,[Az He,Az Bt]⟩]:=by rw[Bv6,Oq];rfl
   rw[hf,Gp,jC];exact haqz.less hs
  ·simp(disch:=omega)only[go_sem,g1,v0];refine Ak (by kernel_rfl) pL28 (by kernel_rfl) ?_;simp(disch:=omega)only[go_sem,g1];refine Ae.monoR (Bp G _ Hy) ?_;simp(disch:=omega)only[go_sem,g1];refine Ae.monoR (Vp G _ t.var) ?_;simp(disch:=omega)only[go_sem,g1];refine Ae.monoR (Bp G _ wIs) ?_;simp(disch:=omega)only[go_sem,g1,Af,Ap,Ar,Au,Bf,Bg,Bh,jA,jB,jE,jJ,jL,jI,jG,jH,jM,jR];intro pc hpc;dsimp only at hpc;have npc:r2≠pc:=Am hpc g1;try simp(disch:=omega)only[go_sem,g1,npc]
   refine Ae.monoR (Cw G H1 [[Az Hy],[Dq t.var],[Az wIs]] hpc rfl (by simp) (by simp)) ?_;simp(disch:=omega)only[go_sem,g1,Af,Ap,Ar,Au,Bf,Bg,Bh,jA,jB,jE,jJ,jL,jI,jG,jH,jM,jR];intro qc hqc;dsimp only at hqc;have nqc:r2≠qc:=Am hqc g1;have hvqc:=hv.new hqc (some (.cells (Eg ⟨Fg (d+1),[Az Hy,Dq t.var,Az wIs]⟩) 158));simp(disch:=omega)only[go_sem,g1,nqc,Af,Ap,Ar,Au,Bf,Bg,Bh,jA,jB,jE,jJ,jL,jI,jG,jH,jM,jR];refine Df.append (m:=1) hvqc rfl (by omega) fun v2 H2 hv2'=> ?_;obtain⟨ls2,hls2⟩: ∃l,l=ls1++ [Ib d t.var]:=⟨_,rfl⟩;have hl2:ls2.length<=301:=by rw[hls2,jC,jQ];omega
   have hv2:Df K 158 2 ls2.length (ls2.flatMap Eg) v2 H2:=by rw[hls2,Gp,jC,Ib,Au6,Ey3];exact hv2'
   have gT2:=hv2.keep g2;simp(disch:=omega)only[go_sem,gT2];obtain⟨I,hI⟩: ∃I:Nat->(Nat->DVal)->Ab->Prop,∀k env heap,I k env heap↔(env 1=dI d/\env 2= .optr r2 0/\env 6=dI k/\k<=t.arms.length/\Df K 158 2 (ls2++(t.arms.take k).flatMap (Jf d)).length ((ls2++(t.arms.take k).flatMap (Jf d)).flatMap Eg) (env 5) heap):=⟨_,fun _ _ _=>Iff.rfl⟩;refine Dt1.run I (fun k=>t.arms.length-k) 0 ((hI _ _ _).2 ?_) ?_
   ·simp(disch:=omega)only[go_sem];(repeat' apply And.intro)<;>(try first | rfl | assumption | omega);rw[List.flatMap_nil,jH];exact hv2
   ·intro k env heap hi;obtain⟨e1,e2,e6,hk,hv⟩:=(hI _ _ _).1 hi;obtain⟨v,hve⟩: ∃v,v=env 5:=⟨_,rfl⟩;rw[<-hve] at hv;have gT:=hv.keep g2;have hfl:=Al Ci t.arms;by_cases hlt:k<t.arms.length
    ·have hlt':(k:Int)<(t.arms.length:Int):=by omega
     have hw1:IntKind.i64.wrap ((k:Int)+1)=((k+1:Nat):Int):=by rw[IntKind.wrap_i64];omega
     have mx:=List.getElem_mem hlt;have x0:=Ck Ci t.arms k hlt 0 (by decide);rw[Mt] at x0;have x0z:=x0;rw[Nat.add_zero] at x0z;have x1:=Ck Ci t.arms k hlt 1 (by decide);rw[Mu] at x1;have htk:(t.arms.take (k+1)).flatMap (Jf d)=(t.arms.take k).flatMap (Jf d)++Jf d t.arms[k]:=by rw[Hl hlt,List.flatMap_append];simp
     have hla:=Nt d (t.arms.take k) fun a ha=>hac a (List.mem_of_mem_take ha);rw[List.length_take] at hla;obtain⟨x,hx⟩: ∃x,x=t.arms[k]:=⟨_,rfl⟩;rw[<-hx] at x0 x0z x1 mx htk;obtain⟨a1,a2⟩:=har x mx;have a3:=hac x mx;have hck:=Po x.c;have fx:=f7.2 x mx;have fc:=fx.1.1;obtain⟨ls3,hls3⟩: ∃l,l=ls2++(t.arms.take k).flatMap (Jf d):=⟨_,rfl⟩;have hl3:ls3.length<=10000:=by rw[hls3,jC];omega
     rw[<-hls3] at hv;simp(disch:=omega)only[go_sem,e1,e2,e6,gT,Dm,hlt',hfl,jD,x0,x0z,x1];refine Ae.monoR (Xv G _ x.c (by omega)) ?_;simp(disch:=omega)only[go_sem,e1,e2,e6,<-hve];refine Ae.monoR (Bp G _ Ob) ?_;simp(disch:=omega)only[go_sem,e1,e2,e6,<-hve];refine Ae.monoR (Cz G _ Cc) ?_;simp(disch:=omega)only[go_sem,e1,e2,e6,<-hve,Af,Ap,Ar,Au,Bf,Bg,Bh,jA,jB,jE,jJ,jL,jI,jG,jH,jM,jR];intro pw hpw;dsimp only at hpw;try simp(disch:=omega)only[go_sem,e1,e2,e6,<-hve]
     refine Ae.monoR (Cw G heap [[Az Ob],(Ej x.c).1,[Bb Cc]] hpw rfl (by simp) (by simp;omega)) ?_;simp(disch:=omega)only[go_sem,e1,e2,e6,<-hve,Af,Ap,Ar,Au,Bf,Bg,Bh,jA,jB,jE,jJ,jL,jI,jG,jH,jM,jR];intro qw hqw;dsimp only at hqw;have hvqw:=hv.new hqw (some (.cells (Eg ⟨Fg (d+2),[[Az Ob],(Ej x.c).1,[Bb Cc]].flatten⟩) 158));simp(disch:=omega)only[go_sem,e1,e2,e6,<-hve,Af,Ap,Ar,Au,Bf,Bg,Bh,jA,jB,jE,jJ,jL,jI,jG,jH,jM,jR];refine Df.append (m:=1) hvqw rfl (by omega) fun vqw Hqw haqw=> ?_;have gqw:=haqw.keep g2;simp(disch:=omega)only[go_sem,e1,e2,e6,gqw,Dm,hlt',hfl,jD,x0,x0z,x1];refine Ae.monoR (Sy G _ x.comps (IntKind.i64.wrap (d+3)) a1 fx.2 (by omega)) ?_;obtain⟨cl,hcl⟩: ∃l,l=Hz x.comps (IntKind.i64.wrap (d+3)):=⟨_,rfl⟩;have hcl4:=Jx x.comps (IntKind.i64.wrap (d+3));rw[<-hcl] at hcl4⊢
     have hnl:=Al Jw cl;simp(disch:=omega)only[go_sem,e1,e2,e6,Vr,Te,hnl,jD];refine Df.append (m:=cl.length) haqw hnl (by omega) fun v9 H9 hv9=> ?_;simp(disch:=omega)only[go_sem,e1,e2,e6];refine⟨k+1,_,Ws.refl _,(hI _ _ _).2 ?_,by omega⟩;simp(disch:=omega)only[go_sem,e1,e2,e6,hw1];(repeat' apply And.intro)<;>(try first | rfl | assumption | omega);rw[htk,<-jO,<-hls3,Jf];have hf:ls3++(⟨Fg (d+2),Aj Ob::((Ej x.c).1++ [Aj Cc])⟩::Hz x.comps (Fg (d+3)))=(ls3++ [⟨Fg (d+2),[[Az Ob],(Ej x.c).1,[Bb Cc]].flatten⟩])++cl:=by rw[hcl,Dc7,Ag2];simp [Fg]
     rw[hf,jC,List.flatMap_append,jC,Gp];exact hv9
    ·have:k=t.arms.length:=by omega
     subst this;have hlt': ¬(t.arms.length:Int)<(t.arms.length:Int):=by omega
     rw[List.take_length] at hv;have hla:=Nt d t.arms hac;obtain⟨ls3,hls3⟩: ∃l,l=ls2++t.arms.flatMap (Jf d):=⟨_,rfl⟩;have hl3:ls3.length<=10000:=by rw[hls3,jC];omega
     rw[<-hls3] at hv;simp(disch:=omega)only[go_sem,e1,e2,e6,gT,Dm,hlt'];refine Ae.monoR (Bp G _ He) ?_;simp(disch:=omega)only[go_sem,e1,e2,e6,<-hve];refine Ae.monoR (Bp G _ Hy) ?_;simp(disch:=omega)only[go_sem,e1,e2,e6,<-hve];refine Ae.monoR (Cz G _ Ew) ?_;simp(disch:=omega)only[go_sem,e1,e2,e6,<-hve,Af,Ap,Ar,Au,Bf,Bg,Bh,jA,jB,jE,jJ,jL,jI,jG,jH,jM,jR];intro pe hpe;dsimp only at hpe;try simp(disch:=omega)only[go_sem,e1,e2,e6,<-hve]
     refine Ae.monoR (Cw G heap [[Az He],[Az Hy],[Bb Ew]] hpe rfl (by simp) (by simp)) ?_;simp(disch:=omega)only[go_sem,e1,e2,e6,<-hve,Af,Ap,Ar,Au,Bf,Bg,Bh,jA,jB,jE,jJ,jL,jI,jG,jH,jM,jR];intro qe hqe;dsimp only at hqe;have hvqe:=hv.new hqe (some (.cells (Eg ⟨Fg (d+1),[Az He,Az Hy,Bb Ew]⟩) 158));simp(disch:=omega)only[go_sem,e1,e2,e6,<-hve,Af,Ap,Ar,Au,Bf,Bg,Bh,jA,jB,jE,jJ,jL,jI,jG,jH,jM,jR];refine Df.append (m:=1) hvqe rfl (by omega) fun vqe Hqe haqe=> ?_;have gqe:=haqe.keep g2;simp(disch:=omega)only[go_sem,e1,e2,e6];refine Ae.monoR (Bp G _ He) ?_;simp(disch:=omega)only[go_sem,e1,e2];refine Ae.monoR (Bp G _ Bt) ?_;simp(disch:=omega)only[go_sem,e1,e2,Af,Ap,Ar,Au,Bf,Bg,Bh,jA,jB,jE,jJ,jL,jI,jG,jH,jM,jR];intro pz hpz;dsimp only at hpz;try simp(disch:=omega)only[go_sem,e1,e2]
     refine Ae.monoR (Cw G Hqe [[Az He],[Az Bt]] hpz rfl (by simp) (by simp)) ?_;simp(disch:=omega)only[go_sem,e1,e2,Af,Ap,Ar,Au,Bf,Bg,Bh,jA,jB,jE,jJ,jL,jI,jG,jH,jM,jR];intro qz hqz;dsimp only at hqz;have hvqz:=haqe.new hqz (some (.cells (Eg ⟨d,[Az He,Az Bt]⟩) 158));simp(disch:=omega)only[go_sem,e1,e2,Af,Ap,Ar,Au,Bf,Bg,Bh,jA,jB,jE,jJ,jL,jI,jG,jH,jM,jR];refine Df.append (m:=1) hvqz rfl (by omega) fun vqz Hqz haqz=> ?_;have gqz:=haqz.keep g2;simp(disch:=omega)only[go_sem,Af,Ap,Ar,Au,Bf,Bg,Bh,jA,jB,jE,jJ,jL,jI,jG,jH,jM,jR];refine Wj.refl ⟨_,rfl, ?_⟩;rw[hX,Jz,if_neg v0];have hf:ls1++((Ib d t.var::(t.arms.flatMap (Jf d)++ [⟨Fg (d+1),[Aj He,Aj Hy,Aj Ew]⟩]))++ [⟨d,[Aj He,Aj Bt]⟩])=(ls3++ [⟨Fg (d+1),[Az He,Az Hy,Bb Ew]⟩])++ [⟨d,[Az He,Az Bt]⟩]:=by rw[hls3,hls2,Bv6,Au6,Ag1,Oq];simp
     rw[hf,Gp,Gp,jC,jC];exact haqz.less hs
 ·have c0':(0:Int)<(t.comps.length:Int):=by omega
  have hc0: ¬t.comps.isEmpty=true:=by intro e;exact c0 (by rw[List.isEmpty_iff.1 e];rfl)
  have hcl1:=Jx t.comps (Fg (d+1));have hl1:ls1.length<=300:=by rw[hls1,Ip,if_neg hc0,jA];omega
  simp(disch:=omega)only[go_sem,Af,Ap,Ar,Au,Bf,Bg,Bh,jA,jB,jE,jJ,jL,jI,jG,jH,jM,jR,g2,nq,Cv,c0'];rw[<-hH1];obtain⟨v0',hv0'⟩: ∃v,v=DVal.oslice 2 q 0 1 1:=⟨_,rfl⟩;rw[<-hv0'] at hvq⊢
  clear hv0';refine Ae.monoR (Sy G _ t.comps (IntKind.i64.wrap (d+1)) hcm f5 (by omega)) ?_;obtain⟨cl,hcl⟩: ∃l,l=Hz t.comps (IntKind.i64.wrap (d+1)):=⟨_,rfl⟩;have hcl4:=Jx t.comps (IntKind.i64.wrap (d+1));rw[<-hcl] at hcl4⊢
  have hnl:=Al Jw cl;simp(disch:=omega)only[go_sem,Vr,Te,hnl,jD];refine Df.append (m:=cl.length) hvq hnl (by omega) fun v1 H5 hv5=> ?_;have hv:Df K 158 2 ls1.length (ls1.flatMap Eg) v1 H5:=by
   have hf:ls1= [⟨d,[Az Bt]⟩]++cl:=by rw[hls1,Ip,if_neg hc0,hcl,Oq];rfl
   rw[hf,List.flatMap_append,jC];exact hv5
  clear hls1 hvq g1 hH1;have g1:=hv.keep g2;simp(disch:=omega)only[go_sem,g1];by_cases v0:t.var= []
  ·simp(disch:=omega)only[go_sem,g1,v0];refine Ae.monoR (Bp G _ He) ?_;simp(disch:=omega)only[go_sem,g1,v0];refine Ae.monoR (Bp G _ Bt) ?_;simp(disch:=omega)only[go_sem,g1,v0,Af,Ap,Ar,Au,Bf,Bg,Bh,jA,jB,jE,jJ,jL,jI,jG,jH,jM,jR];intro pz hpz;dsimp only at hpz;try simp(disch:=omega)only[go_sem,g1,v0]
   refine Ae.monoR (Cw G H5 [[Az He],[Az Bt]] hpz rfl (by simp) (by simp)) ?_;simp(disch:=omega)only[go_sem,g1,v0,Af,Ap,Ar,Au,Bf,Bg,Bh,jA,jB,jE,jJ,jL,jI,jG,jH,jM,jR];intro qz hqz;dsimp only at hqz;have hvqz:=hv.new hqz (some (.cells (Eg ⟨d,[Az He,Az Bt]⟩) 158));simp(disch:=omega)only[go_sem,g1,v0,Af,Ap,Ar,Au,Bf,Bg,Bh,jA,jB,jE,jJ,jL,jI,jG,jH,jM,jR];refine Df.append (m:=1) hvqz rfl (by omega) fun vqz Hqz haqz=> ?_;have gqz:=haqz.keep g2;simp(disch:=omega)only[go_sem,Af,Ap,Ar,Au,Bf,Bg,Bh,jA,jB,jE,jJ,jL,jI,jG,jH,jM,jR];refine Wj.refl ⟨_,rfl, ?_⟩;rw[hX,Jz,if_pos v0];have hf:ls1++([]++ [⟨d,[Aj He,Aj Bt]⟩])=ls1++ [⟨d,[Az He,Az Bt]⟩]:=by rw[Bv6,Oq];rfl
   rw[hf,Gp,jC];exact haqz.less hs
  ·simp(disch:=omega)only[go_sem,g1,v0];refine Ak (by kernel_rfl) pL28 (by kernel_rfl) ?_;simp(disch:=omega)only[go_sem,g1];refine Ae.monoR (Bp G _ Hy) ?_;simp(disch:=omega)only[go_sem,g1];refine Ae.monoR (Vp G _ t.var) ?_;simp(disch:=omega)only[go_sem,g1];refine Ae.monoR (Bp G _ wIs) ?_;simp(disch:=omega)only[go_sem,g1,Af,Ap,Ar,Au,Bf,Bg,Bh,jA,jB,jE,jJ,jL,jI,jG,jH,jM,jR];intro pc hpc;dsimp only at hpc;have npc:r2≠pc:=Am hpc g1;try simp(disch:=omega)only[go_sem,g1,npc]
   refine Ae.monoR (Cw G H5 [[Az Hy],[Dq t.var],[Az wIs]] hpc rfl (by simp) (by simp)) ?_;simp(disch:=omega)only[go_sem,g1,Af,Ap,Ar,Au,Bf,Bg,Bh,jA,jB,jE,jJ,jL,jI,jG,jH,jM,jR];intro qc hqc;dsimp only at hqc;have nqc:r2≠qc:=Am hqc g1;have hvqc:=hv.new hqc (some (.cells (Eg ⟨Fg (d+1),[Az Hy,Dq t.var,Az wIs]⟩) 158));simp(disch:=omega)only[go_sem,g1,nqc,Af,Ap,Ar,Au,Bf,Bg,Bh,jA,jB,jE,jJ,jL,jI,jG,jH,jM,jR];refine Df.append (m:=1) hvqc rfl (by omega) fun v2 H2 hv2'=> ?_;obtain⟨ls2,hls2⟩: ∃l,l=ls1++ [Ib d t.var]:=⟨_,rfl⟩;have hl2:ls2.length<=301:=by rw[hls2,jC,jQ];omega
   have hv2:Df K 158 2 ls2.length (ls2.flatMap Eg) v2 H2:=by rw[hls2,Gp,jC,Ib,Au6,Ey3];exact hv2'
   have gT2:=hv2.keep g2;simp(disch:=omega)only[go_sem,gT2];obtain⟨I,hI⟩: ∃I:Nat->(Nat->DVal)->Ab->Prop,∀k env heap,I k env heap↔(env 1=dI d/\env 2= .optr r2 0/\env 6=dI k/\k<=t.arms.length/\Df K 158 2 (ls2++(t.arms.take k).flatMap (Jf d)).length ((ls2++(t.arms.take k).flatMap (Jf d)).flatMap Eg) (env 5) heap):=⟨_,fun _ _ _=>Iff.rfl⟩;refine Dt1.run I (fun k=>t.arms.length-k) 0 ((hI _ _ _).2 ?_) ?_
   ·simp(disch:=omega)only[go_sem];(repeat' apply And.intro)<;>(try first | rfl | assumption | omega);rw[List.flatMap_nil,jH];exact hv2
   ·intro k env heap hi;obtain⟨e1,e2,e6,hk,hv⟩:=(hI _ _ _).1 hi;obtain⟨v,hve⟩: ∃v,v=env 5:=⟨_,rfl⟩;rw[<-hve] at hv;have gT:=hv.keep g2;have hfl:=Al Ci t.arms;by_cases hlt:k<t.arms.length
    ·have hlt':(k:Int)<(t.arms.length:Int):=by omega
     have hw1:IntKind.i64.wrap ((k:Int)+1)=((k+1:Nat):Int):=by rw[IntKind.wrap_i64];omega
     have mx:=List.getElem_mem hlt;have x0:=Ck Ci t.arms k hlt 0 (by decide);rw[Mt] at x0;have x0z:=x0;rw[Nat.add_zero] at x0z;have x1:=Ck Ci t.arms k hlt 1 (by decide);rw[Mu] at x1;have htk:(t.arms.take (k+1)).flatMap (Jf d)=(t.arms.take k).flatMap (Jf d)++Jf d t.arms[k]:=by rw[Hl hlt,List.flatMap_append];simp
     have hla:=Nt d (t.arms.take k) fun a ha=>hac a (List.mem_of_mem_take ha);rw[List.length_take] at hla;obtain⟨x,hx⟩: ∃x,x=t.arms[k]:=⟨_,rfl⟩;rw[<-hx] at x0 x0z x1 mx htk;obtain⟨a1,a2⟩:=har x mx;have a3:=hac x mx;have hck:=Po x.c;have fx:=f7.2 x mx;have fc:=fx.1.1;obtain⟨ls3,hls3⟩: ∃l,l=ls2++(t.arms.take k).flatMap (Jf d):=⟨_,rfl⟩;have hl3:ls3.length<=10000:=by rw[hls3,jC];omega
     rw[<-hls3] at hv;simp(disch:=omega)only[go_sem,e1,e2,e6,gT,Dm,hlt',hfl,jD,x0,x0z,x1];refine Ae.monoR (Xv G _ x.c (by omega)) ?_;simp(disch:=omega)only[go_sem,e1,e2,e6,<-hve];refine Ae.monoR (Bp G _ Ob) ?_;simp(disch:=omega)only[go_sem,e1,e2,e6,<-hve];refine Ae.monoR (Cz G _ Cc) ?_;simp(disch:=omega)only[go_sem,e1,e2,e6,<-hve,Af,Ap,Ar,Au,Bf,Bg,Bh,jA,jB,jE,jJ,jL,jI,jG,jH,jM,jR];intro pw hpw;dsimp only at hpw;try simp(disch:=omega)only[go_sem,e1,e2,e6,<-hve]
     refine Ae.monoR (Cw G heap [[Az Ob],(Ej x.c).1,[Bb Cc]] hpw rfl (by simp) (by simp;omega)) ?_;simp(disch:=omega)only[go_sem,e1,e2,e6,<-hve,Af,Ap,Ar,Au,Bf,Bg,Bh,jA,jB,jE,jJ,jL,jI,jG,jH,jM,jR];intro qw hqw;dsimp only at hqw;have hvqw:=hv.new hqw (some (.cells (Eg ⟨Fg (d+2),[[Az Ob],(Ej x.c).1,[Bb Cc]].flatten⟩) 158));simp(disch:=omega)only[go_sem,e1,e2,e6,<-hve,Af,Ap,Ar,Au,Bf,Bg,Bh,jA,jB,jE,jJ,jL,jI,jG,jH,jM,jR];refine Df.append (m:=1) hvqw rfl (by omega) fun vqw Hqw haqw=> ?_;have gqw:=haqw.keep g2;simp(disch:=omega)only[go_sem,e1,e2,e6,gqw,Dm,hlt',hfl,jD,x0,x0z,x1];refine Ae.monoR (Sy G _ x.comps (IntKind.i64.wrap (d+3)) a1 fx.2 (by omega)) ?_;obtain⟨cl,hcl⟩: ∃l,l=Hz x.comps (IntKind.i64.wrap (d+3)):=⟨_,rfl⟩;have hcl4:=Jx x.comps (IntKind.i64.wrap (d+3));rw[<-hcl] at hcl4⊢
     have hnl:=Al Jw cl;simp(disch:=omega)only[go_sem,e1,e2,e6,Vr,Te,hnl,jD];refine Df.append (m:=cl.length) haqw hnl (by omega) fun v9 H9 hv9=> ?_;simp(disch:=omega)only[go_sem,e1,e2,e6];refine⟨k+1,_,Ws.refl _,(hI _ _ _).2 ?_,by omega⟩;simp(disch:=omega)only[go_sem,e1,e2,e6,hw1];(repeat' apply And.intro)<;>(try first | rfl | assumption | omega);rw[htk,<-jO,<-hls3,Jf];have hf:ls3++(⟨Fg (d+2),Aj Ob::((Ej x.c).1++ [Aj Cc])⟩::Hz x.comps (Fg (d+3)))=(ls3++ [⟨Fg (d+2),[[Az Ob],(Ej x.c).1,[Bb Cc]].flatten⟩])++cl:=by rw[hcl,Dc7,Ag2];simp [Fg]
     rw[hf,jC,List.flatMap_append,jC,Gp];exact hv9
    ·have:k=t.arms.length:=by omega
     subst this;have hlt': ¬(t.arms.length:Int)<(t.arms.length:Int):=by omega
     rw[List.take_length] at hv;have hla:=Nt d t.arms hac;obtain⟨ls3,hls3⟩: ∃l,l=ls2++t.arms.flatMap (Jf d):=⟨_,rfl⟩;have hl3:ls3.length<=10000:=by rw[hls3,jC];omega
     rw[<-hls3] at hv;simp(disch:=omega)only[go_sem,e1,e2,e6,gT,Dm,hlt'];refine Ae.monoR (Bp G _ He) ?_;simp(disch:=omega)only[go_sem,e1,e2,e6,<-hve];refine Ae.monoR (Bp G _ Hy) ?_;simp(disch:=omega)only[go_sem,e1,e2,e6,<-hve];refine Ae.monoR (Cz G _ Ew) ?_;simp(disch:=omega)only[go_sem,e1,e2,e6,<-hve,Af,Ap,Ar,Au,Bf,Bg,Bh,jA,jB,jE,jJ,jL,jI,jG,jH,jM,jR];intro pe hpe;dsimp only at hpe;try simp(disch:=omega)only[go_sem,e1,e2,e6,<-hve]
     refine Ae.monoR (Cw G heap [[Az He],[Az Hy],[Bb Ew]] hpe rfl (by simp) (by simp)) ?_;simp(disch:=omega)only[go_sem,e1,e2,e6,<-hve,Af,Ap,Ar,Au,Bf,Bg,Bh,jA,jB,jE,jJ,jL,jI,jG,jH,jM,jR];intro qe hqe;dsimp only at hqe;have hvqe:=hv.new hqe (some (.cells (Eg ⟨Fg (d+1),[Az He,Az Hy,Bb Ew]⟩) 158));simp(disch:=omega)only[go_sem,e1,e2,e6,<-hve,Af,Ap,Ar,Au,Bf,Bg,Bh,jA,jB,jE,jJ,jL,jI,jG,jH,jM,jR];refine Df.append (m:=1) hvqe rfl (by omega) fun vqe Hqe haqe=> ?_;have gqe:=haqe.keep g2;simp(disch:=omega)only[go_sem,e1,e2,e6];refine Ae.monoR (Bp G _ He) ?_;simp(disch:=omega)only[go_sem,e1,e2];refine Ae.monoR (Bp G _ Bt) ?_;simp(disch:=omega)only[go_sem,e1,e2,Af,Ap,Ar,Au,Bf,Bg,Bh,jA,jB,jE,jJ,jL,jI,jG,jH,jM,jR];intro pz hpz;dsimp only at hpz;try simp(disch:=omega)only[go_sem,e1,e2]
     refine Ae.monoR (Cw G Hqe [[Az He],[Az Bt]] hpz rfl (by simp) (by simp)) ?_;simp(disch:=omega)only[go_sem,e1,e2,Af,Ap,Ar,Au,Bf,Bg,Bh,jA,jB,jE,jJ,jL,jI,jG,jH,jM,jR];intro qz hqz;dsimp only at hqz;have hvqz:=haqe.new hqz (some (.cells (Eg ⟨d,[Az He,Az Bt]⟩) 158));simp(disch:=omega)only[go_sem,e1,e2,Af,Ap,Ar,Au,Bf,Bg,Bh,jA,jB,jE,jJ,jL,jI,jG,jH,jM,jR];refine Df.append (m:=1) hvqz rfl (by omega) fun vqz Hqz haqz=> ?_;have gqz:=haqz.keep g2;simp(disch:=omega)only[go_sem,Af,Ap,Ar,Au,Bf,Bg,Bh,jA,jB,jE,jJ,jL,jI,jG,jH,jM,jR];refine Wj.refl ⟨_,rfl, ?_⟩;rw[hX,Jz,if_neg v0];have hf:ls1++((Ib d t.var::(t.arms.flatMap (Jf d)++ [⟨Fg (d+1),[Aj He,Aj Hy,Aj Ew]⟩]))++ [⟨d,[Aj He,Aj Bt]⟩])=(ls3++ [⟨Fg (d+1),[Az He,Az Hy,Bb Ew]⟩])++ [⟨d,[Az He,Az Bt]⟩]:=by rw[hls3,hls2,Bv6,Au6,Ag1,Oq];simp
     rw[hf,Gp,Gp,jC,jC];exact haqz.less hs
set_option maxHeartbeats 40000000 in
theorem Cv4 (t:Typ) (d:Int) (hm:Jr t=true) (ht:Np 1048576 t) (hc40:t.kind=5->t.comps.length<=40) (hac:t.kind=5-> ∀a∈t.arms,a.comps.length<=40):Ae Tryz.prog G 179 [.agg (Dp t),dI d] H (Ba (Bv8 (Gg t d)) H):=by
 have ht':=ht;obtain⟨f0,f1,f2,f3,f4,f5,f6,f7⟩:=ht;obtain⟨k1,k2,k3,k6,k4,k5,hkk⟩:=Au7 hm;refine Aa Tryz.func179 Tryz.call179 rfl (by kernel_rfl) ?_;simp(disch:=omega)only[go_sem,DVal.cells];intro r2 hr2;dsimp only at hr2;obtain⟨K,hK⟩: ∃K',K'=upd H r2 (some (.cells (Dp t) 62)):=⟨_,rfl⟩;rw[<-hK];have g2:K r2=some (.cells (Dp t) 62):=by rw[hK];exact Ac _ _ _
 have hs:Sub H K:=by rw[hK];exact(Sub.refl H).new hr2 _
 clear hK;rcases hkk with hk | hk | hk | hk | hk | hk | hk
 ·have hnl:=Iy (k1 hk);have hR:Gg t d= [⟨d,[[Bb By],Bv t.names,[Bb Cb]].flatten⟩]:=by rw[Gg,if_pos hk,Sw,Sx];simp
  simp(disch:=omega)only[go_sem,g2,hk];refine Ak (by kernel_rfl) pL60 (by kernel_rfl) ?_;simp(disch:=omega)only[go_sem,g2];refine Ae.monoR (Cz G K By) ?_;try simp(disch:=omega)only[go_sem,g2]
  refine Ae.monoR (Ko G K t.names (by omega)) ?_;try simp(disch:=omega)only[go_sem,g2]
  refine Ae.monoR (Cz G K Cb) ?_;try simp(disch:=omega)only[go_sem,g2]
  intro q3 hq3;dsimp only at hq3;have nq3:r2≠q3:=Am hq3 g2;try simp(disch:=omega)only[go_sem,g2,nq3,Af,Ap,Ar,Au,Bf,Bg,Bh,jA,jB,jE,jJ,jL,jI,jG,jH]
  have hj:([[Bb By],Bv t.names,[Bb Cb]]:List (List Tok)).flatten.length<=100000000:=by simp;omega
  refine Ae.monoR (Cw G K [[Bb By],Bv t.names,[Bb Cb]] hq3 rfl (by simp) hj) ?_;try simp(disch:=omega)only[go_sem,g2]
  simp(disch:=omega)only[go_sem,g2,Af,Ap,Ar,Au,Bf,Bg,Bh,jA,jB,jE,jJ,jL,jI,jG,jH,jM,jR];intro qz hqz;dsimp only at hqz;simp(disch:=omega)only[go_sem,Af,Ap,Ar,Au,Bf,Bg,Bh,jA,jB,jE,jJ,jL,jI,jG,jH,jM,jR];have hz:Df K 158 2 1 (Eg ⟨d,[[Bb By],Bv t.names,[Bb Cb]].flatten⟩) (.oslice 2 qz 0 1 1) (upd K qz (some (.cells (Eg ⟨d,[[Bb By],Bv t.names,[Bb Cb]].flatten⟩) 158))):= .inr ⟨qz,hqz,rfl,rfl,Ac _ _ _,(Sub.refl K).new hqz _⟩;exact(hz.less hs).fin ⟨by rw[hR];rfl,rfl⟩
 ·obtain⟨ml,mh⟩:=k2 hk;have hbl:=Oo ml mh;have hR:Gg t d= [⟨d,[[Az Gy],Eu t.lo t.hi].flatten⟩]:=by rw[Gg,if_neg (by omega),if_pos hk,Bb8];simp
  simp(disch:=omega)only[go_sem,g2,hk];refine Ak (by kernel_rfl) pL57 (by kernel_rfl) ?_;simp(disch:=omega)only[go_sem,g2];refine Ae.monoR (Bp G K Gy) ?_;try simp(disch:=omega)only[go_sem,g2]
  refine Ae.monoR (Ql G K t.lo t.hi ml mh) ?_;try simp(disch:=omega)only[go_sem,g2]
  intro q3 hq3;dsimp only at hq3;have nq3:r2≠q3:=Am hq3 g2;try simp(disch:=omega)only[go_sem,g2,nq3,Af,Ap,Ar,Au,Bf,Bg,Bh,jA,jB,jE,jJ,jL,jI,jG,jH]
  have hj:([[Az Gy],Eu t.lo t.hi]:List (List Tok)).flatten.length<=100000000:=by simp;omega
  refine Ae.monoR (Cw G K [[Az Gy],Eu t.lo t.hi] hq3 rfl (by simp) hj) ?_;try simp(disch:=omega)only[go_sem,g2]
  simp(disch:=omega)only[go_sem,g2,Af,Ap,Ar,Au,Bf,Bg,Bh,jA,jB,jE,jJ,jL,jI,jG,jH,jM,jR];intro qz hqz;dsimp only at hqz;simp(disch:=omega)only[go_sem,Af,Ap,Ar,Au,Bf,Bg,Bh,jA,jB,jE,jJ,jL,jI,jG,jH,jM,jR];have hz:Df K 158 2 1 (Eg ⟨d,[[Az Gy],Eu t.lo t.hi].flatten⟩) (.oslice 2 qz 0 1 1) (upd K qz (some (.cells (Eg ⟨d,[[Az Gy],Eu t.lo t.hi].flatten⟩) 158))):= .inr ⟨qz,hqz,rfl,rfl,Ac _ _ _,(Sub.refl K).new hqz _⟩;exact(hz.less hs).fin ⟨by rw[hR];rfl,rfl⟩
 ·have mi:=k3 hk;have hil:=Js mi;have hR:Gg t d= [⟨d,[[Az As7],Im t.sub].flatten⟩]:=by rw[Gg,if_neg (by omega),if_neg (by omega),if_pos hk,Fi9];simp
  simp(disch:=omega)only[go_sem,g2,hk];refine Ak (by kernel_rfl) pL44 (by kernel_rfl) ?_;simp(disch:=omega)only[go_sem,g2];refine Ae.monoR (Bp G K As7) ?_;try simp(disch:=omega)only[go_sem,g2]
  refine Ae.monoR (Pp G K t.sub mi f3) ?_;try simp(disch:=omega)only[go_sem,g2]
  intro q3 hq3;dsimp only at hq3;have nq3:r2≠q3:=Am hq3 g2;try simp(disch:=omega)only[go_sem,g2,nq3,Af,Ap,Ar,Au,Bf,Bg,Bh,jA,jB,jE,jJ,jL,jI,jG,jH]
  have hj:([[Az As7],Im t.sub]:List (List Tok)).flatten.length<=100000000:=by simp;omega
  refine Ae.monoR (Cw G K [[Az As7],Im t.sub] hq3 rfl (by simp) hj) ?_;try simp(disch:=omega)only[go_sem,g2]
  simp(disch:=omega)only[go_sem,g2,Af,Ap,Ar,Au,Bf,Bg,Bh,jA,jB,jE,jJ,jL,jI,jG,jH,jM,jR];intro qz hqz;dsimp only at hqz;simp(disch:=omega)only[go_sem,Af,Ap,Ar,Au,Bf,Bg,Bh,jA,jB,jE,jJ,jL,jI,jG,jH,jM,jR];have hz:Df K 158 2 1 (Eg ⟨d,[[Az As7],Im t.sub].flatten⟩) (.oslice 2 qz 0 1 1) (upd K qz (some (.cells (Eg ⟨d,[[Az As7],Im t.sub].flatten⟩) 158))):= .inr ⟨qz,hqz,rfl,rfl,Ac _ _ _,(Sub.refl K).new hqz _⟩;exact(hz.less hs).fin ⟨by rw[hR];rfl,rfl⟩
 ·obtain⟨mi,md⟩:=k4 hk;have hil:=Js mi;have hdl:=Ys md;have hR:Gg t d= [⟨d,[[Az Ps],[Bb By],Pt t.disc,[Bb Cb],[Az wOf],Im t.sub].flatten⟩]:=by rw[Gg,if_neg (by omega),if_neg (by omega),if_neg (by omega),if_pos hk,Ef4,Sw,Sx,Fq5];simp
  simp(disch:=omega)only[go_sem,g2,hk];refine Ak (by kernel_rfl) pL45 (by kernel_rfl) ?_;simp(disch:=omega)only[go_sem,g2];refine Ae.monoR (Bp G K Ps) ?_;try simp(disch:=omega)only[go_sem,g2]
  refine Ae.monoR (Cz G K By) ?_;try simp(disch:=omega)only[go_sem,g2]
  refine Ae.monoR (Bc0 G K t.disc md f4) ?_;try simp(disch:=omega)only[go_sem,g2]
  refine Ae.monoR (Cz G K Cb) ?_;try simp(disch:=omega)only[go_sem,g2]
  refine Ae.monoR (Bp G K wOf) ?_;try simp(disch:=omega)only[go_sem,g2]
  refine Ae.monoR (Pp G K t.sub mi f3) ?_;try simp(disch:=omega)only[go_sem,g2]
  intro q3 hq3;dsimp only at hq3;have nq3:r2≠q3:=Am hq3 g2;try simp(disch:=omega)only[go_sem,g2,nq3,Af,Ap,Ar,Au,Bf,Bg,Bh,jA,jB,jE,jJ,jL,jI,jG,jH,jM,jR]
  have hj:([[Az Ps],[Bb By],Pt t.disc,[Bb Cb],[Az wOf],Im t.sub]:List (List Tok)).flatten.length<=100000000:=by simp;omega
  refine Ae.monoR (Cw G K [[Az Ps],[Bb By],Pt t.disc,[Bb Cb],[Az wOf],Im t.sub] hq3 rfl (by simp) hj) ?_;try simp(disch:=omega)only[go_sem,g2]
  simp(disch:=omega)only[go_sem,g2,Af,Ap,Ar,Au,Bf,Bg,Bh,jA,jB,jE,jJ,jL,jI,jG,jH,jM,jR];intro qz hqz;dsimp only at hqz;simp(disch:=omega)only[go_sem,Af,Ap,Ar,Au,Bf,Bg,Bh,jA,jB,jE,jJ,jL,jI,jG,jH,jM,jR];have hz:Df K 158 2 1 (Eg ⟨d,[[Az Ps],[Bb By],Pt t.disc,[Bb Cb],[Az wOf],Im t.sub].flatten⟩) (.oslice 2 qz 0 1 1) (upd K qz (some (.cells (Eg ⟨d,[[Az Ps],[Bb By],Pt t.disc,[Bb Cb],[Az wOf],Im t.sub].flatten⟩) 158))):= .inr ⟨qz,hqz,rfl,rfl,Ac _ _ _,(Sub.refl K).new hqz _⟩;exact(hz.less hs).fin ⟨by rw[hR];rfl,rfl⟩
 ·have hr:=k5 hk;by_cases c0:t.comps.length=0
  ·have c0': ¬(0:Int)<(t.comps.length:Int):=by omega
   have hc0:t.comps= []:=List.length_eq_zero_iff.1 c0;by_cases v0:t.var= []
   ·have hR:Gg t d= [⟨d,[[Az Hu],[Az Bt]].flatten⟩]:=by rw[Gg,if_neg (by omega),if_neg (by omega),if_neg (by omega),if_neg (by omega),if_neg (by omega),if_neg (by omega),if_pos (by simp [hc0,v0]),Bv2,Oq];rfl
    simp(disch:=omega)only[go_sem,g2,hk];refine Ae.monoR (Bp G K Hu) ?_;try simp(disch:=omega)only[go_sem,g2]
    refine Ae.monoR (Bp G K Bt) ?_;try simp(disch:=omega)only[go_sem,g2,Af,Ap,Ar,Au,Bf,Bg,Bh,jA,jB,jE,jJ,jL,jI,jG,jH,jM,jR]
    intro q3 hq3;dsimp only at hq3;have nq3:r2≠q3:=Am hq3 g2;try simp(disch:=omega)only[go_sem,g2,nq3,Af,Ap,Ar,Au,Bf,Bg,Bh,jA,jB,jE,jJ,jL,jI,jG,jH]
    refine Ae.monoR (Cw G K [[Az Hu],[Az Bt]] hq3 rfl (by simp) (by simp)) ?_;try simp(disch:=omega)only[go_sem,g2]
    simp(disch:=omega)only[go_sem,g2,Cv,c0',v0];simp(disch:=omega)only[go_sem,g2,Af,Ap,Ar,Au,Bf,Bg,Bh,jA,jB,jE,jJ,jL,jI,jG,jH,jM,jR];intro qz hqz;dsimp only at hqz;simp(disch:=omega)only[go_sem,Af,Ap,Ar,Au,Bf,Bg,Bh,jA,jB,jE,jJ,jL,jI,jG,jH,jM,jR];have hz:Df K 158 2 1 (Eg ⟨d,[[Az Hu],[Az Bt]].flatten⟩) (.oslice 2 qz 0 1 1) (upd K qz (some (.cells (Eg ⟨d,[[Az Hu],[Az Bt]].flatten⟩) 158))):= .inr ⟨qz,hqz,rfl,rfl,Ac _ _ _,(Sub.refl K).new hqz _⟩;exact(hz.less hs).fin ⟨by rw[hR];rfl,rfl⟩
   ·have hR:Gg t d=Xo t d:=by rw[Gg,if_neg (by omega),if_neg (by omega),if_neg (by omega),if_neg (by omega),if_neg (by omega),if_neg (by omega),if_neg (by simp [v0])]
    simp(disch:=omega)only[go_sem,g2,hk];refine Ae.monoR (Bp G K Hu) ?_;try simp(disch:=omega)only[go_sem,g2]
    refine Ae.monoR (Bp G K Bt) ?_;try simp(disch:=omega)only[go_sem,g2,Af,Ap,Ar,Au,Bf,Bg,Bh,jA,jB,jE,jJ,jL,jI,jG,jH,jM,jR]
    intro q3 hq3;dsimp only at hq3;have nq3:r2≠q3:=Am hq3 g2;try simp(disch:=omega)only[go_sem,g2,nq3,Af,Ap,Ar,Au,Bf,Bg,Bh,jA,jB,jE,jJ,jL,jI,jG,jH]
    refine Ae.monoR (Cw G K [[Az Hu],[Az Bt]] hq3 rfl (by simp) (by simp)) ?_;try simp(disch:=omega)only[go_sem,g2]
    simp(disch:=omega)only[go_sem,g2,Cv,c0',v0];refine Ae.monoR (Ze G K t d hr ht' (hc40 hk) (hac hk)) ?_;try simp(disch:=omega)only[go_sem,g2]
    exact Wj.sub hs (.refl ⟨by rw[hR],rfl⟩)
  ·have c0':(0:Int)<(t.comps.length:Int):=by omega
   have hc0: ¬t.comps.isEmpty=true:=by intro e;exact c0 (by rw[List.isEmpty_iff.1 e];rfl)
   have hR:Gg t d=Xo t d:=by rw[Gg,if_neg (by omega),if_neg (by omega),if_neg (by omega),if_neg (by omega),if_neg (by omega),if_neg (by omega),if_neg (by simp [hc0])]
   simp(disch:=omega)only[go_sem,g2,hk];refine Ae.monoR (Bp G K Hu) ?_;try simp(disch:=omega)only[go_sem,g2]
   refine Ae.monoR (Bp G K Bt) ?_;try simp(disch:=omega)only[go_sem,g2,Af,Ap,Ar,Au,Bf,Bg,Bh,jA,jB,jE,jJ,jL,jI,jG,jH,jM,jR]
   intro q3 hq3;dsimp only at hq3;have nq3:r2≠q3:=Am hq3 g2;try simp(disch:=omega)only[go_sem,g2,nq3,Af,Ap,Ar,Au,Bf,Bg,Bh,jA,jB,jE,jJ,jL,jI,jG,jH]
   refine Ae.monoR (Cw G K [[Az Hu],[Az Bt]] hq3 rfl (by simp) (by simp)) ?_;try simp(disch:=omega)only[go_sem,g2]
   simp(disch:=omega)only[go_sem,g2,Cv,c0'];refine Ae.monoR (Ze G K t d hr ht' (hc40 hk) (hac hk)) ?_;try simp(disch:=omega)only[go_sem,g2]
   exact Wj.sub hs (.refl ⟨by rw[hR],rfl⟩)
 ·have mi:=k6 hk;have hil:=Js mi;have hR:Gg t d= [⟨d,[[Az Lv],Im t.sub].flatten⟩]:=by rw[Gg,if_neg (by omega),if_neg (by omega),if_neg (by omega),if_neg (by omega),if_pos hk,Dp5];simp
  simp(disch:=omega)only[go_sem,g2,hk];refine Ak (by kernel_rfl) pL44 (by kernel_rfl) ?_;simp(disch:=omega)only[go_sem,g2];refine Ae.monoR (Bp G K Lv) ?_;try simp(disch:=omega)only[go_sem,g2]
  refine Ae.monoR (Pp G K t.sub mi f3) ?_;try simp(disch:=omega)only[go_sem,g2]
  intro q3 hq3;dsimp only at hq3;have nq3:r2≠q3:=Am hq3 g2;try simp(disch:=omega)only[go_sem,g2,nq3,Af,Ap,Ar,Au,Bf,Bg,Bh,jA,jB,jE,jJ,jL,jI,jG,jH]
  have hj:([[Az Lv],Im t.sub]:List (List Tok)).flatten.length<=100000000:=by simp;omega
  refine Ae.monoR (Cw G K [[Az Lv],Im t.sub] hq3 rfl (by simp) hj) ?_;try simp(disch:=omega)only[go_sem,g2]
  simp(disch:=omega)only[go_sem,g2,Af,Ap,Ar,Au,Bf,Bg,Bh,jA,jB,jE,jJ,jL,jI,jG,jH,jM,jR];intro qz hqz;dsimp only at hqz;simp(disch:=omega)only[go_sem,Af,Ap,Ar,Au,Bf,Bg,Bh,jA,jB,jE,jJ,jL,jI,jG,jH,jM,jR];have hz:Df K 158 2 1 (Eg ⟨d,[[Az Lv],Im t.sub].flatten⟩) (.oslice 2 qz 0 1 1) (upd K qz (some (.cells (Eg ⟨d,[[Az Lv],Im t.sub].flatten⟩) 158))):= .inr ⟨qz,hqz,rfl,rfl,Ac _ _ _,(Sub.refl K).new hqz _⟩;exact(hz.less hs).fin ⟨by rw[hR];rfl,rfl⟩
 ·simp(disch:=omega)only[go_sem,g2,hk];refine Ae.monoR (Bp G K Gf) ?_;try simp(disch:=omega)only[go_sem,g2]
  cases hl:t.limited
  ·have hR:Gg t d= [⟨d,[Az Gf]⟩]:=by rw[Gg,if_neg (by omega),if_neg (by omega),if_neg (by omega),if_neg (by omega),if_neg (by omega),if_pos hk,hl,Bb9];rfl
   try simp(disch:=omega)only[go_sem,g2,hl]
   simp(disch:=omega)only[go_sem,g2,Af,Ap,Ar,Au,Bf,Bg,Bh,jA,jB,jE,jJ,jL,jI,jG,jH,jM,jR];intro qz hqz;dsimp only at hqz;simp(disch:=omega)only[go_sem,Af,Ap,Ar,Au,Bf,Bg,Bh,jA,jB,jE,jJ,jL,jI,jG,jH,jM,jR];have hz:Df K 158 2 1 (Eg ⟨d,[Az Gf]⟩) (.oslice 2 qz 0 1 1) (upd K qz (some (.cells (Eg ⟨d,[Az Gf]⟩) 158))):= .inr ⟨qz,hqz,rfl,rfl,Ac _ _ _,(Sub.refl K).new hqz _⟩;exact(hz.less hs).fin ⟨by rw[hR];rfl,rfl⟩
  ·have hR:Gg t d= [⟨d,[[Az Km],[Az Gf]].flatten⟩]:=by rw[Gg,if_neg (by omega),if_neg (by omega),if_neg (by omega),if_neg (by omega),if_neg (by omega),if_pos hk,hl,Bb9,Cv1];rfl
   try simp(disch:=omega)only[go_sem,g2,hl]
   refine Ae.monoR (Bp G K Km) ?_;try simp(disch:=omega)only[go_sem,g2]
   refine Ae.monoR (Bp G K Gf) ?_;try simp(disch:=omega)only[go_sem,g2,Af,Ap,Ar,Au,Bf,Bg,Bh,jA,jB,jE,jJ,jL,jI,jG,jH,jM,jR]
   intro q3 hq3;dsimp only at hq3;have nq3:r2≠q3:=Am hq3 g2;try simp(disch:=omega)only[go_sem,g2,nq3,Af,Ap,Ar,Au,Bf,Bg,Bh,jA,jB,jE,jJ,jL,jI,jG,jH]
   refine Ae.monoR (Cw G K [[Az Km],[Az Gf]] hq3 rfl (by simp) (by simp)) ?_;try simp(disch:=omega)only[go_sem,g2]
   simp(disch:=omega)only[go_sem,g2,Af,Ap,Ar,Au,Bf,Bg,Bh,jA,jB,jE,jJ,jL,jI,jG,jH,jM,jR];intro qz hqz;dsimp only at hqz;simp(disch:=omega)only[go_sem,Af,Ap,Ar,Au,Bf,Bg,Bh,jA,jB,jE,jJ,jL,jI,jG,jH,jM,jR];have hz:Df K 158 2 1 (Eg ⟨d,[[Az Km],[Az Gf]].flatten⟩) (.oslice 2 qz 0 1 1) (upd K qz (some (.cells (Eg ⟨d,[[Az Km],[Az Gf]].flatten⟩) 158))):= .inr ⟨qz,hqz,rfl,rfl,Ac _ _ _,(Sub.refl K).new hqz _⟩;exact(hz.less hs).fin ⟨by rw[hR];rfl,rfl⟩
def Aq8 (s:Ind):List Tok×Int:=if Cm s then(Im s,0) else([],2)
def Aq9 (s:Dis):List Tok×Int:=if Fk s then(Pt s,0) else([],2)
def Ar0 (l:List Par):List Tok×Int:=if Hx l then(Ji l,0) else([],2)
def Ar1 (l:List Asp):List Tok×Int:=if Lb l then(Jj l,0) else([],2)
def Ag5 (l:List Cmp) (d:Int):List Lin×Int:=if Lu l then(Hz l d,0) else([],2)
def Ag6 (t:Typ) (d:Int):List Lin×Int:=if Jr t then(Gg t d,0) else([],2)
theorem Bc4 {l:List Cmp} (h:l.all Fc=true) {n:Nat} (hn:Dw l<=n):l.length<=n:=by
 have key: ∀l:List Cmp,(∀x∈l,Fc x=true)->l.length<=Dw l:=by
  intro l
  induction l with
  | nil=>intro _;exact Nat.le_refl _
  | cons x l ih=>
   intro h;have h1:=ih fun y hy=>h y (List.mem_cons_of_mem _ hy);have h2:=h x (List.mem_cons_self ..);rw[Fc,jF,jF,Fb,jF,jF,decide_eq_true_eq] at h2;have h3:=h2.1.1.1.2;have e:Dw (x::l)=x.names.length+Dw l:=by simp [Dw]
   rw[e,jA];omega
 exact Nat.le_trans (key l (List.all_eq_true.1 h)) hn
theorem Dd0 {t:Typ} (h:Hd t=true):t.comps.length<=40/\ ∀a∈t.arms,a.comps.length<=40:=by
 simp only[Hd,jF,decide_eq_true_eq] at h;obtain⟨⟨⟨⟨⟨hcm,-⟩,-⟩,-⟩,harm⟩,hn⟩:=h;have h1:=Bc4 hcm (Nat.le_refl _);refine⟨by omega,fun a ha=> ?_⟩;have h2:=List.all_eq_true.1 harm a ha;rw[Gu,jF] at h2;have h3:=Bc4 h2.1 (Nat.le_refl _);have h4:Dw a.comps<=Pk t.arms:=by
  unfold Pk;have: ∀l:List Arm,a∈l->Dw a.comps<=(l.map fun a=>Dw a.comps).sum:=by
   intro l
   induction l with
   | nil=>intro h;cases h
   | cons b l ih=>
    intro h;rw[jN,List.sum_cons];rcases List.mem_cons.1 h with rfl | h
    ·omega
    ·have:=ih h;omega
  exact this _ ha
 omega
theorem Ag7 (s:Ind) (hs':Uf 1048576 s):Ae Tryz.prog G 52 [.agg (Er s)] H (Ba (.tuple [Aq (Aq8 s).1,dI (Aq8 s).2]) H):=by
 rw[Aq8];refine Aa Tryz.func52 Tryz.call52 rfl (by kernel_rfl) ?_;simp(disch:=omega)only[go_sem,DVal.cells];intro r2 hr2;dsimp only at hr2;obtain⟨K,hK⟩: ∃K',K'=upd H r2 (some (.cells (Er s) 56)):=⟨_,rfl⟩;rw[<-hK];have g2:K r2=some (.cells (Er s) 56):=by rw[hK];exact Ac _ _ _
 have hs:Sub H K:=by rw[hK];exact(Sub.refl H).new hr2 _
 clear hK;simp(disch:=omega)only[go_sem,g2];refine Ae.monoR (Vk G K s hs') ?_;try simp(disch:=omega)only[go_sem,g2]
 cases hm:Cm s
 ·simp(disch:=omega)only[go_sem];exact Qg.fin hs (Qg.tuple (.cons (Qg.nil hs) (Px.keep hs _))) ⟨rfl,rfl⟩
 ·simp(disch:=omega)only[go_sem,g2];refine Ae.monoR (Pp G K s hm hs') ?_;try simp(disch:=omega)only[go_sem,g2]
  exact Wj.sub hs (.refl ⟨rfl,rfl⟩)
theorem Am1 (d:Dis) (hs':Wf 1048576 d):Ae Tryz.prog G 53 [.agg (Fj d)] H (Ba (.tuple [Aq (Aq9 d).1,dI (Aq9 d).2]) H):=by
 rw[Aq9];refine Aa Tryz.func53 Tryz.call53 rfl (by kernel_rfl) ?_;simp(disch:=omega)only[go_sem,DVal.cells];intro r2 hr2;dsimp only at hr2;obtain⟨K,hK⟩: ∃K',K'=upd H r2 (some (.cells (Fj d) 58)):=⟨_,rfl⟩;rw[<-hK];have g2:K r2=some (.cells (Fj d) 58):=by rw[hK];exact Ac _ _ _
 have hs:Sub H K:=by rw[hK];exact(Sub.refl H).new hr2 _
 clear hK;simp(disch:=omega)only[go_sem,g2];refine Ae.monoR (Af9 G K d hs') ?_;try simp(disch:=omega)only[go_sem,g2]
 cases hm:Fk d
 ·simp(disch:=omega)only[go_sem];exact Qg.fin hs (Qg.tuple (.cons (Qg.nil hs) (Px.keep hs _))) ⟨rfl,rfl⟩
 ·simp(disch:=omega)only[go_sem,g2];refine Ae.monoR (Bc0 G K d hm hs') ?_;try simp(disch:=omega)only[go_sem,g2]
  exact Wj.sub hs (.refl ⟨rfl,rfl⟩)
theorem Ag8 (l:List Par) (hl:Hf Xr 1048576 l):Ae Tryz.prog G 54 [Cj l] H (Ba (.tuple [Aq (Ar0 l).1,dI (Ar0 l).2]) H):=by
 rw[Ar0];refine Aa Tryz.func54 Tryz.call54 rfl (by kernel_rfl) ?_;simp(disch:=omega)only[go_sem];refine Ae.monoR (As9 G H l hl) ?_;cases hm:Hx l
 ·simp(disch:=omega)only[go_sem];exact Qg.fin (Sub.refl H) (Qg.tuple (.cons (Qg.nil (Sub.refl H)) (Px.keep (Sub.refl H) _))) ⟨rfl,rfl⟩
 ·have hm':=hm;rw[Hx,jF,decide_eq_true_eq] at hm';have h8:l.length<=8:=by
   have key: ∀l:List Par,(∀x∈l,Fm x=true)->l.length<=Ms l:=by
    intro l
    induction l with
    | nil=>intro _;exact Nat.le_refl _
    | cons x l ih=>
     intro h;have h1:=ih fun y hy=>h y (List.mem_cons_of_mem _ hy);have h2:=(Na (h x (List.mem_cons_self ..))).1;rw[Fb,jF,jF,decide_eq_true_eq] at h2;have h3:=h2.1.2;have e:Ms (x::l)=x.names.length+Ms l:=by simp [Ms]
     rw[e,jA];omega
   exact Nat.le_trans (key l (List.all_eq_true.1 hm'.1)) hm'.2
  simp(disch:=omega)only[go_sem];refine Ae.monoR (Bv7 G H l (List.all_eq_true.1 hm'.1) hl h8) ?_;simp(disch:=omega)only[go_sem];exact Wj.refl ⟨rfl,rfl⟩
theorem Ab5 (l:List Asp) (hl:Hf Zc 1048576 l):Ae Tryz.prog G 56 [Gh l] H (Ba (.tuple [Aq (Ar1 l).1,dI (Ar1 l).2]) H):=by
 rw[Ar1];refine Aa Tryz.func56 Tryz.call56 rfl (by kernel_rfl) ?_;simp(disch:=omega)only[go_sem];refine Ae.monoR (Al8 G H l hl) ?_;cases hm:Lb l
 ·simp(disch:=omega)only[go_sem];exact Qg.fin (Sub.refl H) (Qg.tuple (.cons (Qg.nil (Sub.refl H)) (Px.keep (Sub.refl H) _))) ⟨rfl,rfl⟩
 ·have hm':=hm;rw[Lb,jF,decide_eq_true_eq] at hm';simp(disch:=omega)only[go_sem];refine Ae.monoR (Bh5 G H l (List.all_eq_true.1 hm'.1) hm'.2) ?_;simp(disch:=omega)only[go_sem];exact Wj.refl ⟨rfl,rfl⟩
theorem At0 (l:List Cmp) (d:Int) (hl:Hf Oc 1048576 l):Ae Tryz.prog G 58 [Cv l,dI d] H (Ba (.tuple [Bv8 (Ag5 l d).1,dI (Ag5 l d).2]) H):=by
 rw[Ag5];refine Aa Tryz.func58 Tryz.call58 rfl (by kernel_rfl) ?_;simp(disch:=omega)only[go_sem];refine Ae.monoR (Bb4 G H l hl) ?_;cases hm:Lu l
 ·simp(disch:=omega)only[go_sem];exact Qg.fin (Sub.refl H) (Qg.tuple (.cons (Qg.nil (Sub.refl H)) (Px.keep (Sub.refl H) _))) ⟨rfl,rfl⟩
 ·have hm':=hm;rw[Lu,jF,decide_eq_true_eq] at hm';have h40:=Bc4 hm'.1 hm'.2;simp(disch:=omega)only[go_sem];refine Ae.monoR (Sy G H l d (List.all_eq_true.1 hm'.1) hl (by omega)) ?_;simp(disch:=omega)only[go_sem];exact Wj.refl ⟨rfl,rfl⟩
theorem At1 (t:Typ) (d:Int) (ht:Np 1048576 t):Ae Tryz.prog G 59 [.agg (Dp t),dI d] H (Ba (.tuple [Bv8 (Ag6 t d).1,dI (Ag6 t d).2]) H):=by
 rw[Ag6];refine Aa Tryz.func59 Tryz.call59 rfl (by kernel_rfl) ?_;simp(disch:=omega)only[go_sem,DVal.cells];intro r2 hr2;dsimp only at hr2;obtain⟨K,hK⟩: ∃K',K'=upd H r2 (some (.cells (Dp t) 62)):=⟨_,rfl⟩;rw[<-hK];have g2:K r2=some (.cells (Dp t) 62):=by rw[hK];exact Ac _ _ _
 have hs:Sub H K:=by rw[hK];exact(Sub.refl H).new hr2 _
 clear hK;simp(disch:=omega)only[go_sem,g2];refine Ae.monoR (Bu6 G K t ht) ?_;try simp(disch:=omega)only[go_sem,g2]
 cases hm:Jr t
 ·simp(disch:=omega)only[go_sem];exact Qg.fin hs (Qg.tuple (.cons (Qg.nil hs) (Px.keep hs _))) ⟨rfl,rfl⟩
 ·have h5:=(Au7 hm).2.2.2.2.2.1;simp(disch:=omega)only[go_sem,g2];refine Ae.monoR (Cv4 G K t d hm ht (fun h=>(Dd0 (h5 h)).1) (fun h=>(Dd0 (h5 h)).2)) ?_;try simp(disch:=omega)only[go_sem,g2]
  exact Wj.sub hs (.refl ⟨rfl,rfl⟩)
end
end Go.Dl

-- Chapter 4: the functions ..Tokens and ..Lines of package shape (printed by gen_tf.py).
namespace Go.Dl
open Go Go.Proofs
set_option maxRecDepth 100000
section
variable {G:Nat->DVal}
theorem Ag9 (hG:GX G) (H:Ab) (s:Ind) (hs':Uf 1048576 s):Ae Tryz.prog G 51 [.agg (Er s)] H (Ba (.tuple [Aq (Aq8 s).1,dI (Aq8 s).2]) H):=by
 rw[Aq8];refine Aa Tryz.func51 Tryz.call51 rfl (by kernel_rfl) ?_;simp(disch:=omega)only[go_sem,DVal.cells];intro r2 hr2;dsimp only at hr2;obtain⟨K,hK⟩: ∃K',K'=upd H r2 (some (.cells (Er s) 56)):=⟨_,rfl⟩;rw[<-hK];have g2:K r2=some (.cells (Er s) 56):=by rw[hK];exact Ac _ _ _
 have hs:Sub H K:=by rw[hK];exact(Sub.refl H).new hr2 _
 clear hK;simp(disch:=omega)only[go_sem,g2];refine Ae.monoR (Pm hG K s hs') ?_;try simp(disch:=omega)only[go_sem,g2]
 cases hm:Cm s
 ·simp(disch:=omega)only[go_sem];exact Qg.fin hs (Qg.tuple (.cons (Qg.nil hs) (Px.keep hs _))) ⟨rfl,rfl⟩
 ·have hil:=Js hm;simp(disch:=omega)only[go_sem,g2];intro rw hrw;dsimp only at hrw;have nrw:r2≠rw:=Am hrw g2;simp(disch:=omega)only[go_sem,g2,nrw];refine(Mz hG s hm hs' K rw [] _ hrw (by rw[jB];omega) (SAt.start hrw)).mono ?_;rintro _ K2 ⟨rfl,hw2⟩;rw[jG] at hw2;obtain⟨v,hv1,hv2⟩:=hw2.cell hrw;have hs2:=hw2.sub hrw;simp(disch:=omega)only[go_sem,hv1];exact Qg.fin (hs.trans hs2) (Qg.tuple (.cons (fun w hw x hx=>Rel.lasts (Di hs w) _ _ (hv2 w hw x hx)) (Px.keep (hs.trans hs2) _))) ⟨rfl,rfl⟩
theorem Am2 (hG:GX G) (H:Ab) (d:Dis) (hs':Wf 1048576 d):Ae Tryz.prog G 33 [.agg (Fj d)] H (Ba (.tuple [Aq (Aq9 d).1,dI (Aq9 d).2]) H):=by
 rw[Aq9];refine Aa Tryz.func33 Tryz.call33 rfl (by kernel_rfl) ?_;simp(disch:=omega)only[go_sem,DVal.cells];intro r2 hr2;dsimp only at hr2;obtain⟨K,hK⟩: ∃K',K'=upd H r2 (some (.cells (Fj d) 58)):=⟨_,rfl⟩;rw[<-hK];have g2:K r2=some (.cells (Fj d) 58):=by rw[hK];exact Ac _ _ _
 have hs:Sub H K:=by rw[hK];exact(Sub.refl H).new hr2 _
 clear hK;simp(disch:=omega)only[go_sem,g2];refine Ae.monoR (Aq4 hG K d hs') ?_;try simp(disch:=omega)only[go_sem,g2]
 cases hm:Fk d
 ·simp(disch:=omega)only[go_sem];exact Qg.fin hs (Qg.tuple (.cons (Qg.nil hs) (Px.keep hs _))) ⟨rfl,rfl⟩
 ·have hil:=Ys hm;simp(disch:=omega)only[go_sem,g2];intro rw hrw;dsimp only at hrw;have nrw:r2≠rw:=Am hrw g2;simp(disch:=omega)only[go_sem,g2,nrw];refine(Bb7 hG d hm hs' K rw [] _ hrw (by rw[jB];omega) (SAt.start hrw)).mono ?_;rintro _ K2 ⟨rfl,hw2⟩;rw[jG] at hw2;obtain⟨v,hv1,hv2⟩:=hw2.cell hrw;have hs2:=hw2.sub hrw;simp(disch:=omega)only[go_sem,hv1];exact Qg.fin (hs.trans hs2) (Qg.tuple (.cons (fun w hw x hx=>Rel.lasts (Di hs w) _ _ (hv2 w hw x hx)) (Px.keep (hs.trans hs2) _))) ⟨rfl,rfl⟩
theorem At2 (hG:GX G) (H:Ab) (l:List Cmp) (d:Int) (hl:Hf Oc 1048576 l):Ae Tryz.prog G 57 [Cv l,dI d] H (Ba (.tuple [Bv8 (Ag5 l d).1,dI (Ag5 l d).2]) H):=by
 rw[Ag5];refine Aa Tryz.func57 Tryz.call57 rfl (by kernel_rfl) ?_;simp(disch:=omega)only[go_sem];refine Ae.monoR (Bh3 hG H l hl) ?_;cases hm:Lu l
 ·simp(disch:=omega)only[go_sem];exact Qg.fin (Sub.refl H) (Qg.tuple (.cons (Qg.nil (Sub.refl H)) (Px.keep (Sub.refl H) _))) ⟨rfl,rfl⟩
 ·have hm':=hm;rw[Lu,jF,decide_eq_true_eq] at hm';have h40:=Bc4 hm'.1 hm'.2;have hcl:=Jx l d;have hs:=Sub.refl H;simp(disch:=omega)only[go_sem];intro rp hrp;dsimp only at hrp;simp(disch:=omega)only[go_sem];refine(Sv hG l d (List.all_eq_true.1 hm'.1) hl (by omega) H rp [] _ hrp (by rw[jB];omega) (PAt.start hrp)).mono ?_;rintro _ K2 ⟨rfl,hw2⟩;rw[jG] at hw2;obtain⟨v,hv1,hv2⟩:=hw2.cell hrp;have hs2:=hw2.sub hrp;simp(disch:=omega)only[go_sem,hv1];exact Qg.fin (hs.trans hs2) (Qg.tuple (.cons (fun w hw x hx=>Rel.lasts (Di hs w) _ _ (hv2 w hw x hx)) (Px.keep (hs.trans hs2) _))) ⟨rfl,rfl⟩
set_option maxHeartbeats 40000000 in
theorem Ab6 (hG:GX G) (H:Ab) (l:List Asp) (hl:Hf Zc 1048576 l):Ae Tryz.prog G 55 [Gh l] H (Ba (.tuple [Aq (Ar1 l).1,dI (Ar1 l).2]) H):=by
 rw[Ar1];refine Aa Tryz.func55 Tryz.call55 rfl (by kernel_rfl) ?_;simp(disch:=omega)only[go_sem];refine Ae.monoR (As8 hG H l hl) ?_;cases hm:Lb l
 ·simp(disch:=omega)only[go_sem];exact Qg.fin (Sub.refl H) (Qg.tuple (.cons (Qg.nil (Sub.refl H)) (Px.keep (Sub.refl H) _))) ⟨rfl,rfl⟩
 ·have hm':=hm;rw[Lb,jF,decide_eq_true_eq,List.all_eq_true] at hm';obtain⟨hma,hl8⟩:=hm';simp(disch:=omega)only[go_sem];intro rw hrw;dsimp only at hrw;have hw0:=SAt.start hrw;obtain⟨Ks,hKs⟩: ∃X,X=upd H rw (some (.cells [.nilSlice] 150)):=⟨_,rfl⟩;rw[<-hKs] at hw0;simp(disch:=omega)only[go_sem,Gh];try rw [<-hKs]
  clear hKs;obtain⟨I,hI⟩: ∃I:Nat->(Nat->DVal)->Ab->Prop,∀k env heap,I k env heap↔(env 4= .optr rw 0/\env 12=Gh l/\env 13=dI l.length/\env 14=dI k/\k<=l.length/\SAt H rw (Jj (l.take k)) heap):=⟨_,fun _ _ _=>Iff.rfl⟩;refine Dt1.run I (fun k=>l.length-k) 0 ((hI _ _ _).2 ?_) ?_
  ·simp(disch:=omega)only[go_sem,Gh];(repeat' apply And.intro)<;>(try first | rfl | assumption | omega)
  ·intro k env heap hi;obtain⟨e4,e12,e13,e14,hk,hwk⟩:=(hI _ _ _).1 hi;have hfl:=Al Dg l;by_cases hlt:k<l.length
   ·have hlt':(k:Int)<(l.length:Int):=by omega
    have hw1:IntKind.i64.wrap ((k:Int)+1)=((k+1:Nat):Int):=by rw[IntKind.wrap_i64];omega
    have mx:=List.getElem_mem hlt;have hle:=Ag3 hma k hk;have Aw:=Bu Dg l k hlt;have htk0:k=0->Jj (l.take (k+1))=Ab1 l[k]:=by intro h;subst h;exact Al9 hlt
    have htk1:0<k->Jj (l.take (k+1))=Jj (l.take k)++Aj Cx::Ab1 l[k]:=fun h=>Ab3 hlt h;have hn0:k=0->Jj (l.take k)= []:=by intro h;subst h;rfl
    obtain⟨x,hx⟩: ∃x,x=l[k]:=⟨_,rfl⟩;rw[<-hx] at Aw mx htk0 htk1;have ho:=hma x mx;rw[Oa,jF] at ho;obtain⟨o1,o2⟩:=ho;have hml:=Hw o2;obtain⟨f0,f1⟩:=hl.2 x mx;have hnv:(Bv [x.name]).length=1:=rfl;simp(disch:=omega)only[go_sem,e4,e12,e13,e14,Gh,hlt',Aw,hfl,jD];intro r6 hr6;dsimp only at hr6;have hw6:=hwk.frame hr6 (.cells (Qj x) 198);have z6:H r6=none:=(hwk.lo hr6).1;have n6:r6≠rw:=(hwk.lo hr6).2;obtain⟨B0,hX⟩: ∃X,X=upd H r6 (some (.cells (Qj x) 198)):=⟨_,rfl⟩;have b6:B0 r6=some (.cells (Qj x) 198):=by rw[hX];exact Ac _ _ _
    have sB0:Sub H B0:=by rw[hX];exact(Sub.refl _).up z6 _
    have rB0:B0 rw=none:=by rw[hX,Em _ _ _ _ n6.symm];exact hrw
    obtain⟨K0,hX7⟩: ∃X,X=upd heap r6 (some (.cells (Qj x) 198)):=⟨_,rfl⟩;rw[<-hX,<-hX7] at hw6;clear hX;have g6:=hw6.keep b6 n6;by_cases k0:k=0
    ·have k0': ¬(0:Int)<(k:Int):=by omega
     have htk:Jj (l.take (k+1))= []++Ab1 x:=htk0 k0;obtain⟨ts0,hts⟩: ∃ts0:List Tok,ts0= []:=⟨_,rfl⟩;rw[hn0 k0,<-hts] at hw6;rw[<-hts] at htk;have hlen:ts0.length<=100000:=by rw[hts];simp
     clear hts htk0 htk1 hn0;simp(disch:=omega)only[go_sem,e4,e12,e13,e14,k0'];rw[<-hX7];clear hX7;refine Ak (by kernel_rfl) pL14 (by kernel_rfl) ?_;simp(disch:=omega)only[go_sem,g6,e4,e12,e13,e14,Dg,Nr,Ns];have h:St B0 B0 rw ts0 K0:=⟨hw6,rB0,Sub.refl B0⟩
     repeat'
      first
      | with_reducible apply And.intro
      |with_reducible show Ae _ _ 144 _ _ _
       have p6:=h.g b6;refine(h.call (Dn hG x.e o2 f1.fitx) (by(try simp only[jC,jA,jB,jK,jN,jP,List.length_flatMap] at hlen⊢)<;>omega)).mono ?_;rintro _ Kw ⟨rfl,h⟩;try simp(disch:=omega)only[go_sem,p6,h.g b6,e4,e12,e13,e14,Dg,Nr,Ns]
      |with_reducible show Ae _ _ 114 _ _ _
       have p6:=h.g b6;refine(h.put hG [Cc] bqb (by(try simp only[jC,jA,jB,jK,jN,jP,List.length_flatMap] at hlen⊢)<;>omega)).mono ?_;rintro _ Kw ⟨rfl,h⟩;try simp(disch:=omega)only[go_sem,p6,h.g b6,e4,e12,e13,e14,Dg,Nr,Ns]
      |with_reducible show Ae _ _ 115 _ _ _
       have p6:=h.g b6;refine(h.nms hG [x.name] (by simp) bqa (by(try simp only[jC,jA,jB,jK,jN,jP,List.length_flatMap] at hlen⊢)<;>omega)).mono ?_;rintro _ Kw ⟨rfl,h⟩;try simp(disch:=omega)only[go_sem,p6,h.g b6,e4,e12,e13,e14,Dg,Nr,Ns]
      |refine⟨k+1,_,Ws.refl _,(hI _ _ _).2 ?_,by omega⟩
       simp(disch:=omega)only[go_sem,e4,e12,e13,e14,hw1];(repeat' apply And.intro)<;>(try first | rfl | assumption | omega);rw[htk];have hz:=(h.hw.less h.hs).less sB0;simpa [Ab1,Bv,Et] using hz
      |intro qa hqa;dsimp only at hqa
       have p6:=h.g b6;obtain⟨Bw,Kw,ew,h,sw,bqa⟩:=h.new hqa (.cells [.str x.name] 9);rw[ew];replace b6:=sw _ _ b6;try replace bqb:=sw _ _ bqb
       try simp(disch:=omega)only[go_sem,p6,h.g b6,e4,e12,e13,e14,Dg,Nr,Ns]
      |intro qb hqb;dsimp only at hqb
       have p6:=h.g b6;obtain⟨Bw,Kw,ew,h,sw,bqb⟩:=h.new hqb (.cells [.str [61,62]] 9);rw[ew];replace b6:=sw _ _ b6;try replace bqa:=sw _ _ bqa
       try simp(disch:=omega)only[go_sem,p6,h.g b6,e4,e12,e13,e14,Dg,Nr,Ns]
    ·have k0':(0:Int)<(k:Int):=by omega
     have htk:Jj (l.take (k+1))=(Jj (l.take k)++ [Aj Cx])++Ab1 x:=by rw[htk1 (by omega)];simp
     simp(disch:=omega)only[go_sem,e4,e12,e13,e14,k0'];rw[<-hX7];intro q0 hq0;dsimp only at hq0;simp(disch:=omega)only[go_sem,e4,e12,e13,e14];refine(Wg hG Cx hq0 rB0 (by omega) hw6).mono ?_;rintro _ K0 ⟨rfl,hw6⟩;have g6:=hw6.keep b6 n6;obtain⟨ts0,hts⟩: ∃ts0:List Tok,ts0=Jj (l.take k)++ [Aj Cx]:=⟨_,rfl⟩;rw[<-hts] at hw6 htk;have hlen:ts0.length<=100000:=by rw[hts,jC,jQ];omega
     clear hts htk0 htk1 hn0 hX7;simp(disch:=omega)only[go_sem,e4,e12,e13,e14];refine Ak (by kernel_rfl) pL14 (by kernel_rfl) ?_;simp(disch:=omega)only[go_sem,g6,e4,e12,e13,e14,Dg,Nr,Ns];have h:St B0 B0 rw ts0 K0:=⟨hw6,rB0,Sub.refl B0⟩
     repeat'
      first
      | with_reducible apply And.intro
      |with_reducible show Ae _ _ 144 _ _ _
       have p6:=h.g b6;refine(h.call (Dn hG x.e o2 f1.fitx) (by(try simp only[jC,jA,jB,jK,jN,jP,List.length_flatMap] at hlen⊢)<;>omega)).mono ?_;rintro _ Kw ⟨rfl,h⟩;try simp(disch:=omega)only[go_sem,p6,h.g b6,e4,e12,e13,e14,Dg,Nr,Ns]
      |with_reducible show Ae _ _ 114 _ _ _
       have p6:=h.g b6;refine(h.put hG [Cc] bqb (by(try simp only[jC,jA,jB,jK,jN,jP,List.length_flatMap] at hlen⊢)<;>omega)).mono ?_;rintro _ Kw ⟨rfl,h⟩;try simp(disch:=omega)only[go_sem,p6,h.g b6,e4,e12,e13,e14,Dg,Nr,Ns]
      |with_reducible show Ae _ _ 115 _ _ _
       have p6:=h.g b6;refine(h.nms hG [x.name] (by simp) bqa (by(try simp only[jC,jA,jB,jK,jN,jP,List.length_flatMap] at hlen⊢)<;>omega)).mono ?_;rintro _ Kw ⟨rfl,h⟩;try simp(disch:=omega)only[go_sem,p6,h.g b6,e4,e12,e13,e14,Dg,Nr,Ns]
      |refine⟨k+1,_,Ws.refl _,(hI _ _ _).2 ?_,by omega⟩
       simp(disch:=omega)only[go_sem,e4,e12,e13,e14,hw1];(repeat' apply And.intro)<;>(try first | rfl | assumption | omega);rw[htk];have hz:=(h.hw.less h.hs).less sB0;simpa [Ab1,Bv,Et] using hz
      |intro qa hqa;dsimp only at hqa
       have p6:=h.g b6;obtain⟨Bw,Kw,ew,h,sw,bqa⟩:=h.new hqa (.cells [.str x.name] 9);rw[ew];replace b6:=sw _ _ b6;try replace bqb:=sw _ _ bqb
       try simp(disch:=omega)only[go_sem,p6,h.g b6,e4,e12,e13,e14,Dg,Nr,Ns]
      |intro qb hqb;dsimp only at hqb
       have p6:=h.g b6;obtain⟨Bw,Kw,ew,h,sw,bqb⟩:=h.new hqb (.cells [.str [61,62]] 9);rw[ew];replace b6:=sw _ _ b6;try replace bqa:=sw _ _ bqa
       try simp(disch:=omega)only[go_sem,p6,h.g b6,e4,e12,e13,e14,Dg,Nr,Ns]
   ·have:k=l.length:=by omega
    subst this;have hlt': ¬(l.length:Int)<(l.length:Int):=by omega
    rw[List.take_length] at hwk;have hs:=Sub.refl H;obtain⟨v,hv1,hv2⟩:=hwk.cell hrw;have hs2:=hwk.sub hrw;simp(disch:=omega)only[go_sem,e4,e12,e13,e14,Gh,hlt'];simp(disch:=omega)only[go_sem,hv1];exact Qg.fin (hs.trans hs2) (Qg.tuple (.cons (fun w hw x hx=>Rel.lasts (Di hs w) _ _ (hv2 w hw x hx)) (Px.keep (hs.trans hs2) _))) ⟨rfl,rfl⟩
set_option maxHeartbeats 40000000 in
theorem At3 (hG:GX G) (H:Ab) (t:Typ) (d:Int) (ht:Np 1048576 t):Ae Tryz.prog G 23 [.agg (Dp t),dI d] H (Ba (.tuple [Bv8 (Ag6 t d).1,dI (Ag6 t d).2]) H):=by
 rw[Ag6];refine Aa Tryz.func23 Tryz.call23 rfl (by kernel_rfl) ?_;simp(disch:=omega)only[go_sem,DVal.cells];intro r2 hr2;dsimp only at hr2;obtain⟨K,hK⟩: ∃K',K'=upd H r2 (some (.cells (Dp t) 62)):=⟨_,rfl⟩;rw[<-hK];have g2:K r2=some (.cells (Dp t) 62):=by rw[hK];exact Ac _ _ _
 have hs:Sub H K:=by rw[hK];exact(Sub.refl H).new hr2 _
 clear hK;simp(disch:=omega)only[go_sem,g2];refine Ae.monoR (Ci4 hG K t ht) ?_;try simp(disch:=omega)only[go_sem,g2]
 cases hm:Jr t
 ·simp(disch:=omega)only[go_sem];exact Qg.fin hs (Qg.tuple (.cons (Qg.nil hs) (Px.keep hs _))) ⟨rfl,rfl⟩
 have ht':=ht;obtain⟨f0,f1,f2,f3,f4,f5,f6,f7⟩:=ht;obtain⟨k1,k2,k3,k6,k4,k5,hkk⟩:=Au7 hm;simp(disch:=omega)only[go_sem,g2];intro rp hrp;dsimp only at hrp;have hp:=PAt.start hrp;have nrp:r2≠rp:=Am hrp g2;obtain⟨B0,hB0⟩: ∃X,X=upd K rp (some (.cells [.nilSlice] 147)):=⟨_,rfl⟩;rw[<-hB0] at hp;have b2:B0 r2=some (.cells (Dp t) 62):=by rw[hB0];exact Ph g2 nrp
 simp(disch:=omega)only[go_sem,g2,nrp];try rw [<-hB0]
 intro rw hrw;dsimp only at hrw;try rw [<-hB0] at hrw
 clear hB0;have n2:r2≠rw:=Am hrw b2;have hw0:=SAt.start hrw;obtain⟨K0,hK0⟩: ∃X,X=upd B0 rw (some (.cells [.nilSlice] 150)):=⟨_,rfl⟩;rw[<-hK0] at hw0;have gz:=hw0.keep b2 n2;have hlen:(0:Nat)<=1:=by omega
 have hsK0:=hw0.sub hrw;simp(disch:=omega)only[go_sem,b2,n2];rw[<-hK0];clear hK0;have h0:St B0 B0 rw [] K0:=⟨hw0,hrw,Sub.refl B0⟩;rcases hkk with hk | hk | hk | hk | hk | hk | hk
 ·have hnl:=Iy (k1 hk);have hR:Gg t d= [⟨d,Aj By::(Bv t.names++ [Aj Cb])⟩]:=by rw[Gg,if_pos hk]
  simp(disch:=omega)only[go_sem,gz,hk];refine Ak (by kernel_rfl) pL7 (by kernel_rfl) ?_;simp(disch:=omega)only[go_sem,gz];have h:=h0
  repeat'
   first
   | with_reducible apply And.intro
   |with_reducible show Ae _ _ 115 _ _ _
    have p2:=h.g b2;refine(h.call (Ia hG t.names (by omega)) (by(try simp only[jC,jA,jB,jK,jN,jP,List.length_flatMap] at hlen⊢)<;>omega)).mono ?_;rintro _ Kw ⟨rfl,h⟩;try simp(disch:=omega)only[go_sem,p2,h.g b2]
   |with_reducible show Ae _ _ 114 _ _ _
    have p2:=h.g b2;refine(h.put hG [By] bqa (by(try simp only[jC,jA,jB,jK,jN,jP,List.length_flatMap] at hlen⊢)<;>omega)).mono ?_;rintro _ Kw ⟨rfl,h⟩;try simp(disch:=omega)only[go_sem,p2,h.g b2]
   |with_reducible show Ae _ _ 114 _ _ _
    have p2:=h.g b2;refine(h.put hG [Cb] bqb (by(try simp only[jC,jA,jB,jK,jN,jP,List.length_flatMap] at hlen⊢)<;>omega)).mono ?_;rintro _ Kw ⟨rfl,h⟩;try simp(disch:=omega)only[go_sem,p2,h.g b2]
   |with_reducible show Ae _ _ 120 _ _ _
    refine(Fs G d (hp.more h.hs) h.hr h.hw (by simp)).mono ?_;rintro _ KZ ⟨rfl,hpZ⟩;have hpY:PAt K rp (Gg t d) KZ:=by rw[hR];simpa using hpZ
    obtain⟨v,hv1,hv2⟩:=hpY.cell hrp;have hs2:=hpY.sub hrp;simp(disch:=omega)only[go_sem,hv1];exact Qg.fin (hs.trans hs2) (Qg.tuple (.cons (fun w hw x hx=>Rel.lasts (Di hs w) _ _ (hv2 w hw x hx)) (Px.keep (hs.trans hs2) _))) ⟨rfl,rfl⟩
   |intro qa hqa;dsimp only at hqa
    have p2:=h.g b2;obtain⟨Bw,Kw,ew,h,sw,bqa⟩:=h.new hqa (.cells [.str [40]] 9);rw[ew];replace b2:=sw _ _ b2;try replace bqb:=sw _ _ bqb
    try simp(disch:=omega)only[go_sem,p2,h.g b2]
   |intro qb hqb;dsimp only at hqb
    have p2:=h.g b2;obtain⟨Bw,Kw,ew,h,sw,bqb⟩:=h.new hqb (.cells [.str [41]] 9);rw[ew];replace b2:=sw _ _ b2;try replace bqa:=sw _ _ bqa
    try simp(disch:=omega)only[go_sem,p2,h.g b2]
 ·obtain⟨ml,mh⟩:=k2 hk;have hbl:=Oo ml mh;have hR:Gg t d= [⟨d,Aj Gy::Eu t.lo t.hi⟩]:=by rw[Gg,if_neg (by omega),if_pos hk]
  simp(disch:=omega)only[go_sem,gz,hk];refine Ak (by kernel_rfl) pL38 (by kernel_rfl) ?_;simp(disch:=omega)only[go_sem,gz];have h:=h0
  repeat'
   first
   | with_reducible apply And.intro
   |with_reducible show Ae _ _ 116 _ _ _
    have p2:=h.g b2;refine(h.call (Qk hG t.lo t.hi ml mh f1 f2) (by(try simp only[jC,jA,jB,jK,jN,jP,List.length_flatMap] at hlen⊢)<;>omega)).mono ?_;rintro _ Kw ⟨rfl,h⟩;try simp(disch:=omega)only[go_sem,p2,h.g b2]
   |with_reducible show Ae _ _ 114 _ _ _
    have p2:=h.g b2;refine(h.put hG [Gy] bqa (by(try simp only[jC,jA,jB,jK,jN,jP,List.length_flatMap] at hlen⊢)<;>omega)).mono ?_;rintro _ Kw ⟨rfl,h⟩;try simp(disch:=omega)only[go_sem,p2,h.g b2]
   |with_reducible show Ae _ _ 120 _ _ _
    refine(Fs G d (hp.more h.hs) h.hr h.hw (by simp)).mono ?_;rintro _ KZ ⟨rfl,hpZ⟩;have hpY:PAt K rp (Gg t d) KZ:=by rw[hR];simpa using hpZ
    obtain⟨v,hv1,hv2⟩:=hpY.cell hrp;have hs2:=hpY.sub hrp;simp(disch:=omega)only[go_sem,hv1];exact Qg.fin (hs.trans hs2) (Qg.tuple (.cons (fun w hw x hx=>Rel.lasts (Di hs w) _ _ (hv2 w hw x hx)) (Px.keep (hs.trans hs2) _))) ⟨rfl,rfl⟩
   |intro qa hqa;dsimp only at hqa
    have p2:=h.g b2;obtain⟨Bw,Kw,ew,h,sw,bqa⟩:=h.new hqa (.cells [.str [114,97,110,103,101]] 9);rw[ew];replace b2:=sw _ _ b2;try simp(disch:=omega)only[go_sem,p2,h.g b2]
 ·have mi:=k3 hk;have hil:=Js mi;have hR:Gg t d= [⟨d,Aj As7::Im t.sub⟩]:=by rw[Gg,if_neg (by omega),if_neg (by omega),if_pos hk]
  simp(disch:=omega)only[go_sem,gz,hk];refine Ak (by kernel_rfl) pL48 (by kernel_rfl) ?_;simp(disch:=omega)only[go_sem,gz];have h:=h0
  repeat'
   first
   | with_reducible apply And.intro
   |with_reducible show Ae _ _ 117 _ _ _
    have p2:=h.g b2;refine(h.call (Mz hG t.sub mi f3) (by(try simp only[jC,jA,jB,jK,jN,jP,List.length_flatMap] at hlen⊢)<;>omega)).mono ?_;rintro _ Kw ⟨rfl,h⟩;try simp(disch:=omega)only[go_sem,p2,h.g b2]
   |with_reducible show Ae _ _ 114 _ _ _
    have p2:=h.g b2;refine(h.put hG [As7] bqa (by(try simp only[jC,jA,jB,jK,jN,jP,List.length_flatMap] at hlen⊢)<;>omega)).mono ?_;rintro _ Kw ⟨rfl,h⟩;try simp(disch:=omega)only[go_sem,p2,h.g b2]
   |with_reducible show Ae _ _ 120 _ _ _
    refine(Fs G d (hp.more h.hs) h.hr h.hw (by simp)).mono ?_;rintro _ KZ ⟨rfl,hpZ⟩;have hpY:PAt K rp (Gg t d) KZ:=by rw[hR];simpa using hpZ
    obtain⟨v,hv1,hv2⟩:=hpY.cell hrp;have hs2:=hpY.sub hrp;simp(disch:=omega)only[go_sem,hv1];exact Qg.fin (hs.trans hs2) (Qg.tuple (.cons (fun w hw x hx=>Rel.lasts (Di hs w) _ _ (hv2 w hw x hx)) (Px.keep (hs.trans hs2) _))) ⟨rfl,rfl⟩
   |intro qa hqa;dsimp only at hqa
    have p2:=h.g b2;obtain⟨Bw,Kw,ew,h,sw,bqa⟩:=h.new hqa (.cells [.str [110,101,119]] 9);rw[ew];replace b2:=sw _ _ b2;try simp(disch:=omega)only[go_sem,p2,h.g b2]
 ·obtain⟨mi,md⟩:=k4 hk;have hil:=Js mi;have hdl:=Ys md;have hR:Gg t d= [⟨d,Aj Ps::Aj By::(Pt t.disc++(Aj Cb::Aj wOf::Im t.sub))⟩]:=by rw[Gg,if_neg (by omega),if_neg (by omega),if_neg (by omega),if_pos hk]
  simp(disch:=omega)only[go_sem,gz,hk];refine Ak (by kernel_rfl) pL15 (by kernel_rfl) ?_;simp(disch:=omega)only[go_sem,gz];have h:=h0
  repeat'
   first
   | with_reducible apply And.intro
   |with_reducible show Ae _ _ 118 _ _ _
    have p2:=h.g b2;refine(h.call (Bb7 hG t.disc md f4) (by(try simp only[jC,jA,jB,jK,jN,jP,List.length_flatMap] at hlen⊢)<;>omega)).mono ?_;rintro _ Kw ⟨rfl,h⟩;try simp(disch:=omega)only[go_sem,p2,h.g b2]
   |with_reducible show Ae _ _ 117 _ _ _
    have p2:=h.g b2;refine(h.call (Mz hG t.sub mi f3) (by(try simp only[jC,jA,jB,jK,jN,jP,List.length_flatMap] at hlen⊢)<;>omega)).mono ?_;rintro _ Kw ⟨rfl,h⟩;try simp(disch:=omega)only[go_sem,p2,h.g b2]
   |with_reducible show Ae _ _ 114 _ _ _
    have p2:=h.g b2;refine(h.put hG [Ps,By] bqa (by(try simp only[jC,jA,jB,jK,jN,jP,List.length_flatMap] at hlen⊢)<;>omega)).mono ?_;rintro _ Kw ⟨rfl,h⟩;try simp(disch:=omega)only[go_sem,p2,h.g b2]
   |with_reducible show Ae _ _ 114 _ _ _
    have p2:=h.g b2;refine(h.put hG [Cb,wOf] bqb (by(try simp only[jC,jA,jB,jK,jN,jP,List.length_flatMap] at hlen⊢)<;>omega)).mono ?_;rintro _ Kw ⟨rfl,h⟩;try simp(disch:=omega)only[go_sem,p2,h.g b2]
   |with_reducible show Ae _ _ 120 _ _ _
    refine(Fs G d (hp.more h.hs) h.hr h.hw (by simp)).mono ?_;rintro _ KZ ⟨rfl,hpZ⟩;have hpY:PAt K rp (Gg t d) KZ:=by rw[hR];simpa using hpZ
    obtain⟨v,hv1,hv2⟩:=hpY.cell hrp;have hs2:=hpY.sub hrp;simp(disch:=omega)only[go_sem,hv1];exact Qg.fin (hs.trans hs2) (Qg.tuple (.cons (fun w hw x hx=>Rel.lasts (Di hs w) _ _ (hv2 w hw x hx)) (Px.keep (hs.trans hs2) _))) ⟨rfl,rfl⟩
   |intro qa hqa;dsimp only at hqa
    have p2:=h.g b2;obtain⟨Bw,Kw,ew,h,sw,bqa⟩:=h.new hqa (.cells [.str [97,114,114,97,121], .str [40]] 9);rw[ew];replace b2:=sw _ _ b2;try replace bqb:=sw _ _ bqb
    try simp(disch:=omega)only[go_sem,p2,h.g b2]
   |intro qb hqb;dsimp only at hqb
    have p2:=h.g b2;obtain⟨Bw,Kw,ew,h,sw,bqb⟩:=h.new hqb (.cells [.str [41], .str [111,102]] 9);rw[ew];replace b2:=sw _ _ b2;try replace bqa:=sw _ _ bqa
    try simp(disch:=omega)only[go_sem,p2,h.g b2]
 ·have hr:=k5 hk;obtain⟨r40,ra40⟩:=Dd0 hr;by_cases c0:t.comps.length=0
  ·have c0': ¬(0:Int)<(t.comps.length:Int):=by omega
   have hc0:t.comps= []:=List.length_eq_zero_iff.1 c0;by_cases v0:t.var= []
   ·have hR:Gg t d= [⟨d,[Aj Hu,Aj Bt]⟩]:=by rw[Gg,if_neg (by omega),if_neg (by omega),if_neg (by omega),if_neg (by omega),if_neg (by omega),if_neg (by omega),if_pos (by simp [hc0,v0])]
    simp(disch:=omega)only[go_sem,gz,hk,Cv,c0',v0];intro q0 hq0;dsimp only at hq0;simp(disch:=omega)only[go_sem];refine(Fq1 hG Hu Bt hq0 hrw (by simp) hw0).mono ?_;rintro _ K9 ⟨rfl,hw9⟩;simp(disch:=omega)only[go_sem];refine(Fs G d (hp.more (Sub.refl B0)) hrw hw9 (by simp)).mono ?_;rintro _ KZ ⟨rfl,hpZ⟩;have hpY:PAt K rp (Gg t d) KZ:=by rw[hR];simpa using hpZ
    obtain⟨v,hv1,hv2⟩:=hpY.cell hrp;have hs2:=hpY.sub hrp;simp(disch:=omega)only[go_sem,hv1];exact Qg.fin (hs.trans hs2) (Qg.tuple (.cons (fun w hw x hx=>Rel.lasts (Di hs w) _ _ (hv2 w hw x hx)) (Px.keep (hs.trans hs2) _))) ⟨rfl,rfl⟩
   ·have hR:Gg t d=Xo t d:=by rw[Gg,if_neg (by omega),if_neg (by omega),if_neg (by omega),if_neg (by omega),if_neg (by omega),if_neg (by omega),if_neg (by simp [v0])]
    simp(disch:=omega)only[go_sem,gz,hk,Cv,c0',v0];refine(Ag0 hG t d hr ht' r40 ra40 K rp [] K0 hrp (by simp) (hp.more hsK0)).mono ?_;rintro _ KZ ⟨rfl,hpZ⟩;have hpY:PAt K rp (Gg t d) KZ:=by rw[hR];simpa using hpZ
    obtain⟨v,hv1,hv2⟩:=hpY.cell hrp;have hs2:=hpY.sub hrp;simp(disch:=omega)only[go_sem,hv1];exact Qg.fin (hs.trans hs2) (Qg.tuple (.cons (fun w hw x hx=>Rel.lasts (Di hs w) _ _ (hv2 w hw x hx)) (Px.keep (hs.trans hs2) _))) ⟨rfl,rfl⟩
  ·have c0':(0:Int)<(t.comps.length:Int):=by omega
   have hc0: ¬t.comps.isEmpty=true:=by intro e;exact c0 (by rw[List.isEmpty_iff.1 e];rfl)
   have hR:Gg t d=Xo t d:=by rw[Gg,if_neg (by omega),if_neg (by omega),if_neg (by omega),if_neg (by omega),if_neg (by omega),if_neg (by omega),if_neg (by simp [hc0])]
   simp(disch:=omega)only[go_sem,gz,hk,Cv,c0'];refine(Ag0 hG t d hr ht' r40 ra40 K rp [] K0 hrp (by simp) (hp.more hsK0)).mono ?_;rintro _ KZ ⟨rfl,hpZ⟩;have hpY:PAt K rp (Gg t d) KZ:=by rw[hR];simpa using hpZ
   obtain⟨v,hv1,hv2⟩:=hpY.cell hrp;have hs2:=hpY.sub hrp;simp(disch:=omega)only[go_sem,hv1];exact Qg.fin (hs.trans hs2) (Qg.tuple (.cons (fun w hw x hx=>Rel.lasts (Di hs w) _ _ (hv2 w hw x hx)) (Px.keep (hs.trans hs2) _))) ⟨rfl,rfl⟩
 ·have mi:=k6 hk;have hil:=Js mi;have hR:Gg t d= [⟨d,Aj Lv::Im t.sub⟩]:=by rw[Gg,if_neg (by omega),if_neg (by omega),if_neg (by omega),if_neg (by omega),if_pos hk]
  simp(disch:=omega)only[go_sem,gz,hk];refine Ak (by kernel_rfl) pL48 (by kernel_rfl) ?_;simp(disch:=omega)only[go_sem,gz];have h:=h0
  repeat'
   first
   | with_reducible apply And.intro
   |with_reducible show Ae _ _ 117 _ _ _
    have p2:=h.g b2;refine(h.call (Mz hG t.sub mi f3) (by(try simp only[jC,jA,jB,jK,jN,jP,List.length_flatMap] at hlen⊢)<;>omega)).mono ?_;rintro _ Kw ⟨rfl,h⟩;try simp(disch:=omega)only[go_sem,p2,h.g b2]
   |with_reducible show Ae _ _ 114 _ _ _
    have p2:=h.g b2;refine(h.put hG [Lv] bqa (by(try simp only[jC,jA,jB,jK,jN,jP,List.length_flatMap] at hlen⊢)<;>omega)).mono ?_;rintro _ Kw ⟨rfl,h⟩;try simp(disch:=omega)only[go_sem,p2,h.g b2]
   |with_reducible show Ae _ _ 120 _ _ _
    refine(Fs G d (hp.more h.hs) h.hr h.hw (by simp)).mono ?_;rintro _ KZ ⟨rfl,hpZ⟩;have hpY:PAt K rp (Gg t d) KZ:=by rw[hR];simpa using hpZ
    obtain⟨v,hv1,hv2⟩:=hpY.cell hrp;have hs2:=hpY.sub hrp;simp(disch:=omega)only[go_sem,hv1];exact Qg.fin (hs.trans hs2) (Qg.tuple (.cons (fun w hw x hx=>Rel.lasts (Di hs w) _ _ (hv2 w hw x hx)) (Px.keep (hs.trans hs2) _))) ⟨rfl,rfl⟩
   |intro qa hqa;dsimp only at hqa
    have p2:=h.g b2;obtain⟨Bw,Kw,ew,h,sw,bqa⟩:=h.new hqa (.cells [.str [97,99,99,101,115,115]] 9);rw[ew];replace b2:=sw _ _ b2;try simp(disch:=omega)only[go_sem,p2,h.g b2]
 ·cases hl:t.limited
  ·have hR:Gg t d= [⟨d,[Aj Gf]⟩]:=by rw[Gg,if_neg (by omega),if_neg (by omega),if_neg (by omega),if_neg (by omega),if_neg (by omega),if_pos hk,hl];rfl
   simp(disch:=omega)only[go_sem,gz,hk,hl];intro q0 hq0;dsimp only at hq0;simp(disch:=omega)only[go_sem];refine(Wg hG Gf hq0 hrw (by simp) hw0).mono ?_;rintro _ K9 ⟨rfl,hw9⟩;simp(disch:=omega)only[go_sem];refine(Fs G d (hp.more (Sub.refl B0)) hrw hw9 (by simp)).mono ?_;rintro _ KZ ⟨rfl,hpZ⟩;have hpY:PAt K rp (Gg t d) KZ:=by rw[hR];simpa using hpZ
   obtain⟨v,hv1,hv2⟩:=hpY.cell hrp;have hs2:=hpY.sub hrp;simp(disch:=omega)only[go_sem,hv1];exact Qg.fin (hs.trans hs2) (Qg.tuple (.cons (fun w hw x hx=>Rel.lasts (Di hs w) _ _ (hv2 w hw x hx)) (Px.keep (hs.trans hs2) _))) ⟨rfl,rfl⟩
  ·have hR:Gg t d= [⟨d,[Aj Km,Aj Gf]⟩]:=by rw[Gg,if_neg (by omega),if_neg (by omega),if_neg (by omega),if_neg (by omega),if_neg (by omega),if_pos hk,hl];rfl
   simp(disch:=omega)only[go_sem,gz,hk,hl];intro q1 hq1;dsimp only at hq1;simp(disch:=omega)only[go_sem];refine(Wg hG Km hq1 hrw (by simp) hw0).mono ?_;rintro _ K8 ⟨rfl,hw8⟩;simp(disch:=omega)only[go_sem];intro q0 hq0;dsimp only at hq0;simp(disch:=omega)only[go_sem];refine(Wg hG Gf hq0 hrw (by simp) hw8).mono ?_;rintro _ K9 ⟨rfl,hw9⟩;simp(disch:=omega)only[go_sem];refine(Fs G d (hp.more (Sub.refl B0)) hrw hw9 (by simp)).mono ?_;rintro _ KZ ⟨rfl,hpZ⟩;have hpY:PAt K rp (Gg t d) KZ:=by rw[hR];simpa using hpZ
   obtain⟨v,hv1,hv2⟩:=hpY.cell hrp;have hs2:=hpY.sub hrp;simp(disch:=omega)only[go_sem,hv1];exact Qg.fin (hs.trans hs2) (Qg.tuple (.cons (fun w hw x hx=>Rel.lasts (Di hs w) _ _ (hv2 w hw x hx)) (Px.keep (hs.trans hs2) _))) ⟨rfl,rfl⟩
end
end Go.Dl
