/- The data level and the contracts of the functions that are reached (part 6). -/
import Derived.Test.YtddbdpcgikmiaaaGreatDoorPie
set_option linter.unusedSimpArgs false
set_option linter.unusedVariables false
set_option linter.unusedSectionVars false
set_option maxHeartbeats 400000000
-- Uh
namespace Go.Dl
open Go Go.Proofs
set_option maxRecDepth 100000
section
variable {G:Nat->DVal} {H0 H:Ab} {r k:Nat} {l:List Tok}
def Ro:DVal:= .vslice (Dr1.map dW) 22
theorem Kt {x y:List DVal} (hx:x.length=9) (C:y.length=9):
  (if 9<=(By 2 zY).length then
   if 18<=(x++List.drop 9 (By 2 zY)).length then
    some (List.take 9 (x++List.drop 9 (By 2 zY))++y++
     List.drop 18 (x++List.drop 9 (By 2 zY)))
   else none
  else none)=some (x++y):=by
 have e: ∀u:List DVal,By 2 u=u++u:=λu=>by simp [By]
 rw[e];rw[if_pos (by simp),if_pos (by simp [hx]),List.take_left' hx,List.drop_eq_nil_of_le (by simp [hx]),jH]
theorem Lo (G:Nat->DVal) (H:Ab):Ad Tryz.prog G 248 [] H (Am Ro H):=by
 refine dci Tryz.func248 Tryz.call248 ?_;simp only[go_sem];intro D hb1;obtain⟨K1,ah⟩: ∃K,K=upd H D (some (.cells [.str [43]] 9)):=⟨_,rfl⟩;rw[<-ah];simp only[go_sem];intro E bk;obtain⟨K2,ai⟩: ∃K,K=upd K1 E (some (.cells [.str [45]] 9)):=⟨_,rfl⟩;rw[<-ai];simp only[go_sem];intro I bl;obtain⟨K3,aj⟩: ∃K,K=upd K2 I (some (.cells [.str [42]] 9)):=⟨_,rfl⟩;rw[<-aj];simp only[go_sem];intro J bm;obtain⟨K4,ak⟩: ∃K,K=upd K3 J (some (.cells [.str [47]] 9)):=⟨_,rfl⟩;rw[<-ak];simp only[go_sem];intro L bn;obtain⟨K5,al⟩: ∃K,K=upd K4 L (some (.cells [.str [109,111,100]] 9)):=⟨_,rfl⟩;rw[<-al];simp only[go_sem];intro M bo;obtain⟨K6,am⟩: ∃K,K=upd K5 M (some (.cells [.str [114,101,109]] 9)):=⟨_,rfl⟩;rw[<-am];simp only[go_sem];intro O bp;obtain⟨K7,ao⟩: ∃K,K=upd K6 O (some (.cells [.str [61]] 9)):=⟨_,rfl⟩;rw[<-ao];simp only[go_sem];intro S bq;obtain⟨K8,ap⟩: ∃K,K=upd K7 S (some (.cells [.str [47,61]] 9)):=⟨_,rfl⟩;rw[<-ap];simp only[go_sem];intro U br;obtain⟨K9,aq⟩: ∃K,K=upd K8 U (some (.cells [.str [60]] 9)):=⟨_,rfl⟩;rw[<-aq];simp only[go_sem];intro V bs;obtain⟨ar,au⟩: ∃K,K=upd K9 V (some (.cells [.str [60,61]] 9)):=⟨_,rfl⟩;rw[<-au];simp only[go_sem];intro W bt;obtain⟨av,aw⟩: ∃K,K=upd ar W (some (.cells [.str [62]] 9)):=⟨_,rfl⟩;rw[<-aw];simp only[go_sem];intro X bu;obtain⟨ax,ay⟩: ∃K,K=upd av X (some (.cells [.str [62,61]] 9)):=⟨_,rfl⟩;rw[<-ay];simp only[go_sem];intro Y bv;obtain⟨a0,a1⟩: ∃K,K=upd ax Y (some (.cells [.str [97,110,100]] 9)):=⟨_,rfl⟩;rw[<-a1];simp only[go_sem];intro Z bw;obtain⟨a2,a3⟩: ∃K,K=upd a0 Z (some (.cells [.str [111,114]] 9)):=⟨_,rfl⟩;rw[<-a3];simp only[go_sem];intro aa bx;obtain⟨a4,a5⟩: ∃K,K=upd a2 aa (some (.cells [.str [120,111,114]] 9)):=⟨_,rfl⟩;rw[<-a5];simp only[go_sem];intro ab bz;obtain⟨a6,a7⟩: ∃K,K=upd a4 ab (some (.cells [.str [97,110,100],.str [116,104,101,110]] 9)):=⟨_,rfl⟩;rw[<-a7];simp only[go_sem];intro ac b0;obtain⟨a8,a9⟩: ∃K,K=upd a6 ac (some (.cells [.str [111,114],.str [101,108,115,101]] 9)):=⟨_,rfl⟩;rw[<-a9];simp only[go_sem];intro ad ca;obtain⟨ba,bb⟩: ∃K,K=upd a8 ad (some (.cells [.str [43]] 9)):=⟨_,rfl⟩;rw[<-bb];simp only[go_sem];intro ae cb;obtain⟨bc,bd⟩: ∃K,K=upd ba ae (some (.cells [.str [45]] 9)):=⟨_,rfl⟩;rw[<-bd];simp only[go_sem];intro af cc;obtain⟨be,bf⟩: ∃K,K=upd bc af (some (.cells [.str [97,98,115]] 9)):=⟨_,rfl⟩;rw[<-bf];simp only[go_sem];intro ag cd;obtain⟨bg,bh⟩: ∃K,K=upd be ag (some (.cells [.str [110,111,116]] 9)):=⟨_,rfl⟩;rw[<-bh];simp only[go_sem];intro bi ce;obtain⟨y,bj⟩: ∃K,K=upd bg bi (some (.cells [.nilSlice,.oslice 1 D 0 1 1,.oslice 1 E 0 1 1,.oslice 1 I 0 1 1,.oslice 1 J 0 1 1,.oslice 1 L 0 1 1,.oslice 1 M 0 1 1,.oslice 1 O 0 1 1,.oslice 1 S 0 1 1,.oslice 1 U 0 1 1,.oslice 1 V 0 1 1,.oslice 1 W 0 1 1,.oslice 1 X 0 1 1,.oslice 1 Y 0 1 1,.oslice 1 Z 0 1 1,.oslice 1 aa 0 1 1,.oslice 1 ab 0 2 2,.oslice 1 ac 0 2 2,.oslice 1 ad 0 1 1,.oslice 1 ae 0 1 1,.oslice 1 af 0 1 1,.oslice 1 ag 0 1 1] 54)):=⟨_,rfl⟩;rw[<-bj];have s1:=ah.symm▸(Sub.refl _).new hb1 _;have s2:=ai.symm▸(Sub.refl _).new bk _;have s3:=aj.symm▸(Sub.refl _).new bl _;have s4:=ak.symm▸(Sub.refl _).new bm _;have s5:=al.symm▸(Sub.refl _).new bn _;have s6:=am.symm▸(Sub.refl _).new bo _;have s7:=ao.symm▸(Sub.refl _).new bp _;have s8:=ap.symm▸(Sub.refl _).new bq _;have s9:=aq.symm▸(Sub.refl _).new br _;have s10:=au.symm▸(Sub.refl _).new bs _;have cf:=aw.symm▸(Sub.refl _).new bt _;have cg:=ay.symm▸(Sub.refl _).new bu _;have ci:=a1.symm▸(Sub.refl _).new bv _;have cj:=a3.symm▸(Sub.refl _).new bw _;have ck:=a5.symm▸(Sub.refl _).new bx _;have cl:=a7.symm▸(Sub.refl _).new bz _;have cm:=a9.symm▸(Sub.refl _).new b0 _;have cn:=bb.symm▸(Sub.refl _).new ca _;have co:=bd.symm▸(Sub.refl _).new cb _;have cp:=bf.symm▸(Sub.refl _).new cc _;have cq:=bh.symm▸(Sub.refl _).new cd _;have cr:=bj.symm▸(Sub.refl _).new ce _;have ct:Sub y y:=Sub.refl _;have cu:Sub bg y:=cr.trans ct;have cv:Sub be y:=cq.trans cu;have cw:Sub bc y:=cp.trans cv;have cx:Sub ba y:=co.trans cw;have cy:Sub a8 y:=cn.trans cx;have cz:Sub a6 y:=cm.trans cy;have c0:Sub a4 y:=cl.trans cz;have da:Sub a2 y:=ck.trans c0;have db:Sub a0 y:=cj.trans da;have dc:Sub ax y:=ci.trans db;have dd:Sub av y:=cg.trans dc;have de:Sub ar y:=cf.trans dd;have t9:Sub K9 y:=s10.trans de;have t8:Sub K8 y:=s9.trans t9;have t7:Sub K7 y:=s8.trans t8;have t6:Sub K6 y:=s7.trans t7;have t5:Sub K5 y:=s6.trans t6;have t4:Sub K4 y:=s5.trans t5;have t3:Sub K3 y:=s4.trans t4;have t2:Sub K2 y:=s3.trans t3;have t1:Sub K1 y:=s2.trans t2;have u1:Sub H H:=Sub.refl H;have u2:Sub H K1:=u1.trans s1;have u3:Sub H K2:=u2.trans s2;have u4:Sub H K3:=u3.trans s3;have u5:Sub H K4:=u4.trans s4;have u6:Sub H K5:=u5.trans s5;have u7:Sub H K6:=u6.trans s6;have u8:Sub H K7:=u7.trans s7;have u9:Sub H K8:=u8.trans s8;have df:Sub H K9:=u9.trans s9;have dg:Sub H ar:=df.trans s10;have dh:Sub H av:=dg.trans cf;have di:Sub H ax:=dh.trans cg;have dj:Sub H a0:=di.trans ci;have dk:Sub H a2:=dj.trans cj;have dl:Sub H a4:=dk.trans ck;have dm:Sub H a6:=dl.trans cl;have dn:Sub H a8:=dm.trans cm;have dp:Sub H ba:=dn.trans cn;have dq:Sub H bc:=dp.trans co;have dr:Sub H be:=dq.trans cp;have ds:Sub H bg:=dr.trans cq;have C:Sub H y:=ds.trans cr;have c1:y D=some (.cells [.str [43]] 9):=t1 _ _ (by rw[ah];exact Aa _ _ _);have c2:y E=some (.cells [.str [45]] 9):=t2 _ _ (by rw[ai];exact Aa _ _ _);have c3:y I=some (.cells [.str [42]] 9):=t3 _ _ (by rw[aj];exact Aa _ _ _);have c4:y J=some (.cells [.str [47]] 9):=t4 _ _ (by rw[ak];exact Aa _ _ _);have c5:y L=some (.cells [.str [109,111,100]] 9):=t5 _ _ (by rw[al];exact Aa _ _ _);have c6:y M=some (.cells [.str [114,101,109]] 9):=t6 _ _ (by rw[am];exact Aa _ _ _);have c7:y O=some (.cells [.str [61]] 9):=t7 _ _ (by rw[ao];exact Aa _ _ _);have c8:y S=some (.cells [.str [47,61]] 9):=t8 _ _ (by rw[ap];exact Aa _ _ _);have c9:y U=some (.cells [.str [60]] 9):=t9 _ _ (by rw[aq];exact Aa _ _ _);have dt:y V=some (.cells [.str [60,61]] 9):=de _ _ (by rw[au];exact Aa _ _ _);have du:y W=some (.cells [.str [62]] 9):=dd _ _ (by rw[aw];exact Aa _ _ _);have dv:y X=some (.cells [.str [62,61]] 9):=dc _ _ (by rw[ay];exact Aa _ _ _);have dw:y Y=some (.cells [.str [97,110,100]] 9):=db _ _ (by rw[a1];exact Aa _ _ _);have dx:y Z=some (.cells [.str [111,114]] 9):=da _ _ (by rw[a3];exact Aa _ _ _);have dy:y aa=some (.cells [.str [120,111,114]] 9):=c0 _ _ (by rw[a5];exact Aa _ _ _);have dz:y ab=some (.cells [.str [97,110,100],.str [116,104,101,110]] 9):=cz _ _ (by rw[a7];exact Aa _ _ _);have d0:y ac=some (.cells [.str [111,114],.str [101,108,115,101]] 9):=cy _ _ (by rw[a9];exact Aa _ _ _);have d1:y ad=some (.cells [.str [43]] 9):=cx _ _ (by rw[bb];exact Aa _ _ _);have d2:y ae=some (.cells [.str [45]] 9):=cw _ _ (by rw[bd];exact Aa _ _ _);have d3:y af=some (.cells [.str [97,98,115]] 9):=cv _ _ (by rw[bf];exact Aa _ _ _);have d4:y ag=some (.cells [.str [110,111,116]] 9):=cu _ _ (by rw[bh];exact Aa _ _ _);have d5:y bi=some (.cells [.nilSlice,.oslice 1 D 0 1 1,.oslice 1 E 0 1 1,.oslice 1 I 0 1 1,.oslice 1 J 0 1 1,.oslice 1 L 0 1 1,.oslice 1 M 0 1 1,.oslice 1 O 0 1 1,.oslice 1 S 0 1 1,.oslice 1 U 0 1 1,.oslice 1 V 0 1 1,.oslice 1 W 0 1 1,.oslice 1 X 0 1 1,.oslice 1 Y 0 1 1,.oslice 1 Z 0 1 1,.oslice 1 aa 0 1 1,.oslice 1 ab 0 2 2,.oslice 1 ac 0 2 2,.oslice 1 ad 0 1 1,.oslice 1 ae 0 1 1,.oslice 1 af 0 1 1,.oslice 1 ag 0 1 1] 54):=ct _ _ (by rw[bj];exact Aa _ _ _);have d6:Ln y (.oslice 1 bi 0 22 22) H (.vslice (Dr1.map dW) 22):=Ln.cells (cs':=Dr1.map dW) C (ds.lo ce) d5 rfl (.cons (.nil C) (.cons (Ln.block C (u1.lo hb1) c1 rfl) (.cons (Ln.block C (u2.lo bk) c2 rfl) (.cons (Ln.block C (u3.lo bl) c3 rfl) (.cons (Ln.block C (u4.lo bm) c4 rfl) (.cons (Ln.block C (u5.lo bn) c5 rfl) (.cons (Ln.block C (u6.lo bo) c6 rfl) (.cons (Ln.block C (u7.lo bp) c7 rfl) (.cons (Ln.block C (u8.lo bq) c8 rfl) (.cons (Ln.block C (u9.lo br) c9 rfl) (.cons (Ln.block C (df.lo bs) dt rfl) (.cons (Ln.block C (dg.lo bt) du rfl) (.cons (Ln.block C (dh.lo bu) dv rfl) (.cons (Ln.block C (di.lo bv) dw rfl) (.cons (Ln.block C (dj.lo bw) dx rfl) (.cons (Ln.block C (dk.lo bx) dy rfl) (.cons (Ln.block C (dl.lo bz) dz rfl) (.cons (Ln.block C (dm.lo b0) d0 rfl) (.cons (Ln.block C (dn.lo ca) d1 rfl) (.cons (Ln.block C (dp.lo cb) d2 rfl) (.cons (Ln.block C (dq.lo cc) d3 rfl) (.cons (Ln.block C (dr.lo cd) d4 rfl) (.nil)))))))))))))))))))))));simp only[go_sem];exact Ln.fin C d6 ⟨rfl,rfl⟩
theorem Bb9 (G:Nat->DVal) (H:Ab) (o:Nat) (a b:Ex):Ad Tryz.prog G 166 [.int .u8 o,.agg (dEx a),.agg (dEx b)] H (Am (.agg (dEx (both o a b))) H):=by
 have hea:both o a b= .mk 12 o 0 [] [a,b] [] a.line 0 0:=rfl;rw[hea];have y: [a,b].flatMap dEx=dEx a++dEx b:=by simp
 have O:(dEx a)[6]? =some (dI a.line):=by cases a;rfl
 have C:(dEx a).length=9:=Af a;have D:(dEx b).length=9:=Af b;refine dci Tryz.func166 Tryz.call166 ?_;simp only[go_sem,DVal.cells];intro r4 S;simp only[go_sem,DVal.cells];intro r5 E;obtain⟨m1,I,ad⟩:=Aq.1 E;simp only[go_sem];intro r6 J;obtain⟨m3,U,V⟩:=Aq.1 J;obtain⟨m5,L,W⟩:=Aq.1 V;simp only[go_sem,I,U,L];rw[Kt C D];simp only[go_sem];intro X M;obtain⟨Y,Z,aa⟩:=Aq.1 M;obtain⟨p3,p4,ab⟩:=Aq.1 aa;obtain⟨p5,p6,ac⟩:=Aq.1 ab;simp only[go_sem,I,L,Z,p6,O];have hs:=(((((Sub.refl H).new S (some (.cells (dEx a) 27))).new E (some (.cells (dEx b) 27))).new J (some (.cells zY 27))).new M (some (.cells (dEx a++dEx b) 27))).up W (some (.cells (zX 12 o 0 [] (.oslice 9 X 0 2 2) .nilSlice (a.line)) 27));refine Ln.fin hs (Ln.agg (Ln.ex (l:= [a,b]) hs (Ln.block (e:=27) hs ac ?_ ?_) (.as0 hs))) ⟨rfl,rfl⟩
 ·rw[y];simp [upd,Y]
 ·rw[y,jC,C,D]
end
def Bk8:Nat->Nat->List Nat
 |_,0=> []
 |h,n+1=>h::Bk8 (h-1) n
theorem Ao7 {o:Nat} (h:o<22):(Dr1.map dW)[o]? =some (dW (Ay o)):=by
 rw[List.getElem?_map,Ay,List.getD,List.getElem?_eq_getElem (by exact h)];rfl
theorem Ds4 (o:Nat):(Ay o).length<=2:=by
 rw[Ay,List.getD];by_cases h:o<22
 ·have: ∀i:Fin 22,((Dr1[i.1]?).getD []).length<=2:=by decide
  exact this ⟨o,h⟩
 ·rw[List.getElem?_eq_none (by have:Dr1.length=22:=rfl;omega)];decide
section
variable {G:Nat->DVal} {H0 H:Ab} {r k:Nat} {l:List Tok}
theorem Fl3 (want:Nat) (o:Nat) (m:List Nat):opF l want k (o::m)=if isW l k (Ay o) then(if want≠0/\o≠want then(0,k) else(o,k+(Ay o).length)) else opF l want k m:=rfl
theorem Sx (hG:GX G) (H:Ab) (lo hi want:Nat) (h1:1<=lo) (h2:lo<=hi) (h3:hi<=21) (hr:H r=some (rdO l k)) (hl:l.length<=16000000) (hk:k<=14400000):
  Ad Tryz.prog G 165 [.optr r 0,.int .u8 lo,.int .u8 hi,.int .u8 want] H (RdQ r l H (.int .u8 (opF l want k (Bk8 hi (hi+1-lo))).1) (opF l want k (Bk8 hi (hi+1-lo))).2):=by
 have S:=hr;unfold rdO at S;refine dci Tryz.func165 Tryz.call165 ?_;simp only[go_sem];refine(Lo G H).mono ?_;rintro _ H1 ⟨rfl,rfl⟩;simp only[go_sem];obtain⟨I,U⟩: ∃I:Nat->(Nat->DVal)->Ab->Prop,∀j env heap,I j env heap↔(env 0= .optr r 0/\env 1= .int .u8 lo/\env 3= .int .u8 want/\env 9=Ro/\env 10= .int .u8 ((hi-j:Nat):Int)/\j<=hi+1-lo/\opF l want k (Bk8 hi (hi+1-lo))=opF l want k (Bk8 (hi-j) (hi+1-lo-j))/\heap=H1):=⟨_,λ_ _ _=>Iff.rfl⟩;refine Ea9.run I (λj=>hi+1-lo-j) 0 ((U _ _ _).2 ?_) ?_
 ·simp only[go_sem];(repeat' apply And.intro)<;>(try first|rfl|assumption|omega)
 ·intro j env heap Z;obtain⟨D,e1,E,J,y,hj,hm,rfl⟩:=(U _ _ _).1 Z;by_cases ad:j<hi+1-lo
  ·obtain⟨o,ho⟩: ∃o,o=hi-j:=⟨_,rfl⟩;(have hn:hi+1-lo-j=(hi+1-lo-(j+1))+1:=by omega);rw[hn,Bk8,Fl3,<-ho] at hm;rw[<-ho] at y;(have V:(lo:Int)<=(o:Int):=by omega);have aa:IntKind.u8.wrap ((o:Int)-1)=((hi-(j+1):Nat):Int):=by
    rw[IntKind.wrap_u8];omega
   have C:=Ao7 (o:=o) (by omega);have ab:=Ds4 o;obtain⟨ws,ac⟩: ∃ws,ws=Ay o:=⟨_,rfl⟩;rw[<-ac] at C ab hm;have L:(Dr1.map dW).length=22:=rfl;obtain⟨W,M⟩: ∃W,W=Dr1.map dW:=⟨_,rfl⟩;rw[<-M] at C L;simp(disch:=omega)only[go_sem,D,e1,J,y,V,Ro,<-M,C,L,jD];refine(Au2 hG heap ws hr hl hk (by omega)).mono ?_;rintro _ H2 ⟨rfl,rfl⟩;cases hb:isW l k ws with
   |false=>
    rw[hb] at hm;simp only[go_sem,y];refine⟨j+1,_,Rn.refl _,(U _ _ _).2 ?_,by omega⟩;simp only[go_sem,D,e1,E,J,aa];(repeat' apply And.intro)<;>(try first|rfl|assumption|omega);rw[hm,if_neg (by simp),Nat.sub_sub,ho];rfl
   |true=>
    rw[hb,if_pos rfl] at hm;(have Y:IntKind.i64.wrap ((k:Int)+(ws.length:Int))=((k+ws.length:Nat):Int):=by rw[IntKind.wrap_i64];omega);by_cases c1:want=0
    ·(have O:(want:Int)=0:=by omega);rw[if_neg (by omega)] at hm;simp only[go_sem,E,O];refine An pL9 ?_;simp(disch:=omega)only[go_sem,D,J,y,Ro,<-M,C,L,jD,S,Y,dW];rw[hm];exact Dj.refl ⟨rfl,rfl⟩
    ·(have O: ¬(want:Int)=0:=by omega);by_cases c2:o=want
     ·(have X:(o:Int)=(want:Int):=by omega);rw[if_neg (by omega)] at hm;simp only[go_sem,E,y,O,X];refine An pL9 ?_;simp(disch:=omega)only[go_sem,D,J,y,Ro,<-M,C,L,jD,S,Y,dW];rw[hm];exact Dj.refl ⟨rfl,rfl⟩
     ·(have X: ¬(o:Int)=(want:Int):=by omega);rw[if_pos ⟨c1,c2⟩] at hm;simp only[go_sem,E,y,O,X];rw[hm];exact Dj.refl ⟨rfl,(Ef hr).symm⟩
  ·(have:j=hi+1-lo:=by omega);subst this;(have ho:hi-(hi+1-lo)=lo-1:=by omega);(have V: ¬(lo:Int)<=((lo-1:Nat):Int):=by omega);rw[Nat.sub_self,ho,Bk8,opF] at hm;rw[ho] at y;simp only[go_sem,e1,y,V];rw[hm];exact Dj.refl ⟨rfl,(Ef hr).symm⟩
end
def Res.mp {α:Type} (f:α->DVal):Res α->Res DVal
 | .bot=> .bot
 | .fail k=> .fail k
 | .ok x k=> .ok (f x) k
def dE (e:Ex):DVal:= .agg (dEx e)
section
variable {G:Nat->DVal} {H0 H:Ab} {r k:Nat} {l:List Tok}
def RdC (P:Program) (G:Nat->DVal) (l:List Tok) (f:FuncId) (r:Nat) (res:Nat->Res DVal):Prop:=
 ∀H k,H r=some (rdO l k)->k<=l.length->res k≠ .bot->Ad P G f [.optr r 0] H (RdR r l H (res k))
theorem Bt3 (hG:GX G) (g:FuncId) (T:Nat->Nat->Res Ex) (L:Nat->Ex->Nat->Res Ex) (lo hi:Nat) (h1:1<=lo) (h2:lo<=hi) (h3:hi<=21) (hl:l.length<=12800000)
  (ab: ∀x k,L 0 x k= .bot) (hL: ∀m x k,L (m+1) x k=if(opF l 0 k (Bk8 hi (hi+1-lo))).1=0 then .ok x k else(T m (opF l 0 k (Bk8 hi (hi+1-lo))).2).then λy k'=>L m (both (opF l 0 k (Bk8 hi (hi+1-lo))).1 x y) k')
  (hT: ∀m k,k<=l.length->Adv l (k+1) (T m k)) (ac: ∀o∈Bk8 hi (hi+1-lo),o<22/\o≠0)
  (n:Nat) (hg: ∀m<n,RdC Tryz.prog G l g r λk=>(T m k).mp dE) (H:Ab) (x:Ex) (k:Nat) (hr:H r=some (rdO l k)) (hk:k<=l.length) (Z:L n x k≠ .bot):
  Ad Tryz.prog G 170 [.optr r 0,.agg (dEx x),.int .u8 lo,.int .u8 hi,.func (.func g) [.optr r 0] []] H (RdR r l H ((L n x k).mp dE)):=by
 refine dci Tryz.func170 Tryz.call170 ?_;simp only[go_sem,DVal.cells];intro X aa;simp only[go_sem,DVal.cells];intro rx ad;obtain⟨m1,m2,ae⟩:=Aq.1 ad;have n6:r≠X:=Ac aa hr;have nx:r≠rx:=Ac ae hr;have ha:=((RAt.refl hr).new aa (some (.cells (dEx x) 27))).new ad (some (.cells zY 27));simp only[go_sem];refine(Sx hG _ lo hi 0 h1 h2 h3 ha.get (by omega) (by omega)).mono ?_;rintro _ H1 ⟨rfl,rfl⟩;obtain⟨os,af⟩: ∃os,os=Bk8 hi (hi+1-lo):=⟨_,rfl⟩;rw[<-af] at hL ac⊢
 have M:=n6.symm;have qx:=nx.symm;obtain⟨z,hz⟩: ∃z,z=(some (.cells zY 27):Option DObj):=⟨_,rfl⟩;rw[<-hz] at ha;obtain⟨n',rfl⟩: ∃n',n=n'+1:=by
  cases n with
  |zero=>exact absurd (ab _ _) Z
  |succ n'=>exact⟨n',rfl⟩
 simp only[go_sem];obtain⟨I,hI⟩: ∃I:Nat×Ex×Nat->(Nat->DVal)->Ab->Prop,∀s env heap,I s env heap↔(env 0= .optr r 0/\env 2= .int .u8 lo/\env 3= .int .u8 hi/\env 4= .func (.func g) [.optr r 0] []/\env 6= .optr X 0/\env 10= .optr rx 0/\env 11= .int .u8 (opF l 0 s.2.2 os).1/\s.2.2<=l.length/\s.1<=n'/\L (s.1+1) s.2.1 s.2.2=L (n'+1) x k/\RAt r l (opF l 0 s.2.2 os).2 H heap/\heap X=some (.cells (dEx s.2.1) 27)/\heap rx=z):=⟨_,λ_ _ _=>Iff.rfl⟩;refine Ea9.run I (λs=>s.1) (n',x,k) ((hI _ _ _).2 ?_) ?_
 ·simp only[go_sem,<-hz,m2,M,qx];(repeat' apply And.intro)<;>(try first|rfl|assumption|omega);exact ha.set _
 ·rintro⟨m,y,k1⟩ env heap am;obtain⟨e0,e2,e3,e4,O,ag,S,ah,hm,C,D,Y,gx⟩:=(hI _ _ _).1 am;dsimp only at S ah hm C D Y;rw[hL] at C;have ai:=Er (want:=0) (os:=os) (k:=k1) (l:=l) ac ah;obtain⟨o,ho⟩: ∃o,o=(opF l 0 k1 os).1:=⟨_,rfl⟩;obtain⟨E,aj⟩: ∃E,E=(opF l 0 k1 os).2:=⟨_,rfl⟩;rw[<-ho,<-aj] at C ai;rw[<-ho] at S;rw[<-aj] at D;by_cases c:o=0
  ·(have c':(o:Int)=0:=by omega);rw[if_pos c] at C;rw[hz] at gx;have ao:E=k1:=ai.1 c;rw[ao] at D;simp only[go_sem,O,ag,S,c',Y,gx];rw[<-C];exact RAt.fin (D.own ae qx _) ⟨rfl,rfl⟩
  ·(have c': ¬(o:Int)=0:=by omega);rw[if_neg c] at C;simp only[go_sem,S,c'];refine An pL17 ?_;simp only[go_sem,e4,O,S,Y];have ak:=hT m E (by omega);have U:=hg m (by omega) heap E D.get (by omega);dsimp only at U;cases hTk:T m E with
   |bot=>rw[hTk] at C;exact absurd C.symm Z
   |fail J=>
    rw[hTk] at U C;refine(U (by simp [Res.mp])).mono ?_;rintro e H2 ⟨rfl,rfl⟩;simp only[go_sem];rw[<-C];exact RAt.finP (D.set J) ⟨rfl,rfl⟩
   |ok V J=>
    rw[hTk] at U C ak;dsimp only[Res.then,Adv] at C ak;refine(U (by simp [Res.mp])).mono ?_;rintro e H2 ⟨rfl,rfl⟩;simp only[go_sem,O,dE,M];refine(Bb9 G _ o y V).mono ?_;rintro _ H3 ⟨rfl,rfl⟩;have ap:=Af (both o y V);have hb1:=Cd (both o y V);have aq:=Af y;have ar:(dEx y).drop 9= []:=List.drop_eq_nil_of_le (by omega);simp only[go_sem,e0,e2,e3,O,Y,M,ap,hb1,aq,ar];have al:RAt r l J H (upd (upd heap r (some (rdO l J))) X (some (.cells (dEx (both o y V)) 27))):=(D.set J).own aa M _;refine(Sx hG _ lo hi 0 h1 h2 h3 al.get (by omega) (by omega)).mono ?_;rintro _ H4 ⟨rfl,rfl⟩;rw[<-af];obtain⟨W,rfl⟩: ∃W,m=W+1:=by
     cases m with
     |zero=>rw[ab] at C;exact absurd C.symm Z
     |succ W=>exact⟨W,rfl⟩
    simp only[go_sem];refine⟨(W,both o y V,J),_,Rn.refl _,(hI _ _ _).2 ?_,by dsimp only;omega⟩;simp only[go_sem,e0,e2,e3,e4,O,ag,M,qx,gx,m1,C];(repeat' apply And.intro)<;>(try first|rfl|assumption|omega);exact al.set _
end
section
variable {G:Nat->DVal} {H0 H:Ab} {r k:Nat} {l:List Tok}
theorem Gg4 (hG:GX G) (H:Ab) (hr:H r=some (rdO l k)) (hl:l.length<=12800000) (hk:k<=l.length):Ad Tryz.prog G 165 [.optr r 0,.int .u8 20,.int .u8 21,.int .u8 0] H (RdQ r l H (.int .u8 (opF l 0 k Ky).1) (opF l 0 k Ky).2):=
 Sx hG H 20 21 0 (by decide) (by decide) (by decide) hr (by omega) (by omega)
theorem Fl4 (hG:GX G) (H:Ab) (hr:H r=some (rdO l k)) (hl:l.length<=12800000) (hk:k<=l.length):Ad Tryz.prog G 165 [.optr r 0,.int .u8 18,.int .u8 19,.int .u8 0] H (RdQ r l H (.int .u8 (opF l 0 k Hh).1) (opF l 0 k Hh).2):=
 Sx hG H 18 19 0 (by decide) (by decide) (by decide) hr (by omega) (by omega)
theorem Gg5 (hG:GX G) (H:Ab) (hr:H r=some (rdO l k)) (hl:l.length<=12800000) (hk:k<=l.length):Ad Tryz.prog G 165 [.optr r 0,.int .u8 7,.int .u8 12,.int .u8 0] H (RdQ r l H (.int .u8 (opF l 0 k Nw).1) (opF l 0 k Nw).2):=
 Sx hG H 7 12 0 (by decide) (by decide) (by decide) hr (by omega) (by omega)
theorem Ee1 (hG:GX G) (H:Ab) (want:Nat) (hr:H r=some (rdO l k)) (hl:l.length<=12800000) (hk:k<=l.length):Ad Tryz.prog G 165 [.optr r 0,.int .u8 13,.int .u8 17,.int .u8 want] H (RdQ r l H (.int .u8 (opF l want k Fy).1) (opF l want k Fy).2):=
 Sx hG H 13 17 want (by decide) (by decide) (by decide) hr (by omega) (by omega)
theorem Cb {α:Type} {f:α->DVal} {x:Res α} (h:x≠ .bot):x.mp f≠ .bot:=by cases x<;>simp_all [Res.mp]
theorem Ea {x:List DVal} (hx:x.length=9):
  (if 9<=(By 1 zY).length then
   some (x++List.drop 9 (By 1 zY))
  else none)=some x:=by
 have e: ∀u:List DVal,By 1 u=u:=λu=>by simp [By]
 rw[e,if_pos (by simp),List.drop_eq_nil_of_le (by simp),jH]
theorem He4 {x:List DVal} (hx:x.length=9) (z:List DVal) (hz:z.length=9):x++z.drop 9=x:=by rw[List.drop_eq_nil_of_le (by omega),jH]
theorem Aj {H:Ab} {r x:Nat} {y:Option DObj} {o:DObj} (h:H x=some o) (C:x≠r):upd H r y x=some o:=by rw[Ah _ _ _ _ C];exact h
theorem Dc8 (hG:GX G) (hl:l.length<=12800000) (p:PS) (hA:p.Adv l) (hp:RdC Tryz.prog G l 64 r λk=>(p.primary k).mp dE):RdC Tryz.prog G l 63 r λk=>((Bi l p).factor k).mp dE:=by
 intro H k hr hk hn;dsimp only[Bi] at hn⊢
 have ad:=Er (want:=0) (os:=Ky) (k:=k) (l:=l) Hi1.2.2.2.2.2 hk;refine dci Tryz.func63 Tryz.call63 ?_;simp only[go_sem];intro J L;obtain⟨Ha,O⟩: ∃K,K=upd H J (some (.cells zY 27)):=⟨_,rfl⟩;rw[<-O];have ae:=O.symm▸Aa _ _ _;have n2:r≠J:=Ac L hr;have q2:=n2.symm;have ha:=O.symm▸(RAt.refl hr).new L _;simp only[go_sem];refine(Bb5 G _ ha.get (by omega) (by omega)).mono ?_;rintro _ H1 ⟨rfl,rfl⟩;simp only[go_sem];refine(Gg4 hG _ ha.get hl hk).mono ?_;rintro _ H2 ⟨rfl,S⟩;obtain⟨o,ho⟩: ∃o,o=(opF l 0 k Ky).1:=⟨_,rfl⟩;obtain⟨C,X⟩: ∃C,C=(opF l 0 k Ky).2:=⟨_,rfl⟩;rw[<-ho,<-X] at ad hn⊢
 rw[<-X] at S;have U:=S.symm▸ha.set C;have g2:=S.symm▸Aj ae q2;simp only[go_sem];have D:=hp _ C U.get (by omega);dsimp only at D;cases hpr:p.primary C with
 |bot=>rw[hpr] at hn;exact absurd rfl hn
 |fail V=>
  rw[hpr] at D;refine(D (Cb (by simp))).mono ?_;rintro e H3 ⟨rfl,rfl⟩;simp only[go_sem];exact RAt.finP (U.set V) ⟨rfl,rfl⟩
 |ok x V=>
  rw[hpr] at D;refine(D (Cb (by simp))).mono ?_;rintro e H3 ⟨rfl,Y⟩;have E:=Y.symm▸U.set V;dsimp only[Res.then];have M:=Y.symm▸Aj g2 q2;simp only[go_sem,dE];intro Z I;have n5:J≠Z:=Ac I M;have y:=Af x;have aa:=Cd x;simp only[go_sem,y,aa];by_cases c:o=0
  ·(have c':(o:Int)=0:=by omega);simp only[go_sem,n5,M,y,aa,c'];rw[show Qw o (tk l k).line x=x by rw[Qw,if_pos c]];exact RAt.fin ((E.new I _).own L q2 _) ⟨rfl,rfl⟩
  ·(have c': ¬(o:Int)=0:=by omega);simp only[go_sem,y,c'];rw[Ea y];simp only[go_sem];intro W ab;obtain⟨m1,m2,ac⟩:=Aq.1 ab;have n8:J≠W:=Ac ac M;have q8:=n8.symm;simp only[go_sem,n5,M,y,m2,n8];rw[show Qw o (tk l k).line x= .mk 11 o 0 [] [x] [] (tk l k).line 0 0 by rw[Qw,if_neg c]];have p5:r≠Z:=Ac I E.get;have hs:=(((E.new I (some (.cells (dEx x) 27))).new ab (some (.cells (dEx x) 27))).own (E.lo I) p5.symm (some (.cells (zX 11 o 0 [] (.oslice 9 W 0 1 1) .nilSlice ((tk l k).line)) 27))).own L q2 (some (.cells (zX 11 o 0 [] (.oslice 9 W 0 1 1) .nilSlice ((tk l k).line)) 27));refine Ln.fin hs (Ln.agg (Ln.ex (l:= [x]) hs (Ln.block (e:=27) hs (Sub.lo E ac) ?_ ?_) (.as0 hs))) ⟨rfl,rfl⟩
   ·rw[List.flatMap_singleton];simp [upd,m1,q8]
   ·rw[List.flatMap_singleton,y]
theorem Fl5 (hG:GX G) (hl:l.length<=12800000) (n:Nat) (y: ∀m<n,RdC Tryz.prog G l 63 r λk=>((P l m).factor k).mp dE) (H:Ab) (x:Ex) (k:Nat) (hr:H r=some (rdO l k)) (hk:k<=l.length) (C:(P l n).mulL x k≠ .bot):
  Ad Tryz.prog G 170 [.optr r 0,.agg (dEx x),.int .u8 3,.int .u8 6,.func (.func 63) [.optr r 0] []] H (RdR r l H (((P l n).mulL x k).mp dE)):=
 Bt3 hG _ (λm=>(P l m).factor) (λm=>(P l m).mulL) 3 6 (by decide) (by decide) (by decide) hl (λ_ _=>rfl) (λ_ _ _=>rfl) (λm k hk=>(Jw m).factor k hk) Hi1.2.2.2.2.1 n y H x k hr hk C
theorem Dc9 (hG:GX G) (hl:l.length<=12800000) (n:Nat) (y: ∀m<n,RdC Tryz.prog G l 62 r λk=>((P l m).term k).mp dE) (H:Ab) (x:Ex) (k:Nat) (hr:H r=some (rdO l k)) (hk:k<=l.length) (C:(P l n).addL x k≠ .bot):
  Ad Tryz.prog G 170 [.optr r 0,.agg (dEx x),.int .u8 1,.int .u8 2,.func (.func 62) [.optr r 0] []] H (RdR r l H (((P l n).addL x k).mp dE)):=
 Bt3 hG _ (λm=>(P l m).term) (λm=>(P l m).addL) 1 2 (by decide) (by decide) (by decide) hl (λ_ _=>rfl) (λ_ _ _=>rfl) (λm k hk=>(Jw m).term k hk) Hi1.2.2.2.1 n y H x k hr hk C
theorem Er9 (hG:GX G) (hl:l.length<=12800000) (n:Nat) (O: ∀m≤n,RdC Tryz.prog G l 63 r λk=>((P l m).factor k).mp dE):RdC Tryz.prog G l 62 r λk=>((P l (n+1)).term k).mp dE:=by
 intro H k hr hk hn;have e:(P l (n+1)).term k=((P l n).factor k).then λx k=>(P l n).mulL x k:=rfl
 dsimp only at hn⊢
 rw[e] at hn⊢
 refine dci Tryz.func62 Tryz.call62 ?_;simp only[go_sem];intro S I;obtain⟨Ha,J⟩: ∃K,K=upd H S (some (.cells zY 27)):=⟨_,rfl⟩;rw[<-J];have Z:=J.symm▸Aa _ _ _;have n2:r≠S:=Ac I hr;have q2:=n2.symm;have ha:=J.symm▸(RAt.refl hr).new I _;simp only[go_sem];have D:=O n (Nat.le_refl _) _ k ha.get hk;have U:=(Jw (l:=l) n).factor k hk;dsimp only at D;cases hpr:(P l n).factor k with
 |bot=>rw[hpr] at hn;exact absurd rfl hn
 |fail C=>
  rw[hpr] at D;refine(D (Cb (by simp))).mono ?_;rintro e V ⟨rfl,rfl⟩;simp only[go_sem];exact RAt.finP (ha.set C) ⟨rfl,rfl⟩
 |ok x C=>
  rw[hpr] at D hn U;refine(D (Cb (by simp))).mono ?_;rintro e V ⟨rfl,W⟩;have L:=W.symm▸ha.set C;dsimp only[Res.then,Adv] at hn U⊢
  have g3:=W.symm▸Aj Z q2;simp only[go_sem,dE];have X:(P l n).mulL x C≠ .bot:=λh=>hn (by rw[h];rfl);have E:=Fl5 hG hl n (λm hm=>O m (by omega)) V x C L.get (by omega) X;cases hpc:(P l n).mulL x C with
  |bot=>exact absurd hpc X
  |fail M=>
   rw[hpc] at E;refine E.mono ?_;rintro e H4 ⟨rfl,rfl⟩;simp only[go_sem];exact RAt.finP (L.set M) ⟨rfl,rfl⟩
  |ok y M=>
   rw[hpc] at E;refine E.mono ?_;rintro e H4 ⟨rfl,Y⟩;have aa:=Y.symm▸L.set M;have g4:=Y.symm▸Aj g3 q2;have ab:=Af y;have ac:=Cd y;simp only[go_sem,dE,g4,ab,ac];exact RAt.fin (aa.own I q2 _) ⟨rfl,rfl⟩
end
section
variable {G:Nat->DVal} {H0 H:Ab} {r k:Nat} {l:List Tok}
theorem Dd0 (hG:GX G) (hl:l.length<=12800000) (n:Nat) (hg: ∀m≤n,RdC Tryz.prog G l 62 r λk=>((P l m).term k).mp dE):RdC Tryz.prog G l 61 r λk=>((P l (n+1)).simple k).mp dE:=by
 intro H k hr hk hn;have e:(P l (n+1)).simple k=((P l n).term (opF l 0 k Hh).2).then λx k'=>(P l n).addL (Qw (opF l 0 k Hh).1 (tk l k).line x) k':=rfl
 dsimp only at hn⊢
 rw[e] at hn⊢
 have aq:=Er (want:=0) (os:=Hh) (k:=k) (l:=l) Hi1.2.2.1 hk;refine dci Tryz.func61 Tryz.call61 ?_;simp only[go_sem];intro Y ab;obtain⟨Ha,ac⟩: ∃K,K=upd H Y (some (.cells zY 27)):=⟨_,rfl⟩;rw[<-ac];have ar:=ac.symm▸Aa _ _ _;have n2:r≠Y:=Ac ab hr;have q2:=n2.symm;have ha:=ac.symm▸(RAt.refl hr).new ab _;simp only[go_sem];refine(Bb5 G _ ha.get (by omega) (by omega)).mono ?_;rintro _ H1 ⟨rfl,rfl⟩;simp only[go_sem];refine(Fl4 hG _ ha.get hl hk).mono ?_;rintro _ H2 ⟨rfl,ad⟩;obtain⟨o,ho⟩: ∃o,o=(opF l 0 k Hh).1:=⟨_,rfl⟩;obtain⟨O,al⟩: ∃O,O=(opF l 0 k Hh).2:=⟨_,rfl⟩;rw[<-ho,<-al] at aq hn⊢
 rw[<-al] at ad;have ae:=ad.symm▸ha.set O;have g2:=ad.symm▸Aj ar q2;simp only[go_sem];have Z:=hg n (Nat.le_refl _) _ O ae.get (by omega);have am:=(Jw (l:=l) n).term O (by omega);dsimp only at Z;cases hpr:(P l n).term O with
 |bot=>rw[hpr] at hn;exact absurd rfl hn
 |fail I=>
  rw[hpr] at Z;refine(Z (Cb (by simp))).mono ?_;rintro e S ⟨rfl,rfl⟩;simp only[go_sem];exact RAt.finP (ae.set I) ⟨rfl,rfl⟩
 |ok x I=>
  rw[hpr] at Z hn am;refine(Z (Cb (by simp))).mono ?_;rintro e S ⟨rfl,ao⟩;have ap:=ao.symm▸ae.set I;dsimp only[Res.then,Adv] at hn am⊢
  have g3:=ao.symm▸Aj g2 q2;have U:(P l n).addL (Qw o (tk l k).line x) I≠ .bot:=λh=>hn (by rw[h];rfl);simp only[go_sem,dE];intro D af;have n5:Y≠D:=Ac af g3;have V:=Af x;have au:=Cd x;simp only[go_sem,V,au];by_cases c:o=0
  ·(have c':(o:Int)=0:=by omega);simp only[go_sem,V,c'];rw[show Qw o (tk l k).line x=x by rw[Qw,if_pos c]] at U⊢
   have J:=ap.new af (some (.cells (dEx x) 27));have g5:upd S D (some (.cells (dEx x) 27)) Y=some (.cells zY 27):=Aj g3 n5;obtain⟨C,W⟩: ∃C,C=upd S D (some (.cells (dEx x) 27)):=⟨_,rfl⟩;rw[<-W] at J g5⊢
   have E:=Dc9 hG hl n (λm hm=>hg m (by omega)) C x I J.get (by omega) U;cases hpc:(P l n).addL x I with
   |bot=>exact absurd hpc U
   |fail L=>
    rw[hpc] at E;refine E.mono ?_;rintro e H4 ⟨rfl,rfl⟩;simp only[go_sem];exact RAt.finP (J.set L) ⟨rfl,rfl⟩
   |ok y L=>
    rw[hpc] at E;refine E.mono ?_;rintro e H4 ⟨rfl,aa⟩;have ag:=aa.symm▸J.set L;have g4:=aa.symm▸Aj g5 q2;have ah:=Af y;have ai:=Cd y;simp only[go_sem,dE,g4,ah,ai];exact RAt.fin (ag.own ab q2 _) ⟨rfl,rfl⟩
  ·(have c': ¬(o:Int)=0:=by omega);simp only[go_sem,V,c'];rw[Ea V];simp only[go_sem];intro M av;obtain⟨m1,m2,aj⟩:=Aq.1 av;have n8:Y≠M:=Ac aj g3;simp only[go_sem,V,m2];obtain⟨xe,ak⟩: ∃xe,xe=Qw o (tk l k).line x:=⟨_,rfl⟩;rw[<-ak] at U⊢
   rw[show Qw o (tk l k).line x= .mk 11 o 0 [] [x] [] (tk l k).line 0 0 by rw[Qw,if_neg c]] at ak;obtain⟨c5,aw⟩: ∃c5,c5=(some (.cells (zX 11 o 0 [] (.oslice 9 M 0 1 1) .nilSlice ((tk l k).line)) 27):Option DObj):=⟨_,rfl⟩;obtain⟨C,W⟩: ∃C,C=upd S D c5:=⟨_,rfl⟩;have J:=W.symm▸ap.new af _;have g5:=W.symm▸Aj g3 n5;rw[<-aw];have X:Sub C (upd (upd (upd S D (some (.cells (dEx x) 27))) M (some (.cells (dEx x) 27))) D c5):=by
    intro b ob hb;rw[W] at hb;simp only[upd] at hb⊢
    by_cases e1:b=D
    ·rw[if_pos e1] at hb⊢;exact hb
    ·rw[if_neg e1] at hb⊢
     (have e2:b≠M:=λe=>by rw[e,aj] at hb;cases hb);rw[if_neg e2,if_neg e1];exact hb
   (have ax:C M=none:=by rw[W,Ah _ _ _ _ m1];exact aj);have E:=Dc9 hG hl n (λm hm=>hg m (by omega)) C xe I J.get (by omega) U;have ay:Km (upd (upd (upd S D (some (.cells (dEx x) 27))) M (some (.cells (dEx x) 27))) D c5)
     [.optr r 0,.agg (zX 11 o 0 [] (.oslice 9 M 0 1 1) .nilSlice ((tk l k).line)),.int .u8 1,.int .u8 2,.func (.func 62) [.optr r 0] []] C
     [.optr r 0,.agg (dEx xe),.int .u8 1,.int .u8 2,.func (.func 62) [.optr r 0] []]:=by
    rw[ak];refine .cons (.keep X _) (.cons (Ln.agg (Ln.ex (l:= [x]) X (Ln.block (e:=27) X ax ?_ ?_) (.as0 X))) (.keep X _))
    ·rw[List.flatMap_singleton];simp [upd,m1]
    ·rw[List.flatMap_singleton,V]
   refine ay.call X ?_;cases hpc:(P l n).addL xe I with
   |bot=>exact absurd hpc U
   |fail L=>
    rw[hpc] at E;refine E.mono ?_;rintro e H4 ⟨rfl,rfl⟩;simp only[go_sem];exact RAt.finP (J.set L) ⟨rfl,rfl⟩
   |ok y L=>
    rw[hpc] at E;refine E.mono ?_;rintro e H4 ⟨rfl,aa⟩;have ag:=aa.symm▸J.set L;have g4:=aa.symm▸Aj g5 q2;have ah:=Af y;have ai:=Cd y;simp only[go_sem,dE,g4,ah,ai];exact RAt.fin (ag.own ab q2 _) ⟨rfl,rfl⟩
end
section
variable {G:Nat->DVal} {H0 H:Ab} {r k:Nat} {l:List Tok}
def Ds5 (P:Program) (G:Nat->DVal) (l:List Tok) (f:FuncId) (r:Nat) (a:DVal) (res:Nat->Res DVal):Prop:=
 ∀H k,H r=some (rdO l k)->k<=l.length->res k≠ .bot->Ad P G f [.optr r 0,a] H (RdR r l H (res k))
theorem Ik.set {H B H':Ab} {e:TypeId} {size n:Nat} {cs:List DVal} {v:DVal} {x:Nat} {o:DObj} (h:Ik B e size n cs v H') (s:Sub H B) (hx:H x=none) (C:B x=some o) (y:Option DObj):Ik H e size n cs v (upd H' x y):=by
 rcases h with⟨a,b,c,d⟩|⟨q,h1,h2,h3,h4,h5⟩
 ·exact .inl ⟨a,b,c,Sub.up (s.trans d) hx _⟩
 ·have hq:q≠x:=λe=>by rw[e,C] at h1;cases h1
  exact .inr ⟨q,s.lo h1,h2,h3,by rw[Ah _ _ _ _ hq];exact h4,Sub.up (s.trans h5) hx _⟩
theorem Sub.move {H H':Ab} (h:Sub H H') (r:Nat) (x:Option DObj):Sub (upd H r x) (upd H' r x):=h.both r x
theorem Cc8 (hG:GX G) (hl:l.length<=12800000) (p:PS) (hA:p.Adv l) (hp:RdC Tryz.prog G l 61 r λk=>(p.simple k).mp dE) (x:Ex):Ds5 Tryz.prog G l 60 r (.agg (dEx x)) λk=>((Bi l p).relation x k).mp dE:=by
 intro H k hr hk hn;dsimp only[Bi] at hn⊢
 have a6:=Er (want:=0) (os:=Nw) (k:=k) (l:=l) Hi1.2.1 hk;have ae:=Af x;have bk:=Cd x;have a7:(dEx x)[6]? =some (dI x.line):=by cases x;rfl
 refine dci Tryz.func60 Tryz.call60 ?_;simp only[go_sem,DVal.cells];intro r3 a8;obtain⟨Hb,ay⟩: ∃K,K=upd H r3 (some (.cells (dEx x) 27)):=⟨_,rfl⟩;rw[<-ay];have a9:=ay.symm▸Aa _ _ _;have n3:r≠r3:=Ac a8 hr;have q3:=n3.symm;simp only[go_sem,DVal.cells];intro V am;obtain⟨Ha,ao⟩: ∃K,K=upd Hb V (some (.cells zY 27)):=⟨_,rfl⟩;rw[<-ao];have bl:=ao.symm▸Aa _ _ _;have a0:=ay.symm▸(RAt.refl hr).new a8 _;have n4:r≠V:=Ac am a0.get;have J:=n4.symm;have m3:r3≠V:=Ac am a9;have ap:H V=none:=a0.lo am;have ha:=ao.symm▸a0.new am _;have g3:=ao.symm▸Aj a9 m3;simp only[go_sem];refine(Gg5 hG _ ha.get hl hk).mono ?_;rintro _ H2 ⟨rfl,aq⟩;obtain⟨o,ho⟩: ∃o,o=(opF l 0 k Nw).1:=⟨_,rfl⟩;obtain⟨k2,ba⟩: ∃k2,k2=(opF l 0 k Nw).2:=⟨_,rfl⟩;rw[<-ho,<-ba] at a6 hn⊢
 rw[<-ba] at aq;have L:=aq.symm▸ha.set k2;have ab:=aq.symm▸Aj g3 q3;have ar:=aq.symm▸Aj bl J;by_cases c:o=0
 ·have c':(o:Int)=0:=by omega
  have bm:k2=k:=a6.1 c;rw[if_neg (by omega)] at hn⊢
  rw[bm] at L;refine(λ(tail: ∀(S:DS) (C:Nat) (I:Int),RAt r l C H S.heap->S.heap r3=some (.cells (dEx x) 27)->S.heap V=some (.cells zY 27)->C<=l.length->S.env 0= .optr r 0->S.env 3= .optr r3 0->S.env 4= .optr V 0->S.env 6= .int .u8 I->(inK l x I C p).mp dE≠ .bot->(?T:DS->Nat->Int->Prop) S C I)=> ?A) ?B
  case A=>
   simp only[go_sem,c'];intro q1 bn;simp only[go_sem];refine(Bb7 hG H2 q1 wIn bn L.get (by omega) (by omega)).mono ?_;rintro _ H4 ⟨rfl,D⟩;by_cases b1:isW l k [wIn]=true
   ·rw[if_pos b1] at hn D⊢
    have O:=D.symm▸L.set _;have X:=D.symm▸Aj ab q3;have ac:=D.symm▸Aj ar J;have Y:=Bf b1 hk;obtain⟨C,af⟩: ∃C,C=k+1:=⟨_,rfl⟩;rw[<-af] at hn O⊢
    rw[jQ,<-af] at Y;simp only[go_sem,b1];obtain⟨I,a1⟩: ∃I:Int,I=13:=⟨_,rfl⟩;rw[<-a1] at hn⊢
    generalize hS:(DS.mk _ H4:DS)=S;(have hH:S.heap=H4:=by rw[<-hS]);exact tail S C I (by rw[hH];exact O) (by rw[hH];exact X) (by rw[hH];exact ac) Y (by rw[<-hS];first|rfl|simp only[go_sem]) (by rw[<-hS];first|rfl|simp only[go_sem]) (by rw[<-hS];first|rfl|simp only[go_sem]) (by rw[<-hS];first|rfl|simp only[go_sem]) hn
   ·(have bo:isW l k [wIn]=false:=by simpa using b1);rw[if_neg b1] at hn D⊢
    rw[Ef L.get] at D;subst D;simp only[go_sem,bo];intro q2 bp;simp only[go_sem];refine(He3 hG _ q2 Wa wIn bp L.get (by omega) (by omega)).mono ?_;rintro _ H4 ⟨rfl,D⟩;by_cases b2:isW l k [Wa,wIn]=true
    ·rw[if_pos b2] at hn D⊢
     have O:=D.symm▸L.set _;have X:=D.symm▸Aj ab q3;have ac:=D.symm▸Aj ar J;have Y:=Bf b2 hk;obtain⟨C,af⟩: ∃C,C=k+2:=⟨_,rfl⟩;rw[<-af] at hn O⊢
     rw[show [Wa,wIn].length=2 from rfl,<-af] at Y;simp only[go_sem,b2];obtain⟨I,a1⟩: ∃I:Int,I=14:=⟨_,rfl⟩;rw[<-a1] at hn⊢
     generalize hS:(DS.mk _ H4:DS)=S;(have hH:S.heap=H4:=by rw[<-hS]);exact tail S C I (by rw[hH];exact O) (by rw[hH];exact X) (by rw[hH];exact ac) Y (by rw[<-hS];first|rfl|simp only[go_sem]) (by rw[<-hS];first|rfl|simp only[go_sem]) (by rw[<-hS];first|rfl|simp only[go_sem]) (by rw[<-hS];first|rfl|simp only[go_sem]) hn
    ·(have bq:isW l k [Wa,wIn]=false:=by simpa using b2);rw[if_neg b2] at hn D⊢
     rw[Ef L.get] at D;subst D;simp only[go_sem,bq,ab,ar,ae,bk];exact RAt.fin (L.own ap J _) ⟨rfl,rfl⟩
  case B=>
   rintro⟨E,H4⟩ C I O X ac Y z0 z3 z4 z6 hn;dsimp only at O X ac z0 z3 z4 z6;refine An (.take 0 (.take 1 (.go 2 [0] (.go 3 [] (.take 4 .done))))) ?_;simp only[go_sem,X,z0,z3];unfold inK at hn⊢
   have M:=hp _ C O.get Y;dsimp only at M;have bb:=hA.simple C Y;cases hpr:p.simple C with
   |bot=>rw[hpr] at hn;exact absurd rfl hn
   |fail k5=>
    rw[hpr] at M;refine(M (Cb (by simp))).mono ?_;rintro e H5 ⟨rfl,rfl⟩;simp only[go_sem];exact RAt.finP (O.set k5) ⟨rfl,rfl⟩
   |ok y k5=>
    rw[hpr] at M hn bb;refine(M (Cb (by simp))).mono ?_;rintro e H5 ⟨rfl,a2⟩;have au:=a2.symm▸O.set k5;have av:=a2.symm▸Aj X q3;have aw:=a2.symm▸Aj ac J;dsimp only[Res.then,Adv] at hn bb⊢
    have ag:=Af y;simp only[go_sem,z3,dE,X,av];rw[Kt ae ag];simp only[go_sem];intro U aa;(have ah: [x,y].flatMap dEx=dEx x++dEx y:=by simp);obtain⟨H7,ad⟩: ∃K,K=upd H5 U (some (.cells (dEx x++dEx y) 27)):=⟨_,rfl⟩;rw[<-ad];have ax:=ad.symm▸Aa _ _ _;have br:r3≠U:=Ac aa av;have bs:V≠U:=Ac aa aw;have a3:r≠U:=Ac aa au.get;have ai:=ad.symm▸au.new aa _;have bc:=ad.symm▸Aj av br;have bd:=ad.symm▸Aj aw bs;have be:=ad.symm▸(Sub.refl _).new aa _;simp only[go_sem,z0];intro q7 bt;simp only[go_sem];refine(Bb7 hG H7 q7 Et bt ai.get (by omega) (by omega)).mono ?_;rintro _ H8 ⟨rfl,Z⟩;by_cases b3:isW l k5 [Et]=true
    ·rw[if_pos b3] at hn Z⊢
     simp only[go_sem,z0,b3];have bf:=Z.symm▸ai.set _;have cf:=Z.symm▸Aj bc q3;have cg:=Z.symm▸Aj bd J;have bg:=Bf b3 (by omega);rw[jQ] at bg;have aj:=hp _ (k5+1) bf.get bg;dsimp only at aj;cases hpz2:p.simple (k5+1) with
     |bot=>rw[hpz2] at hn;exact absurd rfl hn
     |fail k6=>
      rw[hpz2] at aj;refine(aj (Cb (by simp))).mono ?_;rintro e H9 ⟨rfl,rfl⟩;simp only[go_sem];exact RAt.finP (bf.set k6) ⟨rfl,rfl⟩
     |ok z k6=>
      rw[hpz2] at aj hn;refine(aj (Cb (by simp))).mono ?_;rintro e H9 ⟨rfl,bu⟩;have bh:=Af z;dsimp only[Res.then];simp only[go_sem,dE];rw[Ea bh];simp only[go_sem];intro bv bi;obtain⟨Bk,ak⟩: ∃K,K=upd H5 r (some (rdO l k6)):=⟨_,rfl⟩;have a4:H9=upd H7 r (some (rdO l k6)):=by
       rw[bu,Z];funext b;simp only[upd];split<;>rfl
      (have bw:Sub Bk H9:=by rw[ak,a4];exact be.move r _);have hv:Ik Bk 27 9 2 ([x,y].flatMap dEx) (.oslice 9 U 0 2 2) H9:= .inr ⟨U,by rw[ak,Ah _ _ _ _ a3.symm];exact aa,by rw[ah,jC,ae,ag],rfl,by rw[ah,a4];exact Aj ax a3.symm,bw⟩;rw[ah] at hv;(have bj:H9 U=some (.cells (dEx x++dEx y) 27):=by rw[a4];exact Aj ax a3.symm);have bx:U≠bv:=Ac bi bj;simp only[go_sem];rw[if_neg bx,bj];refine Ik.appendO (m:=1) (hv.new bi _) bh (by omega) λv2 bz al=> ?_;(have e3:dEx x++dEx y++dEx z= [x,y,z].flatMap dEx:=by simp);rw[e3] at al;have h9:=ak.symm▸au.set k6;have b3:=ak.symm▸Aj av q3;have b4:=ak.symm▸Aj aw J;have b0:=al.keep b3;have b5:=al.keep b4;obtain⟨b6,hc2⟩:=al.cell1;have W:=λyy=>al.set h9 (x:=V) (by rw[Ah _ _ _ _ J];exact ap) b4 yy;simp only[go_sem,z3,z4,z6,b0,b5,b6,hc2,a7];exact Ln.fin (W _).sub (Ln.agg (Ln.ex (l:= [x,y,z]) (W _).sub (Ln.own (W _)) (.as0 (W _).sub))) ⟨rfl,rfl⟩
    ·(have b7:isW l k5 [Et]=false:=by simpa using b3);rw[if_neg b3] at hn Z⊢
     rw[Ef ai.get] at Z;subst Z;(have b8:List.take 9 (List.drop 9 (dEx x++dEx y))=dEx y:=by rw[List.drop_left' ae];exact List.take_of_length_le (by omega));(have b9:18<=(dEx x++dEx y).length:=by rw[jC];omega);simp(disch:=omega)only[go_sem,b7,ax,b8,b9];refine(Vk G _ y).mono ?_;rintro _ H9 ⟨rfl,rfl⟩;by_cases b4:Bn y=true
     ·rw[if_pos b4] at hn⊢
      have hv:Ik H5 27 9 2 ([x,y].flatMap dEx) (.oslice 9 U 0 2 2) H9:= .inr ⟨U,aa,by rw[ah,jC,ae,ag],rfl,by rw[ah];exact ax,be⟩;have W:=λyy=>hv.set au (x:=V) (by rw[Ah _ _ _ _ J];exact ap) aw yy;simp only[go_sem,z3,z4,z6,b4,bc,bd,a7];exact Ln.fin (W _).sub (Ln.agg (Ln.ex (l:= [x,y]) (W _).sub (Ln.own (W _)) (.as0 (W _).sub))) ⟨rfl,rfl⟩
     ·(have ca:Bn y=false:=by simpa using b4);rw[if_neg b4] at hn⊢
      simp only[go_sem,z0,ca];refine(Bb6 G _ ai.get).mono ?_;rintro _ bz ⟨rfl,rfl⟩;simp only[go_sem];exact RAt.finP ai ⟨rfl,rfl⟩
 ·have c': ¬(o:Int)=0:=by omega
  rw[if_pos c] at hn⊢
  simp only[go_sem,c'];refine An pL17 ?_;simp only[go_sem,ab];have M:=hp _ k2 L.get (by omega);dsimp only at M;cases hpr:p.simple k2 with
  |bot=>rw[hpr] at hn;exact absurd rfl hn
  |fail k3=>
   rw[hpr] at M;refine(M (Cb (by simp))).mono ?_;rintro e H3 ⟨rfl,rfl⟩;simp only[go_sem];exact RAt.finP (L.set k3) ⟨rfl,rfl⟩
  |ok y k3=>
   rw[hpr] at M;refine(M (Cb (by simp))).mono ?_;rintro e H3 ⟨rfl,a5⟩;have cb:=a5.symm▸L.set k3;have cc:=a5.symm▸Aj ab q3;have cd:=a5.symm▸Aj ar J;dsimp only[Res.then];simp only[go_sem,dE,ab,cc];refine(Bb9 G _ o x y).mono ?_;rintro _ H5 ⟨rfl,rfl⟩;have ag:=Af (both o x y);have ce:=Cd (both o x y);simp only[go_sem,cd,ag,ce];exact RAt.fin (cb.own ap J _) ⟨rfl,rfl⟩
end
section
variable {G:Nat->DVal} {H0 H:Ab} {r k:Nat} {l:List Tok}
theorem Es0 (hl:l.length<=12800000) (p:PS) (Y:p.Adv l) (hs:RdC Tryz.prog G l 61 r λk=>(p.simple k).mp dE) (Z: ∀x,Ds5 Tryz.prog G l 164 r (.agg (dEx x)) λk=>(p.rest x k).mp dE):RdC Tryz.prog G l 58 r λk=>((Bi l p).expr k).mp dE:=by
 intro H k hr hk hn;dsimp only[Bi] at hn⊢
 refine dci Tryz.func58 Tryz.call58 ?_;simp only[go_sem];intro O I;obtain⟨Ha,J⟩: ∃K,K=upd H O (some (.cells zY 27)):=⟨_,rfl⟩;rw[<-J];have aa:=J.symm▸Aa _ _ _;have n2:r≠O:=Ac I hr;have q2:=n2.symm;have ha:=J.symm▸(RAt.refl hr).new I _;simp only[go_sem];have D:=hs _ k ha.get hk;have S:=Y.simple k hk;dsimp only at D;cases hpr:p.simple k with
 |bot=>rw[hpr] at hn;exact absurd rfl hn
 |fail C=>
  rw[hpr] at D;refine(D (Cb (by simp))).mono ?_;rintro e U ⟨rfl,rfl⟩;simp only[go_sem];exact RAt.finP (ha.set C) ⟨rfl,rfl⟩
 |ok x C=>
  rw[hpr] at D hn S;refine(D (Cb (by simp))).mono ?_;rintro e U ⟨rfl,V⟩;have L:=V.symm▸ha.set C;dsimp only[Res.then,Adv] at hn S⊢
  have g3:=V.symm▸Aj aa q2;simp only[go_sem,dE];have W:p.rest x C≠ .bot:=λh=>hn (by rw[h];rfl);have E:=Z x U C L.get (by omega) (Cb W);dsimp only at E;cases hpc:p.rest x C with
  |bot=>exact absurd hpc W
  |fail M=>
   rw[hpc] at E;refine E.mono ?_;rintro e H4 ⟨rfl,rfl⟩;simp only[go_sem];exact RAt.finP (L.set M) ⟨rfl,rfl⟩
  |ok y M=>
   rw[hpc] at E;refine E.mono ?_;rintro e H4 ⟨rfl,X⟩;have ab:=X.symm▸L.set M;have g4:=X.symm▸Aj g3 q2;have ac:=Af y;have ad:=Cd y;simp only[go_sem,dE,g4,ac,ad];exact RAt.fin (ab.own I q2 _) ⟨rfl,rfl⟩
theorem Es1 {os:List Nat} (h:(opF l 0 k os).1≠0):opF l (opF l 0 k os).1 k os=opF l 0 k os:=by
 have key: ∀ {os:List Nat} {w:Nat},(opF l 0 k os).1=w->w≠0->opF l w k os=opF l 0 k os:=by
  intro os w hw h
  induction os with
  |nil=>rfl
  |cons o m ih=>
   simp only[opF] at hw⊢
   by_cases hi:isW l k (Ay o)=true
   ·simp only[hi,if_true,ne_eq,not_true_eq_false,false_and,if_false] at hw⊢
    rw[if_neg (by rintro⟨_,h2⟩;exact h2 hw)]
   ·simp only[hi,if_false,Bool.false_eq_true] at hw⊢
    exact ih hw
 exact key rfl h
theorem Es2 (hG:GX G) (hl:l.length<=12800000) (n:Nat) (hs: ∀m≤n,RdC Tryz.prog G l 61 r λk=>((P l m).simple k).mp dE) (au: ∀m≤n,∀x,Ds5 Tryz.prog G l 60 r (.agg (dEx x)) λk=>((P l m).relation x k).mp dE) (x:Ex):Ds5 Tryz.prog G l 164 r (.agg (dEx x)) λk=>((P l (n+1)).rest x k).mp dE:=by
 intro H k hr hk hn;have e:(P l (n+1)).rest x k=((P l n).relation x k).then λx k=>(P l n).restL (opF l 0 k Fy).1 x k:=rfl
 dsimp only at hn⊢
 rw[e] at hn⊢
 refine dci Tryz.func164 Tryz.call164 ?_;simp only[go_sem,DVal.cells];intro E ac;obtain⟨Hb,aj⟩: ∃K,K=upd H E (some (.cells (dEx x) 27)):=⟨_,rfl⟩;rw[<-aj];have av:=aj.symm▸Aa _ _ _;have n3:r≠E:=Ac ac hr;have J:=n3.symm;simp only[go_sem,DVal.cells];intro M ad;obtain⟨Ha,ae⟩: ∃K,K=upd Hb M (some (.cells zY 27)):=⟨_,rfl⟩;rw[<-ae];have a5:=ae.symm▸Aa _ _ _;have ak:=aj.symm▸(RAt.refl hr).new ac _;have n4:r≠M:=Ac ad ak.get;have O:=n4.symm;have m3:E≠M:=Ac ad av;have m4:=m3.symm;have a6:H M=none:=ak.lo ad;have ha:=ae.symm▸ak.new ad _;have g3:=ae.symm▸Aj av m3;have a7:=Af x;simp only[go_sem,g3];have X:=au n (Nat.le_refl _) x _ k ha.get hk;have af:=(Jw (l:=l) n).relation x k hk;dsimp only at X;cases hpr:(P l n).relation x k with
 |bot=>rw[hpr] at hn;exact absurd rfl hn
 |fail D=>
  rw[hpr] at X;refine(X (Cb (by simp))).mono ?_;rintro e H3 ⟨rfl,rfl⟩;simp only[go_sem];exact RAt.finP (ha.set D) ⟨rfl,rfl⟩
 |ok S D=>
  rw[hpr] at X hn af;refine(X (Cb (by simp))).mono ?_;rintro e H3 ⟨rfl,al⟩;have a8:=al.symm▸ha.set D;dsimp only[Res.then,Adv] at hn af⊢
  have a9:=al.symm▸Aj g3 J;have ba:=al.symm▸Aj a5 O;have bb:=Af S;have bc:=Cd S;have bd:(dEx x).drop 9= []:=List.drop_eq_nil_of_le (by omega);simp only[go_sem,dE,a9,bb,bc,a7,bd];obtain⟨Hc,ag⟩: ∃K,K=upd H3 E (some (.cells (dEx S) 27)):=⟨_,rfl⟩;rw[<-ag];have aw:=ag.symm▸a8.own ac J _;have be:=ag.symm▸Aa _ _ _;have bf:=ag.symm▸Aj ba m4;refine(Ee1 hG _ 0 aw.get hl af.2).mono ?_;rintro _ H5 ⟨rfl,Y⟩;obtain⟨o,ho⟩: ∃o,o=(opF l 0 D Fy).1:=⟨_,rfl⟩;obtain⟨q,hq⟩: ∃q:Nat->Nat×Nat,∀k,q k=if o=0 then(0,k) else opF l o k Fy:=⟨_,λ_=>rfl⟩
  have bg: ∀k,k<=l.length->((q k).1=0->(q k).2=k)/\((q k).1≠0->k+1<=(q k).2)/\(q k).2<=l.length:=by
   intro k hk;rw[hq];by_cases c:o=0
   ·rw[if_pos c];exact⟨λ_=>rfl,λh=>absurd rfl h,hk⟩
   ·rw[if_neg c];have:=Er (want:=o) (os:=Fy) (k:=k) (l:=l) Hi1.1 hk;exact⟨this.1,this.2.1,this.2.2.1⟩
  have hL: ∀m x k,(P l (m+1)).restL o x k=if(q k).1=0 then .ok x k else((P l m).simple (q k).2).then λy k=>((P l m).relation y k).then λy k=>(P l m).restL o (both o x y) k:=by
   intro m x k;have:(P l (m+1)).restL o x k=if o=0 then .ok x k else if(opF l o k Fy).1=0 then .ok x k else((P l m).simple (opF l o k Fy).2).then λy k=>((P l m).relation y k).then λy k=>(P l m).restL o (both o x y) k:=rfl
   rw[this,hq];by_cases c:o=0
   ·rw[if_pos c,if_pos c,if_pos rfl]
   ·rw[if_neg c,if_neg c]
  have am:(opF l 0 D Fy)=(o,(q D).2)/\(q D).1=o:=by
   rw[hq];by_cases c:o=0
   ·have h0:=Er (want:=0) (os:=Fy) (k:=D) (l:=l) Hi1.1 af.2;rw[if_pos c];exact⟨Prod.ext ho.symm (h0.1 (ho▸c)),c.symm⟩
   ·have h0:=Es1 (l:=l) (k:=D) (os:=Fy) (ho▸c);rw[<-ho] at h0;rw[if_neg c,h0];exact⟨Prod.ext ho.symm rfl,ho.symm⟩
  rw[am.1] at hn⊢
  rw[am.1] at Y;dsimp only at hn Y⊢
  have ah:(P l n).restL o S D≠ .bot:=λh=>hn (by rw[h];rfl);obtain⟨n',rfl⟩: ∃n',n=n'+1:=by
   cases n with
   |zero=>exact absurd rfl ah
   |succ n'=>exact⟨n',rfl⟩
  have br:=Y.symm▸aw.set _;have bs:=Y.symm▸Aj be J;have bt:=Y.symm▸Aj bf O;simp only[go_sem];obtain⟨I,hI⟩: ∃I:Nat×Ex×Nat->(Nat->DVal)->Ab->Prop,∀s env heap,I s env heap↔(env 0= .optr r 0/\env 3= .optr E 0/\env 4= .optr M 0/\env 5= .int .u8 o/\env 6= .int .u8 (q s.2.2).1/\s.2.2<=l.length/\s.1<=n'/\(P l (s.1+1)).restL o s.2.1 s.2.2=(P l (n'+1)).restL o S D/\RAt r l (q s.2.2).2 H heap/\heap E=some (.cells (dEx s.2.1) 27)/\heap M=some (.cells zY 27)):=⟨_,λ_ _ _=>Iff.rfl⟩;refine Ea9.run I (λs=>s.1) (n',S,D) ((hI _ _ _).2 ?_) ?_
  ·simp only[go_sem,am.2];(repeat' apply And.intro)<;>(try first|rfl|assumption|omega)
   done
  ·rintro⟨m,y,k1⟩ env heap bh;obtain⟨e0,U,e4,e5,e6,ax,hm,C,L,Z,gx⟩:=(hI _ _ _).1 bh;dsimp only at e6 ax hm C L Z;rw[hL] at C;have ay:=bg k1 ax;obtain⟨o1,ai⟩: ∃o1,o1=(q k1).1:=⟨_,rfl⟩;obtain⟨V,a0⟩: ∃V,V=(q k1).2:=⟨_,rfl⟩;rw[<-ai,<-a0] at C ay;rw[<-ai] at e6;rw[<-a0] at L;by_cases c:o1=0
   ·(have c':(o1:Int)=0:=by omega);rw[if_pos c] at C;have bi:V=k1:=ay.1 c;rw[bi] at L;simp only[go_sem,U,e4,e6,c',Z,gx];rw[<-C];exact RAt.fin (L.own a6 O _) ⟨rfl,rfl⟩
   ·(have c': ¬(o1:Int)=0:=by omega);rw[if_neg c] at C;simp only[go_sem,e6,c'];refine An (.take 0 (.take 1 (.take 2 (.take 3 (.go 4 [1] (.go 5 [1] (.go 6 [] (.go 7 [] .done)))))))) ?_;simp only[go_sem,e0,U,e5,Z];have bj:o≠0:=by
     intro h0;rw[hq,if_pos h0] at ai;exact c ai
    (have bk: ∀k,q k=opF l o k Fy:=λk=>by rw[hq,if_neg bj]);have aa:=hs m (by omega) heap V L.get (by omega);have a1:=(Jw (l:=l) m).simple V (by omega);dsimp only at aa;cases hp1:(P l m).simple V with
    |bot=>rw[hp1] at C;exact absurd C.symm ah
    |fail W=>
     rw[hp1] at aa C;refine(aa (Cb (by simp))).mono ?_;rintro e H6 ⟨rfl,rfl⟩;simp only[go_sem];rw[<-C];exact RAt.finP (L.set W) ⟨rfl,rfl⟩
    |ok y1 W=>
     rw[hp1] at aa C a1;dsimp only[Res.then,Adv] at C a1;refine(aa (Cb (by simp))).mono ?_;rintro e H6 ⟨rfl,ao⟩;have ap:=ao.symm▸L.set W;have aq:=ao.symm▸Aj Z J;have bl:=ao.symm▸Aj gx O;simp only[go_sem,U,dE,Z,aq];have ab:=au m (by omega) y1 H6 W ap.get (by omega);have a2:=(Jw (l:=l) m).relation y1 W (by omega);dsimp only at ab;cases hp2:(P l m).relation y1 W with
     |bot=>rw[hp2] at C;exact absurd C.symm ah
     |fail k5=>
      rw[hp2] at ab C;refine(ab (Cb (by simp))).mono ?_;rintro e H7 ⟨rfl,rfl⟩;simp only[go_sem];rw[<-C];exact RAt.finP (ap.set k5) ⟨rfl,rfl⟩
     |ok y2 k5=>
      rw[hp2] at ab C a2;dsimp only[Res.then,Adv] at C a2;refine(ab (Cb (by simp))).mono ?_;rintro e H7 ⟨rfl,ar⟩;have bm:=ar.symm▸ap.set k5;have a3:=ar.symm▸Aj aq J;have bn:=ar.symm▸Aj bl O;simp only[go_sem,U,dE,aq,a3];refine(Bb9 G _ o y y2).mono ?_;rintro _ H8 ⟨rfl,rfl⟩;have bo:=Af (both o y y2);have hb1:=Cd (both o y y2);have bp:=Af y;have bq:(dEx y).drop 9= []:=List.drop_eq_nil_of_le (by omega);simp only[go_sem,e0,U,e5,a3,bo,hb1,bp,bq];have a4:RAt r l k5 H (upd H8 E (some (.cells (dEx (both o y y2)) 27))):=bm.own ac J _;refine(Ee1 hG _ o a4.get hl (by omega)).mono ?_;rintro _ H9 ⟨rfl,rfl⟩;rw[<-bk];obtain⟨m',rfl⟩: ∃m',m=m'+1:=by
       cases m with
       |zero=>exact absurd C.symm ah
       |succ m'=>exact⟨m',rfl⟩
      simp only[go_sem];refine⟨(m',both o y y2,k5),_,Rn.refl _,(hI _ _ _).2 ?_,by dsimp only;omega⟩;simp only[go_sem,e0,U,e4,e5,J,O,m4,bn,C];(repeat' apply And.intro)<;>(try first|rfl|assumption|omega);exact a4.set _
end
section
variable {G:Nat->DVal} {H0 H:Ab} {r k:Nat} {l:List Tok}
theorem Cp1 (hG:GX G) (hl:l.length<=12800000) (p:PS) (ag:RdC Tryz.prog G l 173 r λk=>(p.paren k).mp dE) (ah:RdC Tryz.prog G l 65 r λk=>(p.name k).mp dE):RdC Tryz.prog G l 64 r λk=>((Bi l p).primary k).mp dE:=by
 intro H k hr hk hn;dsimp only[Bi] at hn⊢
 obtain⟨t,ht⟩: ∃t,t=tk l k:=⟨_,rfl⟩;rw[<-ht] at hn⊢
 have hw:IntKind.i64.wrap ((k:Int)+1)=((k+1:Nat):Int):=by rw[IntKind.wrap_i64];omega
 refine dci Tryz.func64 Tryz.call64 ?_;simp only[go_sem];intro W L;obtain⟨Ha,X⟩: ∃K,K=upd H W (some (.cells zY 27)):=⟨_,rfl⟩;rw[<-X];have ad:=X.symm▸Aa _ _ _;have n2:r≠W:=Ac L hr;have q2:=n2.symm;have ha:=X.symm▸(RAt.refl hr).new L _;simp only[go_sem];refine(Ae4 G _ ha.get (by omega) (by omega)).mono ?_;rintro _ H1 ⟨rfl,rfl⟩;rw[<-ht];simp only[go_sem];intro Y Z;have ai:W≠Y:=Ac Z ad;have n3:r≠Y:=Ac Z ha.get;have q3:=n3.symm;simp only[go_sem,Cu];obtain⟨Hc,O⟩: ∃K,K=upd H1 Y (some (.cells [.int .u8 t.kind,dI t.line,.str t.text,dI t.n] 31)):=⟨_,rfl⟩;rw[<-O];have C:=O.symm▸ha.new Z _;have S:=O.symm▸Aj ad ai;have ae:=O.symm▸Aa _ _ _;have af:=C.get;unfold rdO at af;by_cases c:t.kind=3
 ·rw[if_pos c] at hn⊢
  simp only[go_sem,ae,c,af,hw,q3,q2,S];have E:=λy=>(C.set (k+1)).own L q2 y;exact Ln.fin (E _) (Ln.agg (Ln.ex (E _) (.exs0 (E _)) (.as0 (E _)))) ⟨rfl,rfl⟩
 ·rw[if_neg c] at hn⊢
  simp only[go_sem,c];intro w1 aj;simp only[go_sem];refine(Bb7 hG _ w1 Gg aj C.get (by omega) (by omega)).mono ?_;rintro _ H2 ⟨rfl,I⟩;by_cases U:isW l k [Gg]=true
  ·rw[if_pos U] at hn I⊢
   have ak:=I.symm▸C.set _;have al:=I.symm▸Aj S q2;have am:=I.symm▸Aj ae q3;simp only[go_sem,U,al,am];have E:=λy=>ak.own L q2 y;exact Ln.fin (E _) (Ln.agg (Ln.ex (E _) (.exs0 (E _)) (.as0 (E _)))) ⟨rfl,rfl⟩
  ·(have ao:isW l k [Gg]=false:=by simpa using U);rw[if_neg U] at hn I⊢
   rw[Ef C.get] at I;subst I;simp only[go_sem,ao];intro w2 ap;simp only[go_sem];refine(is1 hG _ w2 Bc ap C.get (by omega) (by omega)).mono ?_;rintro _ H3 ⟨rfl,rfl⟩;by_cases V:isW l k [Bc]=true
   ·rw[if_pos V] at hn⊢
    simp only[go_sem,V];have D:=ag _ k C.get hk;dsimp only at D;cases hpr:p.paren k with
    |bot=>rw[hpr] at hn;exact absurd rfl hn
    |fail J=>
     rw[hpr] at D;refine(D (Cb (by simp))).mono ?_;rintro e H4 ⟨rfl,rfl⟩;simp only[go_sem];exact RAt.finP (C.set J) ⟨rfl,rfl⟩
    |ok y J=>
     rw[hpr] at D;refine(D (Cb (by simp))).mono ?_;rintro e H4 ⟨rfl,M⟩;have aa:=M.symm▸C.set J;have g4:=M.symm▸Aj S q2;have ab:=Af y;have ac:=Cd y;simp only[go_sem,dE,g4,ab,ac];exact RAt.fin (aa.own L q2 _) ⟨rfl,rfl⟩
   ·(have aq:isW l k [Bc]=false:=by simpa using V);rw[if_neg V] at hn⊢
    simp only[go_sem,aq];have D:=ah _ k C.get hk;dsimp only at D;cases hpr:p.name k with
    |bot=>rw[hpr] at hn;exact absurd rfl hn
    |fail J=>
     rw[hpr] at D;refine(D (Cb (by simp))).mono ?_;rintro e H4 ⟨rfl,rfl⟩;simp only[go_sem];exact RAt.finP (C.set J) ⟨rfl,rfl⟩
    |ok y J=>
     rw[hpr] at D;refine(D (Cb (by simp))).mono ?_;rintro e H4 ⟨rfl,M⟩;have aa:=M.symm▸C.set J;have g4:=M.symm▸Aj S q2;have ab:=Af y;have ac:=Cd y;simp only[go_sem,dE,g4,ab,ac];exact RAt.fin (aa.own L q2 _) ⟨rfl,rfl⟩
end
def dC (c:Ch):DVal:= .agg (dCh c)
def dA (a:As):DVal:= .agg (dAs a)
section
variable {G:Nat->DVal} {H0 H H':Ab} {r k:Nat} {l:List Tok}
theorem Ln.choice {y:Int} {v:DVal} {m:List Ex} (hs:Sub H H') (h:Ln H' v H (dXs m)):Km H' [.int .u8 y,v] H (dCh (.mk y m)):=by
 rw[An9];exact .cons (.keep hs _) (.cons h .nil)
theorem Dd1 (hG:GX G) (hl:l.length<=12800000) (p:PS) (hA:p.Adv l) (hs:RdC Tryz.prog G l 61 r λk=>(p.simple k).mp dE) (au: ∀x,Ds5 Tryz.prog G l 164 r (.agg (dEx x)) λk=>(p.rest x k).mp dE):RdC Tryz.prog G l 294 r λk=>((Bi l p).choice k).mp dC:=by
 intro H k hr hk hn;dsimp only[Bi] at hn⊢
 refine dci Tryz.func294 Tryz.call294 ?_;simp only[go_sem];intro O S;obtain⟨Ha,ad⟩: ∃K,K=upd H O (some (.cells [.int .u8 0,.nilSlice] 47)):=⟨_,rfl⟩;rw[<-ad];have aj:=ad.symm▸Aa _ _ _;have n2:r≠O:=Ac S hr;have q2:=n2.symm;have ha:=ad.symm▸(RAt.refl hr).new S _;simp only[go_sem];intro w1 av;simp only[go_sem];refine(Bb7 hG _ w1 La av ha.get (by omega) (by omega)).mono ?_;rintro _ H2 ⟨rfl,J⟩;by_cases c:isW l k [La]=true
 ·rw[if_pos c] at hn J⊢
  have aw:=J.symm▸ha.set _;have g2:=J.symm▸Aj aj q2;simp only[go_sem,c,g2];have C:=λy=>aw.own S q2 y;exact Ln.fin (C _) (Ln.agg (Ln.choice (C _) (.exs0 (C _)))) ⟨rfl,rfl⟩
 ·have c':isW l k [La]=false:=by simpa using c
  rw[if_neg c] at hn J⊢
  rw[Ef ha.get] at J;subst J;simp only[go_sem,c'];have U:=hs _ k ha.get hk;have ab:=hA.simple k hk;dsimp only at U;cases hpr:p.simple k with
  |bot=>rw[hpr] at hn;exact absurd rfl hn
  |fail D=>
   rw[hpr] at U;refine(U (Cb (by simp))).mono ?_;rintro e H3 ⟨rfl,rfl⟩;simp only[go_sem];exact RAt.finP (ha.set D) ⟨rfl,rfl⟩
  |ok x D=>
   rw[hpr] at U hn ab;refine(U (Cb (by simp))).mono ?_;rintro e H3 ⟨rfl,ak⟩;have al:=ak.symm▸ha.set D;dsimp only[Res.then,Adv] at hn ab⊢
   have g3:=ak.symm▸Aj aj q2;have ae:=Af x;have ax:=Cd x;simp only[go_sem,dE];intro r3 af;have ay:O≠r3:=Ac af g3;have n3:r≠r3:=Ac af al.get;have q3:=n3.symm;simp only[go_sem,ae,ax];obtain⟨Hc,ac⟩: ∃K,K=upd H3 r3 (some (.cells (dEx x) 27)):=⟨_,rfl⟩;rw[<-ac];have L:=ac.symm▸al.new af _;have am:=ac.symm▸Aj g3 ay;have ao:=ac.symm▸Aa _ _ _;intro w2 a0;simp only[go_sem];refine(Bb7 hG _ w2 Et a0 L.get (by omega) (by omega)).mono ?_;rintro _ H4 ⟨rfl,E⟩;by_cases V:isW l D [Et]=true
   ·rw[if_pos V] at hn E⊢
    have ag:=E.symm▸L.set _;have a1:=E.symm▸Aj am q2;have ah:=E.symm▸Aj ao q3;have ap:=Bf V ab.2;rw[jQ] at ap;simp only[go_sem,V];refine An (.take 0 (.take 1 (.go 2 [0] (.go 3 [] (.take 4 (.go 5 [] .done)))))) ?_;simp only[go_sem,ah];have hp2:=hs _ (D+1) ag.get ap;dsimp only at hp2;cases hpr2:p.simple (D+1) with
    |bot=>rw[hpr2] at hn;exact absurd rfl hn
    |fail k5=>
     rw[hpr2] at hp2;refine(hp2 (Cb (by simp))).mono ?_;rintro e H5 ⟨rfl,rfl⟩;simp only[go_sem];exact RAt.finP (ag.set k5) ⟨rfl,rfl⟩
    |ok y k5=>
     rw[hpr2] at hp2;refine(hp2 (Cb (by simp))).mono ?_;rintro e H5 ⟨rfl,M⟩;have W:=M.symm▸ag.set k5;have X:=M.symm▸Aj a1 q2;have a2:=M.symm▸Aj ah q3;have Y:=Af y;dsimp only[Res.then];simp only[go_sem,dE,ah,a2];rw[Kt ae Y];simp only[go_sem];intro r7 I;have Z:O≠r7:=Ac I X;have ai:=Z.symm;simp only[go_sem,X,Z];(have aq: [x,y].flatMap dEx=dEx x++dEx y:=by simp);have C:=λz=>(W.new I (some (.cells (dEx x++dEx y) 27))).own S q2 z;refine Ln.fin (C _) (Ln.agg (Ln.choice (m:= [x,y]) (C _) (Ln.block (e:=27) (C _) (Sub.lo W I) ?_ ?_))) ⟨rfl,rfl⟩
     ·rw[aq];simp [upd,ai]
     ·rw[aq,jC,ae,Y]
   ·(have a3:isW l D [Et]=false:=by simpa using V);rw[if_neg V] at hn E⊢
    rw[Ef L.get] at E;subst E;simp only[go_sem,a3,ao];have ar:p.rest x D≠ .bot:=λh=>hn (by rw[h];rfl);have aa:=au x _ D L.get ab.2 (Cb ar);dsimp only at aa;cases hpc:p.rest x D with
    |bot=>exact absurd hpc ar
    |fail k4=>
     rw[hpc] at aa;refine aa.mono ?_;rintro e H5 ⟨rfl,rfl⟩;simp only[go_sem];exact RAt.finP (L.set k4) ⟨rfl,rfl⟩
    |ok y k4=>
     rw[hpc] at aa;refine aa.mono ?_;rintro e H5 ⟨rfl,M⟩;have W:=M.symm▸L.set k4;have X:=M.symm▸Aj am q2;have Y:=Af y;dsimp only[Res.then];simp only[go_sem,dE];rw[Ea Y];simp only[go_sem];intro r7 I;have Z:O≠r7:=Ac I X;have ai:=Z.symm;simp only[go_sem,X,Z];have C:=λz=>(W.new I (some (.cells (dEx y) 27))).own S q2 z;refine Ln.fin (C _) (Ln.agg (Ln.choice (m:= [y]) (C _) (Ln.block (e:=27) (C _) (Sub.lo W I) ?_ ?_))) ⟨rfl,rfl⟩
     ·rw[List.flatMap_singleton];simp [upd,ai]
     ·rw[List.flatMap_singleton,Y]
end
section
variable {G:Nat->DVal} {H0 H H':Ab} {r k:Nat} {l:List Tok}
theorem Ik.move {H H':Ab} {e:TypeId} {size n:Nat} {cs:List DVal} {v:DVal} {r:Nat} {o:DObj} (h:Ik (upd H r (some o)) e size n cs v H') (y:Option DObj):Ik (upd H r y) e size n cs v (upd H' r y):=by
 have C: ∀ {K:Ab},Sub (upd H r (some o)) K->Sub (upd H r y) (upd K r y):=λs b ob hb=>by
  simp only[upd] at hb⊢
  by_cases c:b=r
  ·rw[if_pos c] at hb⊢;exact hb
  ·rw[if_neg c] at hb⊢
   exact s b ob (by simp only[upd];rw[if_neg c];exact hb)
 rcases h with⟨a,b,c,d⟩|⟨q,h1,h2,h3,h4,h5⟩
 ·exact .inl ⟨a,b,c,C d⟩
 ·have hq:q≠r:=λe=>by rw[e,Aa] at h1;cases h1
  exact .inr ⟨q,by rw[Ah _ _ _ _ hq] at h1⊢;exact h1,h2,h3,by rw[Ah _ _ _ _ hq];exact h4,C h5⟩
theorem Dd2 {x:List DVal} (hx:x.length=10):
  (if 10<=(By 1 (DVal.nilSlice::zY)).length then some (x++List.drop 10 (By 1 (DVal.nilSlice::zY))) else none)=some x:=by
 have e: ∀u:List DVal,By 1 u=u:=λu=>by simp [By]
 rw[e,if_pos (by simp),List.drop_eq_nil_of_le (by simp),jH]
def Bt4 (H:Ab) (l:List As) (v:DVal) (H':Ab):Prop:=Ik H 44 10 l.length (l.flatMap dAs) v H'
theorem Ch2 (hG:GX G) (hl:l.length<=12800000) (g:FuncId) (T:Nat->Nat->Res As) (L:Nat->List As->Nat->Res (List As)) (sep:List UInt8)
  (ac: ∀x k,L 0 x k= .bot) (hL: ∀m x k,L (m+1) x k=if isW l k [sep] then(T m (k+1)).then λa k=>L m (x++ [a]) k else .ok x k)
  (hT: ∀m k,k<=l.length->Adv l (k+1) (T m k)) (n:Nat) (hg: ∀m≤n,RdC Tryz.prog G l g r λk=>(T m k).mp dA) (H:Ab) (k:Nat) (hr:H r=some (rdO l k)) (hk:k<=l.length) (C:((T n k).then λa k=>L n [a] k)≠ .bot):
  Ad Tryz.prog G 249 [.optr r 0,.str sep,.func (.func g) [.optr r 0] []] H (RdR r l H (((T n k).then λa k=>L n [a] k).mp dAl)):=by
 refine dci Tryz.func249 Tryz.call249 ?_;simp only[go_sem];have E:=hg n (Nat.le_refl _) _ k hr hk;have ad:=hT n k hk;dsimp only at E;cases hpr:T n k with
 |bot=>rw[hpr] at C;exact absurd rfl C
 |fail S=>
  rw[hpr] at E;refine(E (Cb (by simp))).mono ?_;rintro e H3 ⟨rfl,rfl⟩;simp only[go_sem];exact Tl.refl ⟨rfl,rfl⟩
 |ok J S=>
  rw[hpr] at E C ad;refine(E (Cb (by simp))).mono ?_;rintro e H3 ⟨rfl,ae⟩;dsimp only[Res.then,Adv] at C ad⊢
  have af:=Cm J;simp only[go_sem,dA];rw[Dd2 af];simp only[go_sem];intro V U;dsimp only at U;obtain⟨n',rfl⟩: ∃n',n=n'+1:=by
   cases n with
   |zero=>exact absurd (ac _ _) C
   |succ n'=>exact⟨n',rfl⟩
  have aq:Bt4 (upd H r (some (rdO l S))) [J] (.oslice 10 V 0 1 1) (upd H3 V (some (.cells (dAs J) 44))):=
   .inr ⟨V,by rw[<-ae];exact U,by rw[List.flatMap_singleton,af];rfl,rfl,by rw[List.flatMap_singleton];exact Aa _ _ _,by rw[ae] at U⊢;exact(Sub.refl _).new U _⟩
  simp only[go_sem];obtain⟨I,W⟩: ∃I:Nat×List As×Nat->(Nat->DVal)->Ab->Prop,∀s env heap,I s env heap↔(env 0= .optr r 0/\env 1= .str sep/\env 2= .func (.func g) [.optr r 0] []/\s.2.2<=l.length/\s.2.1.length<=s.2.2/\s.1<=n'/\L (s.1+1) s.2.1 s.2.2=L (n'+1) [J] S/\Bt4 (upd H r (some (rdO l s.2.2))) s.2.1 (env 7) heap):=⟨_,λ_ _ _=>Iff.rfl⟩;refine Ea9.run I (λs=>s.1) (n',[J],S) ((W _ _ _).2 ?_) ?_
  ·simp only[go_sem];(repeat' apply And.intro)<;>(try first|rfl|assumption|omega)
  ·rintro⟨m,xs,k1⟩ env heap al;obtain⟨e0,e1,e2,ag,am,hm,y,hv⟩:=(W _ _ _).1 al;dsimp only at ag am hm y hv;rw[hL] at y;obtain⟨v,X⟩: ∃v,env 7=v:=⟨_,rfl⟩;rw[X] at hv;have gr:heap r=some (rdO l k1):=Ik.keep hv (Aa _ _ _);simp only[go_sem,e0,e1];intro w1 ah;dsimp only at ah;simp only[go_sem];refine(Bb7 hG _ w1 sep ah gr (by omega) (by omega)).mono ?_;rintro _ H4 ⟨rfl,M⟩;by_cases c:isW l k1 [sep]=true
   ·rw[if_pos c] at y M;have Y:=Bf c ag;rw[jQ] at Y;(have Z:Bt4 (upd H r (some (rdO l (k1+1)))) xs v H4:=by rw[M];exact Ik.move hv _);have ao:H4 r=some (rdO l (k1+1)):=Ik.keep Z (Aa _ _ _);simp only[go_sem,e2,X,c];have hp2:=hg m (by omega) _ (k1+1) ao Y;have ai:=hT m (k1+1) Y;dsimp only at hp2;cases hpr2:T m (k1+1) with
    |bot=>rw[hpr2] at y;exact absurd y.symm C
    |fail D=>
     rw[hpr2] at hp2 y;refine(hp2 (Cb (by simp))).mono ?_;rintro e H5 ⟨rfl,aa⟩;(have ab:Bt4 (upd H r (some (rdO l D))) xs v H5:=by rw[aa];exact Ik.move Z _);simp only[go_sem];rw[<-y];exact Tl.sub (Ik.sub ab) ⟨rfl,rfl⟩
    |ok a D=>
     rw[hpr2] at hp2 y ai;dsimp only[Res.then,Adv] at y ai;refine(hp2 (Cb (by simp))).mono ?_;rintro e H5 ⟨rfl,aa⟩;(have ab:Bt4 (upd H r (some (rdO l D))) xs v H5:=by rw[aa];exact Ik.move Z _);have aj:=Cm a;simp only[go_sem,dA];rw[Dd2 aj];simp only[go_sem];intro r8 ak;dsimp only at ak;simp only[go_sem];refine Ik.append (m:=1) (Ik.new ab ak _) (by rw[aj]) (by omega) λv2 H6 ap=> ?_;simp only[go_sem];obtain⟨O,rfl⟩: ∃O,m=O+1:=by
      cases m with
      |zero=>rw[ac] at y;exact absurd y.symm C
      |succ O=>exact⟨O,rfl⟩
     (have ar:(xs++ [a]).length<=D:=by rw[jC,jQ];omega);have au:Bt4 (upd H r (some (rdO l D))) (xs++ [a]) v2 H6:=by
      unfold Bt4;rw[jC,jQ,List.flatMap_append,List.flatMap_singleton];exact ap
     refine⟨(O,xs++ [a],D),_,Rn.refl _,(W _ _ _).2 ?_,by dsimp only;omega⟩;simp only[go_sem,e0,e1,e2];(repeat' apply And.intro)<;>(try first|rfl|assumption|omega)
   ·(have c':isW l k1 [sep]=false:=by simpa using c);rw[if_neg c] at y M;rw[Ef gr] at M;subst M;simp only[go_sem,X,c'];rw[<-y];exact Ik.fin hv ⟨rfl,rfl⟩
theorem Bt5 {x:List DVal} (hx:x.length=2):
  (if 2<=(By 1 [DVal.int .u8 0,DVal.nilSlice]).length then some (x++List.drop 2 (By 1 [DVal.int .u8 0,DVal.nilSlice])) else none)=some x:=by
 have e: ∀u:List DVal,By 1 u=u:=λu=>by simp [By]
 rw[e,if_pos (by simp),List.drop_eq_nil_of_le (by simp),jH]
def Lp (H:Ab) (l:List Ch) (v:DVal) (H':Ab):Prop:=Ik H 47 2 l.length (l.flatMap dCh) v H'
theorem Es3 (hG:GX G) (hl:l.length<=12800000) (g:FuncId) (T:Nat->Nat->Res Ch) (L:Nat->List Ch->Nat->Res (List Ch)) (sep:List UInt8)
  (ac: ∀x k,L 0 x k= .bot) (hL: ∀m x k,L (m+1) x k=if isW l k [sep] then(T m (k+1)).then λa k=>L m (x++ [a]) k else .ok x k)
  (hT: ∀m k,k<=l.length->Adv l (k+1) (T m k)) (n:Nat) (hg: ∀m≤n,RdC Tryz.prog G l g r λk=>(T m k).mp dC) (H:Ab) (k:Nat) (hr:H r=some (rdO l k)) (hk:k<=l.length) (C:((T n k).then λa k=>L n [a] k)≠ .bot):
  Ad Tryz.prog G 325 [.optr r 0,.str sep,.func (.func g) [.optr r 0] []] H (RdR r l H (((T n k).then λa k=>L n [a] k).mp dCl)):=by
 refine dci Tryz.func325 Tryz.call325 ?_;simp only[go_sem];have E:=hg n (Nat.le_refl _) _ k hr hk;have ad:=hT n k hk;dsimp only at E;cases hpr:T n k with
 |bot=>rw[hpr] at C;exact absurd rfl C
 |fail S=>
  rw[hpr] at E;refine(E (Cb (by simp))).mono ?_;rintro e H3 ⟨rfl,rfl⟩;simp only[go_sem];exact Tl.refl ⟨rfl,rfl⟩
 |ok J S=>
  rw[hpr] at E C ad;refine(E (Cb (by simp))).mono ?_;rintro e H3 ⟨rfl,ae⟩;dsimp only[Res.then,Adv] at C ad⊢
  have af:=Cn J;simp only[go_sem,dC];rw[Bt5 af];simp only[go_sem];intro V U;dsimp only at U;obtain⟨n',rfl⟩: ∃n',n=n'+1:=by
   cases n with
   |zero=>exact absurd (ac _ _) C
   |succ n'=>exact⟨n',rfl⟩
  have aq:Lp (upd H r (some (rdO l S))) [J] (.oslice 2 V 0 1 1) (upd H3 V (some (.cells (dCh J) 47))):=
   .inr ⟨V,by rw[<-ae];exact U,by rw[List.flatMap_singleton,af];rfl,rfl,by rw[List.flatMap_singleton];exact Aa _ _ _,by rw[ae] at U⊢;exact(Sub.refl _).new U _⟩
  simp only[go_sem];obtain⟨I,W⟩: ∃I:Nat×List Ch×Nat->(Nat->DVal)->Ab->Prop,∀s env heap,I s env heap↔(env 0= .optr r 0/\env 1= .str sep/\env 2= .func (.func g) [.optr r 0] []/\s.2.2<=l.length/\s.2.1.length<=s.2.2/\s.1<=n'/\L (s.1+1) s.2.1 s.2.2=L (n'+1) [J] S/\Lp (upd H r (some (rdO l s.2.2))) s.2.1 (env 7) heap):=⟨_,λ_ _ _=>Iff.rfl⟩;refine Ea9.run I (λs=>s.1) (n',[J],S) ((W _ _ _).2 ?_) ?_
  ·simp only[go_sem];(repeat' apply And.intro)<;>(try first|rfl|assumption|omega)
  ·rintro⟨m,xs,k1⟩ env heap al;obtain⟨e0,e1,e2,ag,am,hm,y,hv⟩:=(W _ _ _).1 al;dsimp only at ag am hm y hv;rw[hL] at y;obtain⟨v,X⟩: ∃v,env 7=v:=⟨_,rfl⟩;rw[X] at hv;have gr:heap r=some (rdO l k1):=Ik.keep hv (Aa _ _ _);simp only[go_sem,e0,e1];intro w1 ah;dsimp only at ah;simp only[go_sem];refine(Bb7 hG _ w1 sep ah gr (by omega) (by omega)).mono ?_;rintro _ H4 ⟨rfl,M⟩;by_cases c:isW l k1 [sep]=true
   ·rw[if_pos c] at y M;have Y:=Bf c ag;rw[jQ] at Y;(have Z:Lp (upd H r (some (rdO l (k1+1)))) xs v H4:=by rw[M];exact Ik.move hv _);have ao:H4 r=some (rdO l (k1+1)):=Ik.keep Z (Aa _ _ _);simp only[go_sem,e2,X,c];have hp2:=hg m (by omega) _ (k1+1) ao Y;have ai:=hT m (k1+1) Y;dsimp only at hp2;cases hpr2:T m (k1+1) with
    |bot=>rw[hpr2] at y;exact absurd y.symm C
    |fail D=>
     rw[hpr2] at hp2 y;refine(hp2 (Cb (by simp))).mono ?_;rintro e H5 ⟨rfl,aa⟩;(have ab:Lp (upd H r (some (rdO l D))) xs v H5:=by rw[aa];exact Ik.move Z _);simp only[go_sem];rw[<-y];exact Tl.sub (Ik.sub ab) ⟨rfl,rfl⟩
    |ok a D=>
     rw[hpr2] at hp2 y ai;dsimp only[Res.then,Adv] at y ai;refine(hp2 (Cb (by simp))).mono ?_;rintro e H5 ⟨rfl,aa⟩;(have ab:Lp (upd H r (some (rdO l D))) xs v H5:=by rw[aa];exact Ik.move Z _);have aj:=Cn a;simp only[go_sem,dC];rw[Bt5 aj];simp only[go_sem];intro r8 ak;dsimp only at ak;simp only[go_sem];refine Ik.append (m:=1) (Ik.new ab ak _) (by rw[aj]) (by omega) λv2 H6 ap=> ?_;simp only[go_sem];obtain⟨O,rfl⟩: ∃O,m=O+1:=by
      cases m with
      |zero=>rw[ac] at y;exact absurd y.symm C
      |succ O=>exact⟨O,rfl⟩
     (have ar:(xs++ [a]).length<=D:=by rw[jC,jQ];omega);have au:Lp (upd H r (some (rdO l D))) (xs++ [a]) v2 H6:=by
      unfold Lp;rw[jC,jQ,List.flatMap_append,List.flatMap_singleton];exact ap
     refine⟨(O,xs++ [a],D),_,Rn.refl _,(W _ _ _).2 ?_,by dsimp only;omega⟩;simp only[go_sem,e0,e1,e2];(repeat' apply And.intro)<;>(try first|rfl|assumption|omega)
   ·(have c':isW l k1 [sep]=false:=by simpa using c);rw[if_neg c] at y M;rw[Ef gr] at M;subst M;simp only[go_sem,X,c'];rw[<-y];exact Ik.fin hv ⟨rfl,rfl⟩
theorem Es4 (hG:GX G) (hl:l.length<=12800000) (n:Nat) (y: ∀m≤n,RdC Tryz.prog G l 251 r λk=>((P l m).arg k).mp dA):RdC Tryz.prog G l 175 r λk=>(((P l n).arg k).then λa k=>(P l n).argsL [a] k).mp dAl:=by
 intro H k hr hk hn;refine dci Tryz.func175 Tryz.call175 ?_;simp only[go_sem];have hs:=Ch2 hG hl 251 (λm=>(P l m).arg) (λm=>(P l m).argsL) Dm (λ_ _=>rfl) (λ_ _ _=>rfl) (λm k hk=>(Jw m).arg k hk) n y H k hr hk (λh=>hn (by dsimp only;rw[h];rfl));refine hs.mono ?_;intro e H' h;dsimp only at hn⊢
 cases hc:(((P l n).arg k).then λa k=>(P l n).argsL [a] k) with
 |bot=>rw[hc] at h;exact h.elim
 |fail C=>
  rw[hc] at h;obtain⟨rfl,rfl⟩:=h;simp only[go_sem];exact Tl.refl ⟨rfl,rfl⟩
 |ok x C=>
  rw[hc] at h;obtain⟨rfl,rfl⟩:=h;simp only[go_sem];exact Dj.refl ⟨rfl,rfl⟩
theorem Cp2 (hG:GX G) (hl:l.length<=12800000) (n:Nat) (y: ∀m≤n,RdC Tryz.prog G l 294 r λk=>((P l m).choice k).mp dC):RdC Tryz.prog G l 319 r λk=>(((P l n).choice k).then λa k=>(P l n).choicesL [a] k).mp dCl:=by
 intro H k hr hk hn;refine dci Tryz.func319 Tryz.call319 ?_;simp only[go_sem];have hs:=Es3 hG hl 294 (λm=>(P l m).choice) (λm=>(P l m).choicesL) Gp (λ_ _=>rfl) (λ_ _ _=>rfl) (λm k hk=>Ek ((Jw m).choice k hk) (Nat.le_refl _)) n y H k hr hk (λh=>hn (by dsimp only;rw[h];rfl));refine hs.mono ?_;intro e H' h;dsimp only at hn⊢
 cases hc:(((P l n).choice k).then λa k=>(P l n).choicesL [a] k) with
 |bot=>rw[hc] at h;exact h.elim
 |fail C=>
  rw[hc] at h;obtain⟨rfl,rfl⟩:=h;simp only[go_sem];exact Tl.refl ⟨rfl,rfl⟩
 |ok x C=>
  rw[hc] at h;obtain⟨rfl,rfl⟩:=h;simp only[go_sem];exact Dj.refl ⟨rfl,rfl⟩
end
section
variable {G:Nat->DVal} {H0 H H':Ab} {r k:Nat} {l:List Tok}
theorem He5 (hG:GX G) (H:Ab) (q:Nat) (s:List UInt8) (C:H q=some (.cells [.str s] 9)) (hr:H r=some (rdO l k)) (y:r≠q) (hl:l.length<=16000000) (hk:k<=14400000):Ad Tryz.prog G 172 [.optr r 0,.oslice 1 q 0 1 1] H (Am (.bool (isW l k [s])) (upd H q none)):=by
 refine Ad.fzArgs q C ?_;simp only[fzs,fz,if_neg y,if_pos];exact Au2 hG _ [s] (by rw[Ah _ _ _ _ y];exact hr) hl hk (by simp)
theorem Ln.assoc {v:DVal} {c:List Ch} {e:Ex} (hs:Sub H H') (h:Ln H' v H (dCl c)):Km H' (v::dEx e) H (dAs (.mk c e)):=by
 rw[An8];exact .cons h (.keep hs _)
theorem Cc9 (hG:GX G) (hl:l.length<=12800000) (p:PS) (am:RdC Tryz.prog G l 58 r λk=>(p.expr k).mp dE):RdC Tryz.prog G l 251 r λk=>((Bi l p).arg k).mp dA:=by
 intro H k hr hk hn;dsimp only[Bi] at hn⊢
 obtain⟨t,ht⟩: ∃t,t=tk l k:=⟨_,rfl⟩;rw[<-ht] at hn⊢
 have br:IntKind.i64.wrap ((k:Int)+1)=((k+1:Nat):Int):=by rw[IntKind.wrap_i64];omega
 have bl:IntKind.i64.wrap ((k:Int)+2)=((k+2:Nat):Int):=by rw[IntKind.wrap_i64];omega
 refine dci Tryz.func251 Tryz.call251 ?_;simp only[go_sem];intro I X;obtain⟨Ha,bb⟩: ∃K,K=upd H I (some (.cells (.nilSlice::zY) 44)):=⟨_,rfl⟩;rw[<-bb];have bm:=bb.symm▸Aa _ _ _;have n2:r≠I:=Ac X hr;have q2:=n2.symm;have ha:=bb.symm▸(RAt.refl hr).new X _;simp only[go_sem];refine(Ae4 G _ ha.get (by omega) (by omega)).mono ?_;rintro _ H1 ⟨rfl,rfl⟩;rw[<-ht];simp only[go_sem];intro Y bc;have bs:I≠Y:=Ac bc bm;have n3:r≠Y:=Ac bc ha.get;have q3:=n3.symm;simp only[go_sem,Cu];obtain⟨Hc,ba⟩: ∃K,K=upd H1 Y (some (.cells [.int .u8 t.kind,dI t.line,.str t.text,dI t.n] 31)):=⟨_,rfl⟩;rw[<-ba];have O:=ba.symm▸ha.new bc _;have ag:=ba.symm▸Aj bm bs;have af:=ba.symm▸Aa _ _ _;have bn:=O.get;unfold rdO at bn;by_cases c:t.kind=1
 ·refine An pL7 ?_;have bt:(Be l).cells= [Be l]:=rfl;simp only[go_sem,af,c,bn,br,bt];have bo:k+1<=l.length:=Ry (by rw[<-ht,c];decide);refine⟨?_, ?_⟩
  ·intro w1 hw;have ao:r≠w1:=Ac hw O.get;simp only[go_sem,ao];intro Z ah;obtain⟨m1,m2,bd⟩:=Aq.1 ah;have bp:r≠Z:=Ac bd O.get;simp only[go_sem];refine(He5 hG _ w1 Bp (r:=Z) (k:=k+1) (by rw[Ah _ _ _ _ m2];exact Aa _ _ _) (Aa _ _ _) m1 (by omega) (by omega)).mono ?_;rintro _ H5 ⟨rfl,ai⟩;have ap:I≠w1:=Ac hw ag;have aq:Y≠w1:=Ac hw af;have be:I≠Z:=Ac bd ag;have bf:Y≠Z:=Ac bd af;(have ar:H5 I=some (.cells (.nilSlice::zY) 44):=by rw[ai,Ah _ _ _ _ ap];exact Aj (Aj ag ap) be);(have au:H5 Y=some (.cells [.int .u8 t.kind,dI t.line,.str t.text,dI t.n] 31):=by rw[ai,Ah _ _ _ _ aq];exact Aj (Aj af aq) bf);have S:=ai.symm▸((O.new hw (some (.cells [.str Bp] 9))).new ah (some (rdO l (k+1)))).own (O.lo hw) ao.symm none;have av:=S.get;unfold rdO at av;by_cases J:isW l (k+1) [Bp]=true
   ·rw[if_pos ⟨c,J⟩] at hn;rw[if_pos J];have bg:=Bf J bo;rw[jQ] at bg;simp only[go_sem,J,av,bl,q3,au];obtain⟨H6,aa⟩: ∃H6,H6=upd H5 r (some (rdO l (k+2))):=⟨_,rfl⟩;have aw:=aa;unfold rdO at aw;rw[<-aw];have U:=aa.symm▸S.set _;have aj:=aa.symm▸Aj ar q2;have bu:=aa.symm▸Aj au q3;intro M ab;have ax:I≠M:=Ac ab aj;have ay:=ax.symm;have a0:r≠M:=Ac ab U.get;simp only[go_sem];intro V a3;obtain⟨a1,a2,ak⟩:=Aq.1 a3;have a4:I≠V:=Ac ak aj;have a5:=a4.symm;have a6:r≠V:=Ac ak U.get;simp only[go_sem,ax,a4,aj];obtain⟨H7,W⟩: ∃H7,H7=upd (upd (upd H6 M (some (.cells (zX 3 0 0 (t.text) .nilSlice .nilSlice (t.line)) 27))) V (some (.cells [.int .u8 1,.oslice 9 M 0 1 1] 47))) I (some (.cells (.oslice 2 V 0 1 1::zY) 44)):=⟨_,rfl⟩;rw[show List.drop 9 (By 1 zY)= [] from rfl,show List.drop 2 (By 1 [DVal.int .u8 0,DVal.nilSlice])= [] from rfl,<-W];have al:=W.symm▸((U.new ab _).new a3 _).own X q2 _;(have bh:H7 M=some (.cells (zX 3 0 0 (t.text) .nilSlice .nilSlice (t.line)) 27):=by rw[W];simp [upd,ay,a2]);(have bi:H7 V=some (.cells [.int .u8 1,.oslice 9 M 0 1 1] 47):=by rw[W];simp [upd,a5]);have bj:=W.symm▸Aa _ _ _;have C:=am _ (k+2) al.get (by omega);dsimp only at C;cases hpr:p.expr (k+2) with
    |bot=>rw[hpr] at hn;exact absurd rfl hn
    |fail E=>
     rw[hpr] at C;refine(C (Cb (by simp))).mono ?_;rintro e H4 ⟨rfl,rfl⟩;simp only[go_sem];exact RAt.finP (al.set E) ⟨rfl,rfl⟩
    |ok y E=>
     rw[hpr] at C;refine(C (Cb (by simp))).mono ?_;rintro e H4 ⟨rfl,L⟩;have ac:=L.symm▸al.set E;have a7:=Aj (y:=some (rdO l E)) bj q2;have a8:=Aj (y:=some (rdO l E)) bh a0.symm;have a9:=Aj (y:=some (rdO l E)) bi a6.symm;rw[<-L] at a7 a8 a9;have ad:=Af y;have ae:=Cd y;dsimp only[Res.then];simp only[go_sem,dE,a7,ad,ae];have D:=λz=>ac.own X q2 z;refine Ln.fin (D _) (Ln.agg (Ln.assoc (c:= [.mk 1 [.mk 3 0 0 t.text [] [] t.line 0 0]]) (D _) (Ln.cells (e:=47) (cs':= [Ch.mk 1 [.mk 3 0 0 t.text [] [] t.line 0 0]].flatMap dCh) (D _) ?_ (Aj a9 a5) rfl ?_))) ⟨rfl,rfl⟩
     ·rw[Ah _ _ _ _ a6.symm];exact U.lo ak
     ·rw[List.flatMap_singleton];refine Ln.choice (m:= [.mk 3 0 0 t.text [] [] t.line 0 0]) (D _) (Ln.cells (e:=27) (cs':= [Ex.mk 3 0 0 t.text [] [] t.line 0 0].flatMap dEx) (D _) ?_ (Aj a8 ay) rfl ?_)
      ·rw[Ah _ _ _ _ a0.symm];exact U.lo ab
      ·rw[List.flatMap_singleton];exact Ln.ex (D _) (.exs0 (D _)) (.as0 (D _))
   ·(have bk:isW l (k+1) [Bp]=false:=by simpa using J);rw[if_neg (λh=>J h.2)] at hn;rw[if_neg J];simp only[go_sem,bk];have C:=am _ k S.get hk;dsimp only at C;cases hpr:p.expr k with
    |bot=>rw[hpr] at hn;exact absurd rfl hn
    |fail E=>
     rw[hpr] at C;refine(C (Cb (by simp))).mono ?_;rintro e H4 ⟨rfl,rfl⟩;simp only[go_sem];exact RAt.finP (S.set E) ⟨rfl,rfl⟩
    |ok y E=>
     rw[hpr] at C;refine(C (Cb (by simp))).mono ?_;rintro e H4 ⟨rfl,L⟩;have ac:=L.symm▸S.set E;have g4:=L.symm▸Aj ar q2;have ad:=Af y;have ae:=Cd y;dsimp only[Res.then];simp only[go_sem,dE,g4,ad,ae];have D:=λz=>ac.own X q2 z;exact Ln.fin (D _) (Ln.agg (Ln.assoc (c:= []) (D _) (.ch0 (D _)))) ⟨rfl,rfl⟩
  ·intro Z ah;have bp:r≠Z:=Ac ah O.get;simp only[go_sem];intro w1 bq;obtain⟨m1,m2,hw⟩:=Aq.1 bq;have ao:r≠w1:=Ac hw O.get;simp only[go_sem,ao,bp];refine(He5 hG _ w1 Bp (r:=Z) (k:=k+1) (Aa _ _ _) (by rw[Ah _ _ _ _ m2];exact Aa _ _ _) m2 (by omega) (by omega)).mono ?_;rintro _ H5 ⟨rfl,ai⟩;have ap:I≠w1:=Ac hw ag;have aq:Y≠w1:=Ac hw af;have be:I≠Z:=Ac ah ag;have bf:Y≠Z:=Ac ah af;(have ar:H5 I=some (.cells (.nilSlice::zY) 44):=by rw[ai,Ah _ _ _ _ ap];exact Aj (Aj ag be) ap);(have au:H5 Y=some (.cells [.int .u8 t.kind,dI t.line,.str t.text,dI t.n] 31):=by rw[ai,Ah _ _ _ _ aq];exact Aj (Aj af bf) aq);have S:=ai.symm▸((O.new ah (some (rdO l (k+1)))).new bq (some (.cells [.str Bp] 9))).own (O.lo hw) ao.symm none;have av:=S.get;unfold rdO at av;by_cases J:isW l (k+1) [Bp]=true
   ·rw[if_pos ⟨c,J⟩] at hn;rw[if_pos J];have bg:=Bf J bo;rw[jQ] at bg;simp only[go_sem,J,av,bl,q3,au];obtain⟨H6,aa⟩: ∃H6,H6=upd H5 r (some (rdO l (k+2))):=⟨_,rfl⟩;have aw:=aa;unfold rdO at aw;rw[<-aw];have U:=aa.symm▸S.set _;have aj:=aa.symm▸Aj ar q2;have bu:=aa.symm▸Aj au q3;intro M ab;have ax:I≠M:=Ac ab aj;have ay:=ax.symm;have a0:r≠M:=Ac ab U.get;simp only[go_sem];intro V a3;obtain⟨a1,a2,ak⟩:=Aq.1 a3;have a4:I≠V:=Ac ak aj;have a5:=a4.symm;have a6:r≠V:=Ac ak U.get;simp only[go_sem,ax,a4,aj];obtain⟨H7,W⟩: ∃H7,H7=upd (upd (upd H6 M (some (.cells (zX 3 0 0 (t.text) .nilSlice .nilSlice (t.line)) 27))) V (some (.cells [.int .u8 1,.oslice 9 M 0 1 1] 47))) I (some (.cells (.oslice 2 V 0 1 1::zY) 44)):=⟨_,rfl⟩;rw[show List.drop 9 (By 1 zY)= [] from rfl,show List.drop 2 (By 1 [DVal.int .u8 0,DVal.nilSlice])= [] from rfl,<-W];have al:=W.symm▸((U.new ab _).new a3 _).own X q2 _;(have bh:H7 M=some (.cells (zX 3 0 0 (t.text) .nilSlice .nilSlice (t.line)) 27):=by rw[W];simp [upd,ay,a2]);(have bi:H7 V=some (.cells [.int .u8 1,.oslice 9 M 0 1 1] 47):=by rw[W];simp [upd,a5]);have bj:=W.symm▸Aa _ _ _;have C:=am _ (k+2) al.get (by omega);dsimp only at C;cases hpr:p.expr (k+2) with
    |bot=>rw[hpr] at hn;exact absurd rfl hn
    |fail E=>
     rw[hpr] at C;refine(C (Cb (by simp))).mono ?_;rintro e H4 ⟨rfl,rfl⟩;simp only[go_sem];exact RAt.finP (al.set E) ⟨rfl,rfl⟩
    |ok y E=>
     rw[hpr] at C;refine(C (Cb (by simp))).mono ?_;rintro e H4 ⟨rfl,L⟩;have ac:=L.symm▸al.set E;have a7:=Aj (y:=some (rdO l E)) bj q2;have a8:=Aj (y:=some (rdO l E)) bh a0.symm;have a9:=Aj (y:=some (rdO l E)) bi a6.symm;rw[<-L] at a7 a8 a9;have ad:=Af y;have ae:=Cd y;dsimp only[Res.then];simp only[go_sem,dE,a7,ad,ae];have D:=λz=>ac.own X q2 z;refine Ln.fin (D _) (Ln.agg (Ln.assoc (c:= [.mk 1 [.mk 3 0 0 t.text [] [] t.line 0 0]]) (D _) (Ln.cells (e:=47) (cs':= [Ch.mk 1 [.mk 3 0 0 t.text [] [] t.line 0 0]].flatMap dCh) (D _) ?_ (Aj a9 a5) rfl ?_))) ⟨rfl,rfl⟩
     ·rw[Ah _ _ _ _ a6.symm];exact U.lo ak
     ·rw[List.flatMap_singleton];refine Ln.choice (m:= [.mk 3 0 0 t.text [] [] t.line 0 0]) (D _) (Ln.cells (e:=27) (cs':= [Ex.mk 3 0 0 t.text [] [] t.line 0 0].flatMap dEx) (D _) ?_ (Aj a8 ay) rfl ?_)
      ·rw[Ah _ _ _ _ a0.symm];exact U.lo ab
      ·rw[List.flatMap_singleton];exact Ln.ex (D _) (.exs0 (D _)) (.as0 (D _))
   ·(have bk:isW l (k+1) [Bp]=false:=by simpa using J);rw[if_neg (λh=>J h.2)] at hn;rw[if_neg J];simp only[go_sem,bk];have C:=am _ k S.get hk;dsimp only at C;cases hpr:p.expr k with
    |bot=>rw[hpr] at hn;exact absurd rfl hn
    |fail E=>
     rw[hpr] at C;refine(C (Cb (by simp))).mono ?_;rintro e H4 ⟨rfl,rfl⟩;simp only[go_sem];exact RAt.finP (S.set E) ⟨rfl,rfl⟩
    |ok y E=>
     rw[hpr] at C;refine(C (Cb (by simp))).mono ?_;rintro e H4 ⟨rfl,L⟩;have ac:=L.symm▸S.set E;have g4:=L.symm▸Aj ar q2;have ad:=Af y;have ae:=Cd y;dsimp only[Res.then];simp only[go_sem,dE,g4,ad,ae];have D:=λz=>ac.own X q2 z;exact Ln.fin (D _) (Ln.agg (Ln.assoc (c:= []) (D _) (.ch0 (D _)))) ⟨rfl,rfl⟩
 ·rw[if_neg (λh=>c h.1)] at hn⊢
  refine An pL7 ?_;simp only[go_sem,af,c];refine⟨⟨⟨Jv,Jv⟩, ?_⟩,⟨Jv,Jv⟩, ?_⟩;all_goals
   have C:=am _ k O.get hk;dsimp only at C;cases hpr:p.expr k with
   |bot=>rw[hpr] at hn;exact absurd rfl hn
   |fail E=>
    rw[hpr] at C;refine(C (Cb (by simp))).mono ?_;rintro e H4 ⟨rfl,rfl⟩;simp only[go_sem];exact RAt.finP (O.set E) ⟨rfl,rfl⟩
   |ok y E=>
    rw[hpr] at C;refine(C (Cb (by simp))).mono ?_;rintro e H4 ⟨rfl,L⟩;have ac:=L.symm▸O.set E;have g4:=L.symm▸Aj ag q2;have ad:=Af y;have ae:=Cd y;dsimp only[Res.then];simp only[go_sem,dE,g4,ad,ae];have D:=λz=>ac.own X q2 z;exact Ln.fin (D _) (Ln.agg (Ln.assoc (c:= []) (D _) (.ch0 (D _)))) ⟨rfl,rfl⟩
end
section
variable {G:Nat->DVal} {H0 H H':Ab} {r k:Nat} {l:List Tok}
theorem Nf {α β:Type} (x:α) (k:Nat) (f:α->Nat->Res β):(Res.ok x k).then f=f x k:=rfl
theorem Ol {α β:Type} (k:Nat) (f:α->Nat->Res β):(Res.fail k).then f= .fail k:=rfl
theorem Ra {α β:Type} (f:α->Nat->Res β):Res.bot.then f= .bot:=rfl
theorem Ik.at {B H':Ab} {e:TypeId} {size n:Nat} {cs:List DVal} {v:DVal} {r:Nat} {o:DObj} (h:Ik B e size n cs v H') (hr:B r=some o) (y:Option DObj):Ik (upd B r y) e size n cs v (upd H' r y):=by
 have h2:Ik (upd B r (some o)) e size n cs v H':=by rw[Ef hr];exact h
 exact h2.move y
theorem Cp3 {n k:Nat} {c:Ch} {k':Nat} (h:(P l n).choice k= .ok c k'):(c.kind=3/\c.l= [])\/(c.kind=2/\ ∃x y,c.l= [x,y])\/(c.kind=1/\ ∃x,c.l= [x]):=by
 cases n with
 |zero=>cases h
 |succ n=>
  have e:(P l (n+1)).choice k=if isW l k [La] then .ok (.mk 3 []) (k+1) else((P l n).simple k).then λx k=>if isW l k [Et] then((P l n).simple (k+1)).then λy k=> .ok (.mk 2 [x,y]) k else((P l n).rest x k).then λx k=> .ok (.mk 1 [x]) k:=rfl
  rw[e] at h;split at h
  ·cases h;exact .inl ⟨rfl,rfl⟩
  ·cases h1:(P l n).simple k with
   |bot=>rw[h1] at h;cases h
   |fail k=>rw[h1] at h;cases h
   |ok x k1=>
    rw[h1] at h;dsimp only[Res.then] at h;split at h
    ·cases h2:(P l n).simple (k1+1) with
     |bot=>rw[h2] at h;cases h
     |fail k=>rw[h2] at h;cases h
     |ok y C=>rw[h2] at h;cases h;exact .inr (.inl ⟨rfl,x,y,rfl⟩)
    ·cases h2:(P l n).rest x k1 with
     |bot=>rw[h2] at h;cases h
     |fail k=>rw[h2] at h;cases h
     |ok y C=>rw[h2] at h;cases h;exact .inr (.inr ⟨rfl,y,rfl⟩)
theorem Cp4 (hG:GX G) (hl:l.length<=12800000) (n:Nat) (hc: ∀m≤n,RdC Tryz.prog G l 294 r λk=>((P l m).choice k).mp dC) (be:RdC Tryz.prog G l 58 r λk=>((P l n).expr k).mp dE):RdC Tryz.prog G l 250 r λk=>((P l (n+1)).assoc k).mp dA:=by
 intro H k hr hk hn;obtain⟨F,hF⟩: ∃F:Ch->Nat->Res As,∀c k,F c k=if c.kind=1/\isW l k [Gp]=false/\isW l k [Bp]=false then .ok (.mk [] (c.l.getD 0 ex0)) k else if c.kind=3 then must l Bp k λk=>((P l n).expr k).then λe k=> .ok (.mk [c] e) k else((P l n).choicesL [c] k).then λcs k=>must l Bp k λk=>((P l n).expr k).then λe k=> .ok (.mk cs e) k:=⟨_,λ_ _=>rfl⟩
 have e:(P l (n+1)).assoc k=((P l n).choice k).then F:=by
  have:F=λc k=>if c.kind=1/\isW l k [Gp]=false/\isW l k [Bp]=false then .ok (.mk [] (c.l.getD 0 ex0)) k else if c.kind=3 then must l Bp k λk=>((P l n).expr k).then λe k=> .ok (.mk [c] e) k else((P l n).choicesL [c] k).then λcs k=>must l Bp k λk=>((P l n).expr k).then λe k=> .ok (.mk cs e) k:=funext λc=>funext λk=>hF c k
  rw[this];rfl
 dsimp only at hn⊢
 rw[e] at hn⊢
 refine dci Tryz.func250 Tryz.call250 ?_;simp only[go_sem];intro V aj;obtain⟨Ha,a3⟩: ∃K,K=upd H V (some (.cells (.nilSlice::zY) 44)):=⟨_,rfl⟩;rw[<-a3];have bs:=a3.symm▸Aa _ _ _;have n2:r≠V:=Ac aj hr;have q2:=n2.symm;have ha:=a3.symm▸(RAt.refl hr).new aj _;simp only[go_sem];have L:=hc n (Nat.le_refl _) _ k ha.get hk;have bf:=(Jw (l:=l) n).choice k hk;dsimp only at L;cases hpr:(P l n).choice k with
 |bot=>rw[hpr] at hn;exact absurd rfl hn
 |fail J=>
  rw[hpr] at L;refine(L (Cb (by simp))).mono ?_;rintro e H4 ⟨rfl,rfl⟩;simp only[go_sem];exact RAt.finP (ha.set J) ⟨rfl,rfl⟩
 |ok c J=>
  rw[hpr] at L hn bf;refine(L (Cb (by simp))).mono ?_;rintro e H3 ⟨rfl,bg⟩;have bh:=bg.symm▸ha.set J;dsimp only[Res.then,Adv] at hn bf⊢
  have hres:=hF c J;obtain⟨a4,bt⟩: ∃a4,a4=F c J:=⟨_,rfl⟩;rw[<-bt] at hn hres⊢
  have g3:=bg.symm▸Aj bs q2;have al:=Cn c;have bu:=Ed1 c;simp only[go_sem,dC];intro r3 a5;have bi:V≠r3:=Ac a5 g3;have bv:=bi.symm;have n3:r≠r3:=Ac a5 bh.get;have q3:=n3.symm;simp only[go_sem,al,bu];obtain⟨W,au⟩: ∃K,K=upd H3 r3 (some (.cells (dCh c) 47)):=⟨_,rfl⟩;rw[<-au];have am:=au.symm▸bh.new a5 _;have ak:=au.symm▸Aj g3 bi;have ao:=au.symm▸Aa _ _ _;have gk:(dCh c)[0]? =some (.int .u8 c.kind):=by rw[An9];rfl
  refine(λ(tail: ∀S:DS,S.heap=W->S.env 0= .optr r 0->S.env 2= .optr V 0->S.env 3= .optr r3 0->S.env 27= .nilSlice-> ¬(c.kind=1/\isW l J [Gp]=false/\isW l J [Bp]=false)->(?T:DS->Prop) S)=> ?A) ?B
  case A=>
   by_cases c1:c.kind=1
   ·simp only[go_sem,c1];intro w1 av;simp only[go_sem];refine(is1 hG _ w1 Gp av am.get (by omega) (by omega)).mono ?_;rintro _ H5 ⟨rfl,ap⟩;rw[ap];by_cases b1:isW l J [Gp]=true
    ·simp only[go_sem,b1];(have ae: ¬(c.kind=1/\isW l J [Gp]=false/\isW l J [Bp]=false):=λh=>by rw[b1] at h;exact absurd h.2.1 (by decide));simp only[go_sem,ak,ao,al];generalize hS:(DS.mk _ W:DS)=S;exact tail S (by rw[<-hS]) (by rw[<-hS];first|rfl|simp only[go_sem]) (by rw[<-hS];first|rfl|simp only[go_sem]) (by rw[<-hS];first|rfl|simp only[go_sem]) (by rw[<-hS];first|rfl|simp only[go_sem]) ae
    ·(have bj:isW l J [Gp]=false:=by simpa using b1);simp only[go_sem,bj];intro w2 bw;simp only[go_sem];refine(is1 hG _ w2 Bp bw am.get (by omega) (by omega)).mono ?_;rintro _ H6 ⟨rfl,aq⟩;rw[aq];by_cases b2:isW l J [Bp]=true
     ·simp only[go_sem,b2];(have ae: ¬(c.kind=1/\isW l J [Gp]=false/\isW l J [Bp]=false):=λh=>by rw[b2] at h;exact absurd h.2.2 (by decide));simp only[go_sem,ak,ao,al];generalize hS:(DS.mk _ W:DS)=S;exact tail S (by rw[<-hS]) (by rw[<-hS];first|rfl|simp only[go_sem]) (by rw[<-hS];first|rfl|simp only[go_sem]) (by rw[<-hS];first|rfl|simp only[go_sem]) (by rw[<-hS];first|rfl|simp only[go_sem]) ae
     ·(have bk:isW l J [Bp]=false:=by simpa using b2);rw[if_pos ⟨c1,bj,bk⟩] at hres;obtain⟨x,hx⟩: ∃x,c.l= [x]:=by
       rcases Cp3 hpr with h|h|h
       ·rw[h.1] at c1;cases c1
       ·rw[h.1] at c1;cases c1
       ·exact h.2
      (have gl:(dCh c)[1]? =some (.vslice (dEx x) 1):=by rw[Bs2,hx,List.flatMap_singleton];rfl);rw[hx] at hres;have bx:=Af x;have bz:=Cd x;simp(disch:=omega)only[go_sem,bk,ao,gl,bx,jJ,ak,bz];rw[hres];have a6:=λz=>am.own aj q2 z;exact Ln.fin (a6 _) (Ln.agg (Ln.assoc (c:= []) (a6 _) (.ch0 (a6 _)))) ⟨rfl,rfl⟩
   ·simp only[go_sem,c1];have ae: ¬(c.kind=1/\isW l J [Gp]=false/\isW l J [Bp]=false):=λh=>c1 h.1;simp only[go_sem,ak,ao,al];generalize hS:(DS.mk _ W:DS)=S;exact tail S (by rw[<-hS]) (by rw[<-hS];first|rfl|simp only[go_sem]) (by rw[<-hS];first|rfl|simp only[go_sem]) (by rw[<-hS];first|rfl|simp only[go_sem]) (by rw[<-hS];first|rfl|simp only[go_sem]) ae
  case B=>
   rintro⟨E,X⟩ hX z0 z2 z3 z7 ae;obtain rfl:W=X:=hX.symm;dsimp only at z0 z2 z3 z7;obtain⟨n',rfl⟩: ∃n',n=n'+1:=by
    cases n with
    |zero=>cases hpr
    |succ n'=>exact⟨n',rfl⟩
   obtain⟨L',b0,hL,C⟩: ∃L':Nat->List Ch->Nat->Res (List Ch),(c.kind≠3-> ∀x k,L' 0 x k= .bot)/\(∀m x k,L' (m+1) x k=if c.kind≠3/\isW l k [Gp]=true then((P l m).choice (k+1)).then λa k=>L' m (x++ [a]) k else .ok x k)/\a4=(L' (n'+1) [c] J).then λcs k=>must l Bp k λk=>((P l (n'+1)).expr k).then λe k=> .ok (.mk cs e) k:=by
    rw[hres];by_cases Y:c.kind=3
    ·refine⟨λ_ x k=> .ok x k,λh=>absurd Y h,λm x k=>by rw[if_neg (λh=>h.1 Y)], ?_⟩;rw[if_neg (λh=>by rw[Y] at h;exact absurd h.1 (by decide)),if_pos Y];rfl
    ·refine⟨λm=>(P l m).choicesL,λ_ _ _=>rfl,λm x k=> ?_, ?_⟩
     ·have e:(P l (m+1)).choicesL x k=if isW l k [Gp] then((P l m).choice (k+1)).then λc k=>(P l m).choicesL (x++ [c]) k else .ok x k:=rfl
      show(P l (m+1)).choicesL x k=_;rw[e];by_cases hb:isW l k [Gp]=true
      ·rw[if_pos hb,if_pos ⟨Y,hb⟩]
      ·rw[if_neg hb,if_neg (λh=>hb h.2)]
     ·rw[if_neg ae,if_neg Y]
   obtain⟨D,ac⟩: ∃D:DVal->Nat->Ab,∀v k,D v k=upd (upd W V (some (.cells (v::zY) 44))) r (some (rdO l k)):=⟨_,λ_ _=>rfl⟩;(have M: ∀v k,D v k r=some (rdO l k):=λv k=>by rw[ac];exact Aa _ _ _);(have ad: ∀v k,D v k V=some (.cells (v::zY) 44):=λv k=>by rw[ac,Ah _ _ _ _ q2];exact Aa _ _ _);(have b3: ∀v k,D v k r3=some (.cells (dCh c) 47):=λv k=>by rw[ac,Ah _ _ _ _ q3,Ah _ _ _ _ bv];exact ao);(have Z: ∀v k k',upd (D v k) r (some (rdO l k'))=D v k':=λv k k'=>by rw[ac,ac,Gt]);(have b4: ∀v v' k,upd (D v k) V (some (.cells (v'::zY) 44))=D v' k:=λv v' k=>by rw[ac,ac,Ad3 q2,Gt]);(have af: ∀v k,RAt r l k H (D v k):=λv k=>by rw[ac];exact(am.own aj q2 _).set k);rw[show List.drop 2 (By 1 [DVal.int .u8 0,DVal.nilSlice])= [] from rfl];simp only[go_sem];intro bl b6;simp only[go_sem,z2,z7];intro aw bm;obtain⟨H6,aq⟩: ∃K,K=upd (upd W bl (some (.cells (dCh c) 47))) aw (some (.cells (dCh c) 47)):=⟨_,rfl⟩;rw[<-aq];have bn:Sub W (upd W bl (some (.cells (dCh c) 47))):=(Sub.refl W).new b6 _;have ax:Ik W 47 2 1 (dCh c) (.oslice 2 aw 0 1 1) H6:= .inr ⟨aw,bn.lo bm,al,rfl,by rw[aq];exact Aa _ _ _,by rw[aq];exact bn.new bm _⟩;obtain⟨v1,b7⟩: ∃v1,v1=DVal.oslice 2 aw 0 1 1:=⟨_,rfl⟩;rw[<-b7] at ax⊢
   have a7:=ax.keep ak;obtain⟨b8,b9⟩:=ax.cell1;simp only[go_sem,z2,a7,b8,b9];have ca:Lp (D v1 J) [c] v1 (upd H6 V (some (.cells (v1::zY) 44))):=by
    have:=ax.at ak (some (.cells (v1::zY) 44));rw[show D v1 J=upd W V (some (.cells (v1::zY) 44)) by rw[ac];exact Ef (Aj am.get n2)];unfold Lp;rw[List.flatMap_singleton];exact this
   obtain⟨I,hI⟩: ∃I:Nat×List Ch×Nat->(Nat->DVal)->Ab->Prop,∀s env heap,I s env heap↔(env 0= .optr r 0/\env 2= .optr V 0/\env 3= .optr r3 0/\s.2.2<=l.length/\s.2.1.length<=s.2.2/\s.1<=n'/\L' (s.1+1) s.2.1 s.2.2=L' (n'+1) [c] J/\ ∃v,Lp (D v s.2.2) s.2.1 v heap):=⟨_,λ_ _ _=>Iff.rfl⟩;refine Ea9.run I (λs=>s.1) (n',[c],J) ((hI _ _ _).2 ?_) ?_
   ·simp only[go_sem,z0,z2,z3];(repeat' apply And.intro)<;>(try first|rfl|assumption|omega);exact⟨v1,ca⟩
   ·rintro⟨m,xs,k1⟩ env heap cb;obtain⟨e0,e2,e3,ay,cc,hm,U,v,hv⟩:=(hI _ _ _).1 cb;dsimp only at ay cc hm U hv;rw[hL] at U;have gr:heap r=some (rdO l k1):=Ik.keep hv (M _ _);have g3:=Ik.keep hv (b3 _ _);by_cases Y:c.kind=3
    ·rw[if_neg (λh=>h.1 Y)] at U;simp only[go_sem,e0,e3,g3,gk,Y];refine(Sw hG heap Bp gr (by omega) (by omega)).mono ?_;intro e1 H8 hq;rw[<-U,Nf] at C;unfold must at hq C;by_cases b5:isW l k1 [Bp]=true
     ·rw[if_pos b5] at hq C;obtain⟨rfl,ag⟩:=hq;dsimp only at C;have ar:=Bf b5 ay;rw[jQ] at ar;(have aa:Lp (D v (k1+1)) xs v H8:=by rw[ag,<-Z v k1];exact Ik.at hv (M _ _) _);simp only[go_sem,e0];have L:=be _ (k1+1) (Ik.keep aa (M _ _)) ar;dsimp only at L;cases hpe:(P l (n'+1)).expr (k1+1) with
      |bot=>rw[hpe,Ra] at C;rw[C] at hn;exact absurd rfl hn
      |fail O=>
       rw[hpe] at L;rw[hpe,Ol] at C;refine(L (Cb (by simp))).mono ?_;rintro e H9 ⟨rfl,ah⟩;(have ab:Lp (D v O) xs v H9:=by rw[ah,<-Z v (k1+1)];exact Ik.at aa (M _ _) _);simp only[go_sem];rw[C];exact RAt.finP ((af v O).more (Ik.sub ab)) ⟨rfl,rfl⟩
      |ok y O=>
       rw[hpe] at L;rw[hpe,Nf] at C;refine(L (Cb (by simp))).mono ?_;rintro e H9 ⟨rfl,ah⟩;(have ab:Lp (D v O) xs v H9:=by rw[ah,<-Z v (k1+1)];exact Ik.at aa (M _ _) _);have a8:=Ik.keep ab (ad v O);obtain⟨j1,j2⟩:=Ik.cell1 ab;have a9:=Af y;have ba:=Cd y;simp only[go_sem,e2,dE,a8,a9,ba,j2];rw[C];have ai:=λz=>Ik.less (Ik.at ab (ad v O) z) ((af v O).own aj q2 z);refine Ln.fin (Ik.sub (ai _)) (Ln.agg (Ln.assoc (c:=xs) (Ik.sub (ai _)) (Ln.own (ai _)))) ⟨rfl,rfl⟩
     ·rw[if_neg b5] at hq C;obtain⟨rfl,ag⟩:=hq;(have aa:Lp (D v k1) xs v H8:=by rw[ag,<-Z v k1];exact Ik.at hv (M _ _) _);simp only[go_sem];rw[C];exact RAt.finP ((af v k1).more (Ik.sub aa)) ⟨rfl,rfl⟩
    ·simp only[go_sem,e0,e3,g3,gk,Y];intro w1 av;dsimp only at av;simp only[go_sem];refine(Bb7 hG _ w1 Gp av gr (by omega) (by omega)).mono ?_;rintro _ H4 ⟨rfl,a0⟩;by_cases b:isW l k1 [Gp]=true
     ·rw[if_pos ⟨Y,b⟩] at U;rw[if_pos b] at a0;have bb:=Bf b ay;rw[jQ] at bb;(have a1:Lp (D v (k1+1)) xs v H4:=by rw[a0,<-Z v k1];exact Ik.at hv (M _ _) _);have bo:=Ik.keep a1 (ad _ _);simp only[go_sem,b];refine An pL15 ?_;simp only[go_sem,e0,e2,bo];have hp2:=hc m (by omega) _ (k1+1) (Ik.keep a1 (M _ _)) bb;have bp:=(Jw (l:=l) m).choice (k1+1) bb;dsimp only at hp2;cases hpr2:(P l m).choice (k1+1) with
      |bot=>
       rw[hpr2,Ra] at U;rw[<-U,Ra] at C;rw[C] at hn;exact absurd rfl hn
      |fail k5=>
       rw[hpr2] at hp2;rw[hpr2,Ol] at U;rw[<-U,Ol] at C;refine(hp2 (Cb (by simp))).mono ?_;rintro e H5 ⟨rfl,ap⟩;(have a2:Lp (D v k5) xs v H5:=by rw[ap,<-Z v (k1+1)];exact Ik.at a1 (M _ _) _);simp only[go_sem];rw[C];exact RAt.finP ((af v k5).more (Ik.sub a2)) ⟨rfl,rfl⟩
      |ok a k5=>
       rw[hpr2] at hp2 bp;rw[hpr2,Nf] at U;dsimp only[Adv] at bp;refine(hp2 (Cb (by simp))).mono ?_;rintro e H5 ⟨rfl,ap⟩;(have a2:Lp (D v k5) xs v H5:=by rw[ap,<-Z v (k1+1)];exact Ik.at a1 (M _ _) _);have bc:=Ik.keep a2 (ad _ _);have bq:=Cn a;simp only[go_sem,bo,bc,dC];rw[Bt5 bq];simp only[go_sem];intro r8 br;have n8:V≠r8:=Ac br bc;simp only[go_sem,bc,n8];refine Ik.append (m:=1) (Ik.new a2 br _) (by rw[bq]) (by omega) λv2 H6 bd=> ?_;have a7:=Ik.keep bd (ad _ _);obtain⟨j1,j2⟩:=Ik.cell1 bd;simp only[go_sem,e2,a7,j1,j2];obtain⟨m',rfl⟩: ∃m',m=m'+1:=by
        cases m with
        |zero=>rw[b0 Y] at U;rw[<-U,Ra] at C;rw[C] at hn;exact absurd rfl hn
        |succ m'=>exact⟨m',rfl⟩
       (have ce:(xs++ [a]).length<=k5:=by rw[jC,jQ];omega);have cd:Lp (D v2 k5) (xs++ [a]) v2 (upd H6 V (some (.cells (v2::zY) 44))):=by
        have:=Ik.at bd (ad _ _) (some (.cells (v2::zY) 44));rw[b4] at this;unfold Lp;rw[jC,jQ,List.flatMap_append,List.flatMap_singleton];exact this
       refine⟨(m',xs++ [a],k5),_,Rn.refl _,(hI _ _ _).2 ?_,by dsimp only;omega⟩;simp only[go_sem,e0,e2,e3];(repeat' apply And.intro)<;>(try first|rfl|assumption|omega);exact⟨v2,cd⟩
     ·(have b':isW l k1 [Gp]=false:=by simpa using b);rw[if_neg (λh=>b h.2)] at U;rw[if_neg b,Ef gr] at a0;rw[a0];simp only[go_sem,e0,b'];refine(Sw hG heap Bp gr (by omega) (by omega)).mono ?_;intro e1 H8 hq;rw[<-U,Nf] at C;unfold must at hq C;by_cases b5:isW l k1 [Bp]=true
      ·rw[if_pos b5] at hq C;obtain⟨rfl,ag⟩:=hq;dsimp only at C;have ar:=Bf b5 ay;rw[jQ] at ar;(have aa:Lp (D v (k1+1)) xs v H8:=by rw[ag,<-Z v k1];exact Ik.at hv (M _ _) _);simp only[go_sem,e0];have L:=be _ (k1+1) (Ik.keep aa (M _ _)) ar;dsimp only at L;cases hpe:(P l (n'+1)).expr (k1+1) with
       |bot=>rw[hpe,Ra] at C;rw[C] at hn;exact absurd rfl hn
       |fail O=>
        rw[hpe] at L;rw[hpe,Ol] at C;refine(L (Cb (by simp))).mono ?_;rintro e H9 ⟨rfl,ah⟩;(have ab:Lp (D v O) xs v H9:=by rw[ah,<-Z v (k1+1)];exact Ik.at aa (M _ _) _);simp only[go_sem];rw[C];exact RAt.finP ((af v O).more (Ik.sub ab)) ⟨rfl,rfl⟩
       |ok y O=>
        rw[hpe] at L;rw[hpe,Nf] at C;refine(L (Cb (by simp))).mono ?_;rintro e H9 ⟨rfl,ah⟩;(have ab:Lp (D v O) xs v H9:=by rw[ah,<-Z v (k1+1)];exact Ik.at aa (M _ _) _);have a8:=Ik.keep ab (ad v O);obtain⟨j1,j2⟩:=Ik.cell1 ab;have a9:=Af y;have ba:=Cd y;simp only[go_sem,e2,dE,a8,a9,ba,j2];rw[C];have ai:=λz=>Ik.less (Ik.at ab (ad v O) z) ((af v O).own aj q2 z);refine Ln.fin (Ik.sub (ai _)) (Ln.agg (Ln.assoc (c:=xs) (Ik.sub (ai _)) (Ln.own (ai _)))) ⟨rfl,rfl⟩
      ·rw[if_neg b5] at hq C;obtain⟨rfl,ag⟩:=hq;(have aa:Lp (D v k1) xs v H8:=by rw[ag,<-Z v k1];exact Ik.at hv (M _ _) _);simp only[go_sem];rw[C];exact RAt.finP ((af v k1).more (Ik.sub aa)) ⟨rfl,rfl⟩
end
def ifR (l:List Tok) (p:Nat->Res Ex) (line:Int):List (List UInt8)->List Ex->Nat->Res Ex
 | [],xs,k=> .ok (.mk 10 0 0 [] xs [] line 0 0) k
 |w::ws,xs,k=>(p k).then λa k=>must l w k λk=>ifR l p line ws (xs++ [a]) k
section
variable {G:Nat->DVal} {H0 H H':Ab} {r k:Nat} {l:List Tok}
def Bi0 (H:Ab) (l:List Ex) (v:DVal) (H':Ab):Prop:=Ik H 27 9 l.length (l.flatMap dEx) v H'
theorem Bt6 {x:List DVal} (hx:x.length=9):
  (if 9<=(By 1 zY).length then some (x++List.drop 9 (By 1 zY)) else none)=some x:=by
 have e: ∀u:List DVal,By 1 u=u:=λu=>by simp [By]
 rw[e,if_pos (by simp),List.drop_eq_nil_of_le (by simp),jH]
theorem Ds6 (hG:GX G) (hl:l.length<=12800000) (n:Nat) (bv:RdC Tryz.prog G l 58 r λk=>((P l n).expr k).mp dE) (hc: ∀m≤n,RdC Tryz.prog G l 250 r λk=>((P l m).assoc k).mp dA):RdC Tryz.prog G l 173 r λk=>((P l (n+1)).paren k).mp dE:=by
 intro H k hr hk hn;obtain⟨li,bi⟩: ∃li,li=(tk l k).line:=⟨_,rfl⟩;have e:(P l (n+1)).paren k=must l Bc k λk1=>if isW l k1 [wIf] then ifR l (P l n).expr (tk l (k1-1)).line [Pp,Qv,Bs] [] (k1+1) else(((P l n).assoc k1).then λa k=>(P l n).assocsL [a] k).then λxs k=>must l Bs k λk=> .ok (Bs0 (tk l (k1-1)).line xs) k:=by
  have bw: ∀(a:Res As) (f:As->Nat->Res (List As)) (g:List As->Nat->Res Ex),(a.then f).then g=a.then λx k=>(f x k).then g:=λa f g=>by cases a<;>rfl
  simp only[bw];rfl
 dsimp only at hn⊢
 rw[e] at hn⊢
 obtain⟨a2,hres⟩: ∃a2,a2=must l Bc k λk1=>if isW l k1 [wIf] then ifR l (P l n).expr (tk l (k1-1)).line [Pp,Qv,Bs] [] (k1+1) else(((P l n).assoc k1).then λa k=>(P l n).assocsL [a] k).then λxs k=>must l Bs k λk=> .ok (Bs0 (tk l (k1-1)).line xs) k:=⟨_,rfl⟩
 rw[<-hres] at hn⊢
 refine dci Tryz.func173 Tryz.call173 ?_;simp only[go_sem];intro W aj;obtain⟨Ha,a3⟩: ∃K,K=upd H W (some (.cells zY 27)):=⟨_,rfl⟩;rw[<-a3];have bj:=a3.symm▸Aa _ _ _;have n2:r≠W:=Ac aj hr;have q2:=n2.symm;have ha:=a3.symm▸(RAt.refl hr).new aj _;simp only[go_sem];refine(Bb5 G _ ha.get (by omega) (by omega)).mono ?_;rintro _ H1 ⟨rfl,bx⟩;rw[bx,<-bi];simp only[go_sem];intro D ak;simp only[go_sem];obtain⟨Hb,al⟩: ∃K,K=upd Ha D (some (.cells (zX 9 0 0 [] .nilSlice .nilSlice li) 27)):=⟨_,rfl⟩;rw[<-al];have bz:=al.symm▸Aa _ _ _;have am:W≠D:=Ac ak bj;have n3:r≠D:=Ac ak ha.get;have S:=n3.symm;have a4:H D=none:=ha.lo ak;have a5:=al.symm▸ha.new ak _;have b2:=al.symm▸Aj bj am;refine(Sw hG Hb Bc a5.get (by omega) (by omega)).mono ?_;intro e1 H2 hq;unfold must at hq hres;by_cases b0:isW l k [Bc]=true
 ·rw[if_pos b0] at hq hres;obtain⟨rfl,X⟩:=hq;dsimp only at hres;rw[Nat.add_sub_cancel,<-bi] at hres;have ad:=Bf b0 hk;rw[jQ] at ad;obtain⟨k1,b3⟩: ∃k1,k1=k+1:=⟨_,rfl⟩;rw[<-b3] at hres X ad;have Y:=X.symm▸a5.set k1;have bk:=X.symm▸Aj b2 q2;have bl:=X.symm▸Aj bz S;simp only[go_sem];intro w1 b4;simp only[go_sem];refine(Bb7 hG _ w1 wIf b4 Y.get (by omega) (by omega)).mono ?_;rintro _ H4 ⟨rfl,Z⟩;by_cases b1:isW l k1 [wIf]=true
  ·rw[if_pos b1] at Z hres;have b6:=Bf b1 ad;rw[jQ] at b6;have b7:=Z.symm▸Y.set _;have b8:=Z.symm▸Aj bk q2;have b9:=Z.symm▸Aj bl S;simp only[go_sem,b1,b9];obtain⟨H5,M⟩: ∃K,K=upd H4 D (some (.cells (zX 10 0 0 [] .nilSlice .nilSlice li) 27)):=⟨_,rfl⟩;rw[<-M];have ao:=M.symm▸b7.own a4 S _;have ap:=M.symm▸Aa _ _ _;have aq:=M.symm▸Aj b8 am;intro aa ar;obtain⟨Hk,ae⟩: ∃K,K=upd H5 aa (some (.cells [.str [116,104,101,110],.str [101,108,115,101],.str [41]] 9)):=⟨_,rfl⟩;rw[<-ae];have ca:=ae.symm▸Aa _ _ _;have bm:D≠aa:=Ac ar ap;have cb:W≠aa:=Ac ar aq;have cc:r≠aa:=Ac ar ao.get;have bn:=ae.symm▸ao.new ar _;have cd:=ae.symm▸Aj ap bm;have ce:=ae.symm▸Aj aq cb;obtain⟨C,O⟩: ∃C:DVal->Nat->Ab,∀v k,C v k=upd (upd Hk D (some (.cells (zX 10 0 0 [] v .nilSlice li) 27))) r (some (rdO l k)):=⟨_,λ_ _=>rfl⟩;(have ab: ∀v k,C v k r=some (rdO l k):=λv k=>by rw[O];exact Aa _ _ _);(have af: ∀v k,C v k D=some (.cells (zX 10 0 0 [] v .nilSlice li) 27):=λv k=>by rw[O,Ah _ _ _ _ S];exact Aa _ _ _);(have bo: ∀v k,C v k W=some (.cells zY 27):=λv k=>by rw[O,Ah _ _ _ _ q2,Ah _ _ _ _ am];exact ce);(have cf: ∀v k,C v k aa=some (.cells [.str [116,104,101,110],.str [101,108,115,101],.str [41]] 9):=λv k=>by rw[O,Ah _ _ _ _ cc.symm,Ah _ _ _ _ bm.symm];exact ca);(have au: ∀v k k',upd (C v k) r (some (rdO l k'))=C v k':=λv k k'=>by rw[O,O,Gt]);(have cg: ∀v v' k,upd (C v k) D (some (.cells (zX 10 0 0 [] v' .nilSlice li) 27))=C v' k:=λv v' k=>by rw[O,O,Ad3 S,Gt]);(have a6: ∀v k,RAt r l k H (C v k):=λv k=>by rw[O];exact(bn.own a4 S _).set k);have ci:Bi0 (C .nilSlice (k1+1)) [] .nilSlice Hk:=by
    rw[O,Ef cd,Ef bn.get];exact Ik.nil _ _ (Sub.refl _)
   simp only[go_sem];obtain⟨I,hI⟩: ∃I:Nat×List Ex×Nat->(Nat->DVal)->Ab->Prop,∀s env heap,I s env heap↔(env 0= .optr r 0/\env 2= .optr W 0/\env 3= .optr D 0/\env 15= .oslice 1 aa 0 3 3/\env 16=dI 3/\env 17=dI s.1/\s.1<=3/\s.2.1.length=s.1/\s.2.2<=l.length/\a2=ifR l (P l n).expr li ([Pp,Qv,Bs].drop s.1) s.2.1 s.2.2/\ ∃v,Bi0 (C v s.2.2) s.2.1 v heap):=⟨_,λ_ _ _=>Iff.rfl⟩;refine Ea9.run I (λs=>3-s.1) (0,[],k1+1) ((hI _ _ _).2 ?_) ?_
   ·simp only[go_sem];(repeat' apply And.intro)<;>(try first|rfl|assumption|omega);exact⟨_,ci⟩
   ·rintro⟨j,xs,V⟩ env heap cj;obtain⟨e0,e2,e3,bp,a7,av,hj,ck,a8,E,v,hv⟩:=(hI _ _ _).1 cj;dsimp only at av hj ck a8 E hv;by_cases c:j<3
    ·(have c':(j:Int)<3:=by omega);obtain⟨w,hw,cl⟩: ∃w,([DVal.str [116,104,101,110],.str [101,108,115,101],.str [41]])[j]? =some (.str w)/\ [Pp,Qv,Bs].drop j=w:: [Pp,Qv,Bs].drop (j+1):=by
      (have:j=0\/j=1\/j=2:=by omega);rcases this with rfl|rfl|rfl<;>exact⟨_,rfl,rfl⟩
     rw[cl,ifR] at E;have cm:=Ik.keep hv (cf _ _);have g3:=Ik.keep hv (af _ _);simp(disch:=omega)only[go_sem,bp,a7,av,c',cm,hw,jD];refine An pL15 ?_;simp only[go_sem,e0,e3,g3];have ag:=bv _ V (Ik.keep hv (ab _ _)) a8;have a9:=(Jw (l:=l) n).expr V a8;dsimp only at ag;cases hpe:(P l n).expr V with
     |bot=>rw[hpe,Ra] at E;rw[E] at hn;exact absurd rfl hn
     |fail L=>
      rw[hpe] at ag;rw[hpe,Ol] at E;refine(ag (Cb (by simp))).mono ?_;rintro e H9 ⟨rfl,ba⟩;(have aw:Bi0 (C v L) xs v H9:=by rw[ba,<-au v V];exact Ik.at hv (ab _ _) _);simp only[go_sem];rw[E];exact RAt.finP ((a6 v L).more (Ik.sub aw)) ⟨rfl,rfl⟩
     |ok y L=>
      rw[hpe] at ag a9;rw[hpe,Nf] at E;dsimp only[Adv] at a9;refine(ag (Cb (by simp))).mono ?_;rintro e H9 ⟨rfl,ba⟩;(have aw:Bi0 (C v L) xs v H9:=by rw[ba,<-au v V];exact Ik.at hv (ab _ _) _);have bb:=Ik.keep aw (af _ _);have bq:=Af y;simp only[go_sem,g3,bb,dE];rw[Bt6 bq];simp only[go_sem];intro r8 br;have n8:D≠r8:=Ac br bb;simp only[go_sem,bb,n8];refine Ik.append (m:=1) (Ik.new aw br _) (by rw[bq]) (by omega) λJ bs bc=> ?_;have cn:=Ik.keep bc (af _ _);obtain⟨j1,j2⟩:=Ik.cell1 bc;simp only[go_sem,e0,e3,cn,j1,j2];have ax:Bi0 (C J L) (xs++ [y]) J (upd bs D (some (.cells (zX 10 0 0 [] J .nilSlice li) 27))):=by
       have:=Ik.at bc (af _ _) (some (.cells (zX 10 0 0 [] J .nilSlice li) 27));rw[cg] at this;unfold Bi0;rw[jC,jQ,List.flatMap_append,List.flatMap_singleton];exact this
      obtain⟨co,cp⟩: ∃K,K=upd bs D (some (.cells (zX 10 0 0 [] J .nilSlice li) 27)):=⟨_,rfl⟩;rw[<-cp] at ax⊢
      refine(Sw hG co w (Ik.keep ax (ab _ _)) (by omega) (by omega)).mono ?_;intro e1 bt hq;unfold must at hq E;by_cases b5:isW l L [w]=true
      ·rw[if_pos b5] at hq E;obtain⟨rfl,bd⟩:=hq;dsimp only at E;have cq:=Bf b5 a9.2;rw[jQ] at cq;(have be:Bi0 (C J (L+1)) (xs++ [y]) J bt:=by rw[bd,<-au J L];exact Ik.at ax (ab _ _) _);(have cr:IntKind.i64.wrap ((j:Int)+1)=((j+1:Nat):Int):=by rw[IntKind.wrap_i64];omega);simp only[go_sem,av];refine⟨(j+1,xs++ [y],L+1),_,Rn.refl _,(hI _ _ _).2 ?_,by dsimp only;omega⟩;simp only[go_sem,e0,e2,e3,bp,a7,cr];(repeat' apply And.intro)<;>(try first|rfl|assumption|omega)
       ·rw[jC,jQ];omega
       ·exact⟨J,be⟩
      ·rw[if_neg b5] at hq E;obtain⟨rfl,bd⟩:=hq;(have be:Bi0 (C J L) (xs++ [y]) J bt:=by rw[bd,<-au J L];exact Ik.at ax (ab _ _) _);simp only[go_sem];rw[E];exact RAt.finP ((a6 J L).more (Ik.sub be)) ⟨rfl,rfl⟩
    ·(have ct:j=3:=by omega);subst ct;(have c': ¬((3:Nat):Int)<3:=by omega);rw[show [Pp,Qv,Bs].drop 3= [] from rfl,ifR] at E;have g3:=Ik.keep hv (af _ _);have g2:=Ik.keep hv (bo _ _);obtain⟨j1,j2⟩:=Ik.cell1 hv;simp only[go_sem,e2,e3,a7,av,c',g3,g2,j2];rw[E];have ay:=λz=>Ik.less (Ik.at hv (bo v V) z) ((a6 v V).own aj q2 z);exact Ln.fin (Ik.sub (ay _)) (Ln.agg (Ln.ex (l:=xs) (Ik.sub (ay _)) (Ln.own (ay _)) (.as0 (Ik.sub (ay _))))) ⟨rfl,rfl⟩
  ·(have cu:isW l k1 [wIf]=false:=by simpa using b1);rw[if_neg b1,Ef Y.get] at Z;rw[if_neg b1] at hres;rw[Z];simp only[go_sem,cu];have hs:=Ch2 hG hl 250 (λm=>(P l m).assoc) (λm=>(P l m).assocsL) Dm (λ_ _=>rfl) (λ_ _ _=>rfl) (λm k hk=>(Jw m).assoc k hk) n hc H2 k1 Y.get ad (λh=>hn (by rw[hres,h];rfl));refine hs.mono ?_;intro e1 H5 ac;cases hcc:(((P l n).assoc k1).then λa k=>(P l n).assocsL [a] k) with
   |bot=>rw[hcc] at ac;exact ac.elim
   |fail k3=>
    rw[hcc] at ac;rw[hcc,Ol] at hres;obtain⟨rfl,M⟩:=ac;simp only[go_sem];rw[hres];exact RAt.finP (by rw[M];exact Y.set k3) ⟨rfl,rfl⟩
   |ok xs k3=>
    rw[hcc] at ac;rw[hcc,Nf] at hres;obtain⟨rfl,M⟩:=ac;have c0:k3<=l.length:=by
     have:=Ca ((Jw (l:=l) n).assoc k1 ad) (λa j h1 h2=>(Jw (l:=l) n).assocsL [a] j h2 |>λh=>Ek h h1);rw[hcc] at this;exact this.2
    have ao:=M.symm▸Y.set _;have ap:=M.symm▸Aj bl S;have aq:=M.symm▸Aj bk q2;simp only[go_sem,dAl,ap];obtain⟨H6,a0⟩: ∃K,K=upd H5 D (some (.cells (zX 9 0 0 [] .nilSlice (.vslice (xs.flatMap dAs) xs.length) li) 27)):=⟨_,rfl⟩;rw[<-a0];have bf:=a0.symm▸ao.own a4 S _;have cv:=a0.symm▸Aa _ _ _;have cw:=a0.symm▸Aj aq am;refine(Sw hG H6 Bs bf.get (by omega) (by omega)).mono ?_;intro e1 H7 ah;unfold must at ah;by_cases b5:isW l k3 [Bs]=true
    ·rw[if_pos b5] at ah hres;obtain⟨rfl,ai⟩:=ah;have cx:=ai.symm▸bf.set _;have a1:=ai.symm▸Aj cv S;have bg:=ai.symm▸Aj cw q2;have U:=λz=>cx.own aj q2 z;by_cases c1:xs.length=1
     ·obtain⟨x,rfl⟩:=List.length_eq_one_iff.1 c1;have bu:=Cm x;have hge:=Bh3 x;have hle:=Af x.e;have cy:=Cd x.e;rw[List.flatMap_singleton] at a1;by_cases c2:x.c= []
      ·(have bh:x.c.length=0:=by rw[c2];rfl);simp(disch:=omega)only[go_sem,a1,bg,jQ,List.flatMap_singleton,bu,bh];(try simp(disch:=omega)only[go_sem,hge,hle,cy]);rw[hres,Bs0,if_pos c2];exact RAt.fin (U _) ⟨rfl,rfl⟩
      ·have bh: ¬(x.c.length:Int)=0:=λh=>c2 (List.length_eq_zero_iff.1 (by omega));simp(disch:=omega)only[go_sem,a1,bg,jQ,List.flatMap_singleton,bu,bh];rw[hres,Bs0,if_neg c2];exact Ln.fin (U _) (Ln.agg (Ln.ex (a:= [x]) (U _) (.exs0 (U _)) (by rw[dAl,List.flatMap_singleton];exact Ln.keep (U _) _))) ⟨rfl,rfl⟩
     ·(have cz: ¬(xs.length:Int)=1:=by omega);simp only[go_sem,a1,bg,cz];have hag:Bs0 li xs= .mk 9 0 0 [] [] xs li 0 0:=by
       match xs,c1 with
       | [],_=>rfl
       | [x],h=>exact absurd rfl h
       |x::y::zs,_=>rfl
      rw[hres,hag];exact Ln.fin (U _) (Ln.agg (Ln.ex (a:=xs) (U _) (.exs0 (U _)) (Ln.keep (U _) _))) ⟨rfl,rfl⟩
    ·rw[if_neg b5] at ah hres;obtain⟨rfl,ai⟩:=ah;simp only[go_sem];rw[hres];exact RAt.finP (by rw[ai];exact bf.set k3) ⟨rfl,rfl⟩
 ·rw[if_neg b0] at hq hres;obtain⟨rfl,X⟩:=hq;simp only[go_sem];rw[hres];exact RAt.finP (by rw[X];exact a5.set k) ⟨rfl,rfl⟩
end
end Go.Dl
