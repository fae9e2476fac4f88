/- The data level and the contracts of the functions that are reached (part 12). -/
import Derived.Test.YtddbdpcgikmiaaaGreatDoorPgk
set_option linter.unusedSimpArgs false
set_option linter.unusedVariables false
set_option linter.unusedSectionVars false
-- Ta
namespace Go.Dl
open Go Go.Proofs
set_option maxRecDepth 100000
def SAt (B:Ac) (r:Nat) (ts:List Tok) (H:Ac):Prop:= ∃v,Jw (upd B r (some (.cells [v] 146))) 31 4 ts.length (ts.flatMap Cq) v H
def SrC (P:Program) (G:Nat->DVal) (f:FuncId) (args:List DVal) (t:List Tok):Prop:=
 ∀B r ts H,B r=none->ts.length+t.length<=1000000000->SAt B r ts H->Ag P G f (.optr r 0::args) H (fun e H'=>e= .ret (.optr r 0)/\SAt B r (ts++t) H')
section
variable {B B1 H H':Ac} {r x:Nat} {ts:List Tok}
theorem SAt.keep (h:SAt B r ts H) {o:DObj} (hx:B x=some o) (n:x≠r):H x=some o:=by
 obtain⟨v,h⟩:=h;exact h.keep (by rw[Am _ _ _ _ n];exact hx)
theorem SAt.lo (h:SAt B r ts H) (hx:H x=none):B x=none/\x≠r:=by
 obtain⟨v,h⟩:=h;have:=h.sub.lo hx;simp only[upd] at this;split at this
 ·cases this
 ·exact⟨this,‹_›⟩
theorem SAt.frame (h:SAt B r ts H) (hx:H x=none) (o:DObj):SAt (upd B x (some o)) r ts (upd H x (some o)):=by
 have n:=(h.lo hx).2;obtain⟨v,h⟩:=h;refine⟨v, ?_⟩;rw[Aa7 n.symm];exact h.frame hx o
theorem SAt.less (h:SAt B r ts H) (s:Sub B1 B):SAt B1 r ts H:=by
 obtain⟨v,h⟩:=h;exact⟨v,h.less (s.both r _)⟩
theorem SAt.drop {o:DObj} (h:SAt (upd B x (some o)) r ts H) (hx:B x=none):SAt B r ts H:=h.less ((Sub.refl B).new hx _)
end
section
variable {G:Nat->DVal} {H:Ac}
set_option maxHeartbeats 4000000 in
theorem Ag9 (hG:GX G) (ws:List (List UInt8)):SrC Tryz.prog G 92 [dW ws] (ws.map Ah):=by
 intro B r ts H hB ai hw;rw[jK] at ai;refine Ab Tryz.func92 Tryz.call92 rfl (by kernel_rfl) ?_;simp(disch:=omega)only[go_sem,dW];obtain⟨I,Y⟩: ∃I:Nat->(Nat->DVal)->Ac->Prop,∀j env heap,I j env heap↔(env 0= .optr r 0/\env 8=dW ws/\env 9=dI ws.length/\env 10=dI j/\j<=ws.length/\SAt B r (ts++(ws.take j).map Ah) heap):=⟨_,fun _ _ _=>Iff.rfl⟩;refine Dr7.run I (fun j=>ws.length-j) 0 ((Y _ _ _).2 ?_) ?_
 ·simp(disch:=omega)only[go_sem];(repeat' apply And.intro)<;>(try first | rfl | assumption | omega);simpa using hw
 ·intro j env heap hi;obtain⟨C,D,E,J,hj,aa⟩:=(Y _ _ _).1 hi;by_cases af:j<ws.length
  ·have ab:(j:Int)<(ws.length:Int):=by omega
   have ag:IntKind.i64.wrap ((j:Int)+1)=((j+1:Nat):Int):=by rw[IntKind.wrap_i64];omega
   have ah:(ws.map DVal.str)[j]? =some (.str ws[j]):=by rw[List.getElem?_map,List.getElem?_eq_getElem af];rfl
   have aj:(ws.map DVal.str).length=ws.length:=jK _;have ac:(ws.take (j+1)).map Ah=(ws.take j).map Ah++ [Ah ws[j]]:=by rw[List.take_add_one,List.getElem?_eq_getElem af,Option.toList_some,List.map_append,List.map_singleton]
   obtain⟨s,ak⟩: ∃s,s=ws[j]:=⟨_,rfl⟩;rw[<-ak] at ah ac;simp(disch:=omega)only[go_sem,C,D,E,J,ab,dW,ah,aj,jD];intro r6 Z;dsimp only at Z;simp(disch:=omega)only[go_sem,C,D,E,J];obtain⟨v,hv⟩:=aa;have L:=hv.keep (Aa _ _ _);have M:r≠r6:=Af Z L;have m6:=M.symm;have al:(ts++(ws.take j).map Ah).length<=1000000000:=by rw[jC,jK,List.length_take];omega
   refine(Wp hG _ s).mono ?_;rintro _ H2 ⟨rfl,rfl⟩;cases hkb:Up s with
   | true=>
    have hk:Ah s=⟨2,0,s,0⟩:=by rw[Ah,Ip,hkb];rfl
    simp(disch:=omega)only[go_sem,C,D,E,J];refine Ak (by kernel_rfl) pL1 (by kernel_rfl) ?_;simp(disch:=omega)only[go_sem,C,D,E,J,L,M,m6];intro ad O;dsimp only at O;have U:r≠ad:=Af O (Aj L M);have ae:=U.symm;have V:=(hv.new Z _).new O (some (.cells (Cq (Ah s)) 31));simp(disch:=omega)only[go_sem,C,D,E,J,L,M,m6,U,ae];rw[hk] at V;refine Jw.append (m:=1) V rfl (by omega) fun W H6 S=> ?_;have g6:=S.keep (Aa _ _ _);obtain⟨j1,j2⟩:=S.cell1;simp(disch:=omega)only[go_sem,C,D,E,J,g6,j1,j2];refine⟨j+1,_,Rz.refl _,(Y _ _ _).2 ?_,by omega⟩;simp(disch:=omega)only[go_sem,C,D,E,J,ag];(repeat' apply And.intro)<;>(try first | rfl | assumption | omega);refine⟨W, ?_⟩;have X:=S.at (Aa _ _ _) (some (.cells [W] 146));rw[Gr] at X;rw[ac,<-jO,Hq,hk,jC,jQ];exact X
   | false=>
    have hk:Ah s=⟨4,0,s,0⟩:=by rw[Ah,Ip,hkb];rfl
    simp(disch:=omega)only[go_sem,C,D,E,J];refine Ak (by kernel_rfl) pL1 (by kernel_rfl) ?_;simp(disch:=omega)only[go_sem,C,D,E,J,L,M,m6];intro ad O;dsimp only at O;have U:r≠ad:=Af O (Aj L M);have ae:=U.symm;have V:=(hv.new Z _).new O (some (.cells (Cq (Ah s)) 31));simp(disch:=omega)only[go_sem,C,D,E,J,L,M,m6,U,ae];rw[hk] at V;refine Jw.append (m:=1) V rfl (by omega) fun W H6 S=> ?_;have g6:=S.keep (Aa _ _ _);obtain⟨j1,j2⟩:=S.cell1;simp(disch:=omega)only[go_sem,C,D,E,J,g6,j1,j2];refine⟨j+1,_,Rz.refl _,(Y _ _ _).2 ?_,by omega⟩;simp(disch:=omega)only[go_sem,C,D,E,J,ag];(repeat' apply And.intro)<;>(try first | rfl | assumption | omega);refine⟨W, ?_⟩;have X:=S.at (Aa _ _ _) (some (.cells [W] 146));rw[Gr] at X;rw[ac,<-jO,Hq,hk,jC,jQ];exact X
  ·have:j=ws.length:=by omega
   subst this;have ab: ¬(ws.length:Int)<(ws.length:Int):=by omega
   rw[List.take_length] at aa;simp(disch:=omega)only[go_sem,C,D,E,J,ab];exact Fa.refl ⟨rfl,aa⟩
set_option maxHeartbeats 4000000 in
theorem Dp4 (hG:GX G) (ws:List (List UInt8)) {B H:Ac} {r q:Nat} {ts:List Tok} (hq:B q=some (.cells (ws.map .str) 9)) (hB:B r=none) (ai:ts.length+(ws.map Ah).length<=1000000000) (hw:SAt B r ts H):
  Ag Tryz.prog G 92 [.optr r 0, .oslice 1 q 0 ws.length ws.length] H (fun e H'=>e= .ret (.optr r 0)/\SAt B r (ts++ws.map Ah) H'):=by
 have aj:q≠r:=fun e=>by rw[e,hB] at hq;cases hq
 rw[jK] at ai;refine Ab Tryz.func92 Tryz.call92 rfl (by kernel_rfl) ?_;simp(disch:=omega)only[go_sem,dW];obtain⟨I,Y⟩: ∃I:Nat->(Nat->DVal)->Ac->Prop,∀j env heap,I j env heap↔(env 0= .optr r 0/\env 8= .oslice 1 q 0 ws.length ws.length/\env 9=dI ws.length/\env 10=dI j/\j<=ws.length/\SAt B r (ts++(ws.take j).map Ah) heap):=⟨_,fun _ _ _=>Iff.rfl⟩;refine Dr7.run I (fun j=>ws.length-j) 0 ((Y _ _ _).2 ?_) ?_
 ·simp(disch:=omega)only[go_sem];(repeat' apply And.intro)<;>(try first | rfl | assumption | omega);simpa using hw
 ·intro j env heap hi;obtain⟨C,D,E,J,hj,Z⟩:=(Y _ _ _).1 hi;have gq:=Z.keep hq aj;by_cases af:j<ws.length
  ·have ab:(j:Int)<(ws.length:Int):=by omega
   have ag:IntKind.i64.wrap ((j:Int)+1)=((j+1:Nat):Int):=by rw[IntKind.wrap_i64];omega
   have ah:(ws.map DVal.str)[j]? =some (.str ws[j]):=by rw[List.getElem?_map,List.getElem?_eq_getElem af];rfl
   have ak:(ws.map DVal.str).length=ws.length:=jK _;have ac:(ws.take (j+1)).map Ah=(ws.take j).map Ah++ [Ah ws[j]]:=by rw[List.take_add_one,List.getElem?_eq_getElem af,Option.toList_some,List.map_append,List.map_singleton]
   obtain⟨s,al⟩: ∃s,s=ws[j]:=⟨_,rfl⟩;rw[<-al] at ah ac;simp(disch:=omega)only[go_sem,C,D,E,J,ab,gq,ah,ak,jD];intro r6 aa;dsimp only at aa;simp(disch:=omega)only[go_sem,C,D,E,J];obtain⟨v,hv⟩:=Z;have L:=hv.keep (Aa _ _ _);have M:r≠r6:=Af aa L;have m6:=M.symm;have am:(ts++(ws.take j).map Ah).length<=1000000000:=by rw[jC,jK,List.length_take];omega
   refine(Wp hG _ s).mono ?_;rintro _ H2 ⟨rfl,rfl⟩;cases hkb:Up s with
   | true=>
    have hk:Ah s=⟨2,0,s,0⟩:=by rw[Ah,Ip,hkb];rfl
    simp(disch:=omega)only[go_sem,C,D,E,J];refine Ak (by kernel_rfl) pL1 (by kernel_rfl) ?_;simp(disch:=omega)only[go_sem,C,D,E,J,L,M,m6];intro ad O;dsimp only at O;have U:r≠ad:=Af O (Aj L M);have ae:=U.symm;have V:=(hv.new aa _).new O (some (.cells (Cq (Ah s)) 31));simp(disch:=omega)only[go_sem,C,D,E,J,L,M,m6,U,ae];rw[hk] at V;refine Jw.append (m:=1) V rfl (by omega) fun W H6 S=> ?_;have g6:=S.keep (Aa _ _ _);obtain⟨j1,j2⟩:=S.cell1;simp(disch:=omega)only[go_sem,C,D,E,J,g6,j1,j2];refine⟨j+1,_,Rz.refl _,(Y _ _ _).2 ?_,by omega⟩;simp(disch:=omega)only[go_sem,C,D,E,J,ag];(repeat' apply And.intro)<;>(try first | rfl | assumption | omega);refine⟨W, ?_⟩;have X:=S.at (Aa _ _ _) (some (.cells [W] 146));rw[Gr] at X;rw[ac,<-jO,Hq,hk,jC,jQ];exact X
   | false=>
    have hk:Ah s=⟨4,0,s,0⟩:=by rw[Ah,Ip,hkb];rfl
    simp(disch:=omega)only[go_sem,C,D,E,J];refine Ak (by kernel_rfl) pL1 (by kernel_rfl) ?_;simp(disch:=omega)only[go_sem,C,D,E,J,L,M,m6];intro ad O;dsimp only at O;have U:r≠ad:=Af O (Aj L M);have ae:=U.symm;have V:=(hv.new aa _).new O (some (.cells (Cq (Ah s)) 31));simp(disch:=omega)only[go_sem,C,D,E,J,L,M,m6,U,ae];rw[hk] at V;refine Jw.append (m:=1) V rfl (by omega) fun W H6 S=> ?_;have g6:=S.keep (Aa _ _ _);obtain⟨j1,j2⟩:=S.cell1;simp(disch:=omega)only[go_sem,C,D,E,J,g6,j1,j2];refine⟨j+1,_,Rz.refl _,(Y _ _ _).2 ?_,by omega⟩;simp(disch:=omega)only[go_sem,C,D,E,J,ag];(repeat' apply And.intro)<;>(try first | rfl | assumption | omega);refine⟨W, ?_⟩;have X:=S.at (Aa _ _ _) (some (.cells [W] 146));rw[Gr] at X;rw[ac,<-jO,Hq,hk,jC,jQ];exact X
  ·have:j=ws.length:=by omega
   subst this;have ab: ¬(ws.length:Int)<(ws.length:Int):=by omega
   rw[List.take_length] at Z;simp(disch:=omega)only[go_sem,C,D,E,J,ab];exact Fa.refl ⟨rfl,Z⟩
end
section
variable {G:Nat->DVal} {H B:Ac} {r:Nat} {ts:List Tok}
theorem SAt.ne {x:Nat} (h:SAt B r ts H) (hx:H x=none):r≠x:=fun e=>(h.lo hx).2 e.symm
theorem SAt.start {B:Ac} {r:Nat} (hr:B r=none):SAt B r [] (upd B r (some (.cells [.nilSlice] 146))):=⟨_, .inl ⟨rfl,rfl,rfl,Sub.refl _⟩⟩
theorem SAt.cell (h:SAt B r ts H) (hr:B r=none): ∃v,H r=some (.cells [v] 146)/\Mh H v B (Bl ts):=by
 obtain⟨v,h⟩:=h;exact⟨v,h.keep (Aa _ _ _),Mh.own (h.less ((Sub.refl B).up hr _))⟩
theorem SAt.sub (h:SAt B r ts H) (hr:B r=none):Sub B H:=by
 obtain⟨v,h⟩:=h;exact((Sub.refl B).up hr _).trans h.sub
def SQ (B:Ac) (r:Nat) (ts:List Tok) (e:DEnd) (H':Ac):Prop:=e= .ret (.optr r 0)/\SAt B r ts H'
theorem Au4 (hG:GX G) (s:List UInt8) {q:Nat} (C:H q=none) (D:B r=none) (E:ts.length+1<=1000000000) (hw:SAt B r ts H):Ag Tryz.prog G 92 [.optr r 0, .oslice 1 q 0 1 1] (upd H q (some (.cells [.str s] 9))) (SQ B r (ts++ [Ah s])):=by
 refine Ag.fzA q C ?_;have n:r≠q:=hw.ne C;simp only[fzs,fz,if_neg n,if_pos];exact Ag9 hG [s] B r ts H D E hw
theorem Gw2 (hG:GX G) (s t:List UInt8) {q:Nat} (C:H q=none) (D:B r=none) (E:ts.length+2<=1000000000) (hw:SAt B r ts H):Ag Tryz.prog G 92 [.optr r 0, .oslice 1 q 0 2 2] (upd H q (some (.cells [.str s, .str t] 9))) (SQ B r (ts++ [Ah s,Ah t])):=by
 refine Ag.fzA q C ?_;have n:r≠q:=hw.ne C;simp only[fzs,fz,if_neg n,if_pos];exact Ag9 hG [s,t] B r ts H D E hw
end
theorem Au5 (ts:List Tok):(ts.flatMap Cq).all (fun d=>d.one)=true:=by
 rw[List.all_eq_true];intro d hd;obtain⟨t,_,hd⟩:=List.mem_flatMap.1 hd;exact List.all_eq_true.1 (Jh t) d hd
theorem Ai5 (ts:List Tok):(ts.flatMap Cq).take (ts.length*4)=ts.flatMap Cq:=List.take_of_length_le (by rw[Aw Ao];omega)
section
end
section
end
theorem Am8 {ws:List (List UInt8)} (h:0<ws.length):Cw (ws.take 1)= [Dw ws[0]]:=by
 cases ws with
 | nil=>simp at h
 | cons s l=>rfl
theorem Ad9 {ws:List (List UInt8)} {j:Nat} (C:j<ws.length) (D:0<j):Cw (ws.take (j+1))=Cw (ws.take j)++ [Ah Ee,Dw ws[j]]:=by
 unfold Cw;rw[Ti C,List.map_append,List.map_singleton,Af2 _ _ _ (by
  intro e;have:=congrArg List.length e;rw[jK,List.length_take,jB] at this;omega)]
theorem Rc {ws:List (List UInt8)}: ∀j,j<=ws.length->(Cw (ws.take j)).length=2*j-1
 | 0,_=>rfl
 | 1,h=>by rw[Am8 (by omega)];rfl
 | j+2,h=>by
  rw[Ad9 (by omega) (by omega),jC,Rc (j+1) (by omega)];simp only[jA,jB];omega
section
variable {G:Nat->DVal}
set_option maxHeartbeats 4000000 in
theorem Ae0 (hG:GX G) (ws:List (List UInt8)) (al:ws.length<=100000000):SrC Tryz.prog G 93 [dW ws] (Cw ws):=by
 intro B r ts H hB am hw;have aj:=Rc ws.length (Nat.le_refl _);rw[List.take_length] at aj;refine Ab Tryz.func93 Tryz.call93 rfl (by kernel_rfl) ?_;simp(disch:=omega)only[go_sem,dW];obtain⟨I,Y⟩: ∃I:Nat->(Nat->DVal)->Ac->Prop,∀j env heap,I j env heap↔(env 0= .optr r 0/\env 7=dW ws/\env 8=dI ws.length/\env 9=dI j/\j<=ws.length/\SAt B r (ts++Cw (ws.take j)) heap):=⟨_,fun _ _ _=>Iff.rfl⟩;refine Dr7.run I (fun j=>ws.length-j) 0 ((Y _ _ _).2 ?_) ?_
 ·simp(disch:=omega)only[go_sem];(repeat' apply And.intro)<;>(try first | rfl | assumption | omega);rw[show Cw []= [] from rfl,jH];exact hw
 ·intro j env heap hi;obtain⟨C,D,E,J,hj,Z⟩:=(Y _ _ _).1 hi;by_cases ac:j<ws.length
  ·have aa:(j:Int)<(ws.length:Int):=by omega
   have ah:IntKind.i64.wrap ((j:Int)+1)=((j+1:Nat):Int):=by rw[IntKind.wrap_i64];omega
   have ab:(ws.map DVal.str)[j]? =some (.str ws[j]):=by rw[List.getElem?_map,List.getElem?_eq_getElem ac];rfl
   have ai:(ws.map DVal.str).length=ws.length:=jK _;have ao:=Rc j hj;by_cases j0:j=0
   ·subst j0;have S:Cw (ws.take (0+1))= []++ [Dw ws[0]]:=Am8 ac;obtain⟨s,ad⟩: ∃s,s=ws[0]:=⟨_,rfl⟩;rw[<-ad] at ab S;have U:SAt B r (ts++ []) heap:=Z;simp(disch:=omega)only[go_sem,C,D,E,J,aa,dW,ab,ai,jD];have ap:(ts++([]:List Tok)).length+1<=1000000000:=by rw[jH];omega
    rw[jH] at U;rw[jG] at S;obtain⟨v,hv⟩:=U;have L:=hv.keep (Aa _ _ _);simp(disch:=omega)only[go_sem,C,D,E,J,L];intro ae M;dsimp only at M;have V:r≠ae:=Af M L;have af:=V.symm;have ag:=hv.new M (some (.cells (Cq (Dw s)) 31));simp(disch:=omega)only[go_sem,C,D,E,J,L,V,af];refine Jw.append (m:=1) ag rfl (by omega) fun W H6 O=> ?_;have g6:=O.keep (Aa _ _ _);obtain⟨j1,j2⟩:=O.cell1;simp(disch:=omega)only[go_sem,C,D,E,J,g6,j1,j2];refine⟨0+1,_,Rz.refl _,(Y _ _ _).2 ?_,by omega⟩;simp(disch:=omega)only[go_sem,C,D,E,J,ah];(repeat' apply And.intro)<;>(try first | rfl | assumption | omega);refine⟨W, ?_⟩;have X:=O.at (Aa _ _ _) (some (.cells [W] 146));rw[Gr] at X;rw[S,Hq,jC,jQ];exact X
   ·have ak:(0:Int)<(j:Int):=by omega
    have S:Cw (ws.take (j+1))=(Cw (ws.take j)++ [Ah Ee])++ [Dw ws[j]]:=by rw[Ad9 ac (by omega)];simp
    obtain⟨s,ad⟩: ∃s,s=ws[j]:=⟨_,rfl⟩;rw[<-ad] at ab S;simp(disch:=omega)only[go_sem,C,D,E,J,aa,dW,ab,ai,jD,ak];intro q hq;dsimp only at hq;simp(disch:=omega)only[go_sem,C,D,E,J];refine(Au4 hG Ee hq hB (by rw[jC];omega) Z).mono ?_;rintro _ H2 ⟨rfl,U⟩;rw[jO] at U;simp(disch:=omega)only[go_sem,C,D,E,J];obtain⟨v,hv⟩:=U;have L:=hv.keep (Aa _ _ _);simp(disch:=omega)only[go_sem,C,D,E,J,L];intro ae M;dsimp only at M;have V:r≠ae:=Af M L;have af:=V.symm;have ag:=hv.new M (some (.cells (Cq (Dw s)) 31));simp(disch:=omega)only[go_sem,C,D,E,J,L,V,af];refine Jw.append (m:=1) ag rfl (by simp only[jC,jA,jB];omega) fun W H6 O=> ?_;have g6:=O.keep (Aa _ _ _);obtain⟨j1,j2⟩:=O.cell1;simp(disch:=omega)only[go_sem,C,D,E,J,g6,j1,j2];refine⟨j+1,_,Rz.refl _,(Y _ _ _).2 ?_,by omega⟩;simp(disch:=omega)only[go_sem,C,D,E,J,ah];(repeat' apply And.intro)<;>(try first | rfl | assumption | omega);refine⟨W, ?_⟩;have X:=O.at (Aa _ _ _) (some (.cells [W] 146));rw[Gr] at X;rw[S,<-jO,Hq,jC,jQ];exact X
  ·have:j=ws.length:=by omega
   subst this;have aa: ¬(ws.length:Int)<(ws.length:Int):=by omega
   rw[List.take_length] at Z;simp(disch:=omega)only[go_sem,C,D,E,J,aa];exact Fa.refl ⟨rfl,Z⟩
set_option maxHeartbeats 4000000 in
theorem Cm6 (hG:GX G) (ws:List (List UInt8)) (ao:ws.length<=100000000) {B H:Ac} {r Z:Nat} {ts:List Tok} (ac:B Z=some (.cells (ws.map .str) 9)) (hB:B r=none) (ap:ts.length+(Cw ws).length<=1000000000) (hw:SAt B r ts H):
  Ag Tryz.prog G 93 [.optr r 0, .oslice 1 Z 0 ws.length ws.length] H (fun e H'=>e= .ret (.optr r 0)/\SAt B r (ts++Cw ws) H'):=by
 have ak:Z≠r:=fun e=>by rw[e,hB] at ac;cases ac
 have al:=Rc ws.length (Nat.le_refl _);rw[List.take_length] at al;refine Ab Tryz.func93 Tryz.call93 rfl (by kernel_rfl) ?_;simp(disch:=omega)only[go_sem,dW];obtain⟨I,hI⟩: ∃I:Nat->(Nat->DVal)->Ac->Prop,∀j env heap,I j env heap↔(env 0= .optr r 0/\env 7= .oslice 1 Z 0 ws.length ws.length/\env 8=dI ws.length/\env 9=dI j/\j<=ws.length/\SAt B r (ts++Cw (ws.take j)) heap):=⟨_,fun _ _ _=>Iff.rfl⟩;refine Dr7.run I (fun j=>ws.length-j) 0 ((hI _ _ _).2 ?_) ?_
 ·simp(disch:=omega)only[go_sem];(repeat' apply And.intro)<;>(try first | rfl | assumption | omega);rw[show Cw []= [] from rfl,jH];exact hw
 ·intro j env heap hi;obtain⟨C,D,E,J,hj,U⟩:=(hI _ _ _).1 hi;have gq:=U.keep ac ak;by_cases ad:j<ws.length
  ·have aa:(j:Int)<(ws.length:Int):=by omega
   have ai:IntKind.i64.wrap ((j:Int)+1)=((j+1:Nat):Int):=by rw[IntKind.wrap_i64];omega
   have ab:(ws.map DVal.str)[j]? =some (.str ws[j]):=by rw[List.getElem?_map,List.getElem?_eq_getElem ad];rfl
   have aj:(ws.map DVal.str).length=ws.length:=jK _;have aq:=Rc j hj;by_cases j0:j=0
   ·subst j0;have S:Cw (ws.take (0+1))= []++ [Dw ws[0]]:=Am8 ad;obtain⟨s,ae⟩: ∃s,s=ws[0]:=⟨_,rfl⟩;rw[<-ae] at ab S;have V:SAt B r (ts++ []) heap:=U;simp(disch:=omega)only[go_sem,C,D,E,J,aa,gq,ab,aj,jD];have ar:(ts++([]:List Tok)).length+1<=1000000000:=by rw[jH];omega
    rw[jH] at V;rw[jG] at S;obtain⟨v,hv⟩:=V;have L:=hv.keep (Aa _ _ _);simp(disch:=omega)only[go_sem,C,D,E,J,L];intro af M;dsimp only at M;have W:r≠af:=Af M L;have ag:=W.symm;have ah:=hv.new M (some (.cells (Cq (Dw s)) 31));simp(disch:=omega)only[go_sem,C,D,E,J,L,W,ag];refine Jw.append (m:=1) ah rfl (by omega) fun X H6 O=> ?_;have g6:=O.keep (Aa _ _ _);obtain⟨j1,j2⟩:=O.cell1;simp(disch:=omega)only[go_sem,C,D,E,J,g6,j1,j2];refine⟨0+1,_,Rz.refl _,(hI _ _ _).2 ?_,by omega⟩;simp(disch:=omega)only[go_sem,C,D,E,J,ai];(repeat' apply And.intro)<;>(try first | rfl | assumption | omega);refine⟨X, ?_⟩;have Y:=O.at (Aa _ _ _) (some (.cells [X] 146));rw[Gr] at Y;rw[S,Hq,jC,jQ];exact Y
   ·have am:(0:Int)<(j:Int):=by omega
    have S:Cw (ws.take (j+1))=(Cw (ws.take j)++ [Ah Ee])++ [Dw ws[j]]:=by rw[Ad9 ad (by omega)];simp
    obtain⟨s,ae⟩: ∃s,s=ws[j]:=⟨_,rfl⟩;rw[<-ae] at ab S;simp(disch:=omega)only[go_sem,C,D,E,J,aa,gq,ab,aj,jD,am];intro q hq;dsimp only at hq;simp(disch:=omega)only[go_sem,C,D,E,J];refine(Au4 hG Ee hq hB (by rw[jC];omega) U).mono ?_;rintro _ H2 ⟨rfl,V⟩;rw[jO] at V;simp(disch:=omega)only[go_sem,C,D,E,J];obtain⟨v,hv⟩:=V;have L:=hv.keep (Aa _ _ _);simp(disch:=omega)only[go_sem,C,D,E,J,L];intro af M;dsimp only at M;have W:r≠af:=Af M L;have ag:=W.symm;have ah:=hv.new M (some (.cells (Cq (Dw s)) 31));simp(disch:=omega)only[go_sem,C,D,E,J,L,W,ag];refine Jw.append (m:=1) ah rfl (by simp only[jC,jA,jB];omega) fun X H6 O=> ?_;have g6:=O.keep (Aa _ _ _);obtain⟨j1,j2⟩:=O.cell1;simp(disch:=omega)only[go_sem,C,D,E,J,g6,j1,j2];refine⟨j+1,_,Rz.refl _,(hI _ _ _).2 ?_,by omega⟩;simp(disch:=omega)only[go_sem,C,D,E,J,ai];(repeat' apply And.intro)<;>(try first | rfl | assumption | omega);refine⟨X, ?_⟩;have Y:=O.at (Aa _ _ _) (some (.cells [X] 146));rw[Gr] at Y;rw[S,<-jO,Hq,jC,jQ];exact Y
  ·have:j=ws.length:=by omega
   subst this;have aa: ¬(ws.length:Int)<(ws.length:Int):=by omega
   rw[List.take_length] at U;simp(disch:=omega)only[go_sem,C,D,E,J,aa];exact Fa.refl ⟨rfl,U⟩
set_option maxHeartbeats 4000000 in
theorem Gq (hG:GX G) (e:Ex) (hm:Ci e=true) (he:Fit e):SrC Tryz.prog G 122 [.agg (dEx e)] (Ai e):=by
 intro B r ts H hB ab hw;have S:As2 e=(Ai e,0):=by rw[As2,hm];rfl
 refine Ab Tryz.func122 Tryz.call122 rfl (by kernel_rfl) ?_;simp(disch:=omega)only[go_sem,DVal.cells];intro C D;dsimp only at D;have L:=hw.frame D (.cells (dEx e) 27);have U:B C=none:=(hw.lo D).1;obtain⟨K,E⟩: ∃K,K=upd H C (some (.cells (dEx e) 27)):=⟨_,rfl⟩;rw[<-E] at L⊢
 have V:K C=some (.cells (dEx e) 27):=by rw[E];exact Aa _ _ _
 clear E;simp(disch:=omega)only[go_sem,V];refine Ag.monoR (Cx8 hG K e he) ?_;rw[S];obtain⟨v,hv⟩:=L;have W:=hv.keep (Aa _ _ _);have M:=Aw Ao (Ai e);simp(disch:=omega)only[go_sem,W,Bl,Au5,Ai5,M,jD];refine Jw.append (m:=(Ai e).length) hv M (by omega) fun I X J=> ?_;have Y:=J.keep (Aa _ _ _);obtain⟨Z,j2⟩:=J.cell1;simp(disch:=omega)only[go_sem,Y,Z,j2];have O:=J.at (Aa _ _ _) (some (.cells [I] 146));rw[Gr] at O;have aa:SAt (upd B C (some (.cells (dEx e) 27))) r (ts++Ai e) (upd X r (some (.cells [I] 146))):=⟨I,by rw[jC,List.flatMap_append];exact O⟩;exact Fa.refl ⟨rfl,aa.drop U⟩
structure St (B0 B:Ac) (r:Nat) (ts:List Tok) (K:Ac):Prop where
 hw:SAt B r ts K
 hr:B r=none
 hs:Sub B0 B
section
variable {B0 B K:Ac} {r:Nat} {ts:List Tok}
theorem St.g (h:St B0 B r ts K) {x:Nat} {o:DObj} (hx:B x=some o):K x=some o:=h.hw.keep hx fun e=>by rw[e,h.hr] at hx;cases hx
theorem St.new (h:St B0 B r ts K) {q:Nat} (C:K q=none) (o:DObj): ∃B' K',upd K q (some o)=K'/\St B0 B' r ts K'/\Sub B B'/\B' q=some o:=by
 have hl:=h.hw.lo C;have s:Sub B (upd B q (some o)):=(Sub.refl B).up hl.1 _;exact⟨_,_,rfl,⟨h.hw.frame C o,by rw[Am _ _ _ _ hl.2.symm];exact h.hr,h.hs.trans s⟩,s,Aa _ _ _⟩
theorem St.call {P:Program} {f:FuncId} {args:List DVal} {t:List Tok} (h:St B0 B r ts K) (c:SrC P G f args t) (C:ts.length+t.length<=1000000000):Ag P G f (.optr r 0::args) K (fun e K'=>e= .ret (.optr r 0)/\St B0 B r (ts++t) K'):=
 (c B r ts K h.hr C h.hw).mono fun _ _ ⟨e,w⟩=>⟨e,w,h.hr,h.hs⟩
theorem St.put (h:St B0 B r ts K) (hG:GX G) (ws:List (List UInt8)) {q:Nat} (C:B q=some (.cells (ws.map .str) 9)) (D:ts.length+(ws.map Ah).length<=1000000000):Ag Tryz.prog G 92 [.optr r 0, .oslice 1 q 0 ws.length ws.length] K (fun e K'=>e= .ret (.optr r 0)/\St B0 B r (ts++ws.map Ah) K'):=
 (Dp4 hG ws C h.hr D h.hw).mono fun _ _ ⟨e,w⟩=>⟨e,w,h.hr,h.hs⟩
theorem St.nms (h:St B0 B r ts K) (hG:GX G) (ws:List (List UInt8)) (C:ws.length<=100000000) {q:Nat} (D:B q=some (.cells (ws.map .str) 9)) (E:ts.length+(Cw ws).length<=1000000000):Ag Tryz.prog G 93 [.optr r 0, .oslice 1 q 0 ws.length ws.length] K (fun e K'=>e= .ret (.optr r 0)/\St B0 B r (ts++Cw ws) K'):=
 (Cm6 hG ws C D h.hr E h.hw).mono fun _ _ ⟨e,w⟩=>⟨e,w,h.hr,h.hs⟩
theorem St.start (s:Sub B0 B) (hr:B r=none): ∃K,upd B r (some (.cells [.nilSlice] 146))=K/\St B0 B r [] K:=⟨_,rfl,SAt.start hr,hr,s⟩
theorem Sub.newK (s:Sub B0 K) {q:Nat} (C:K q=none) (o:DObj): ∃K',upd K q (some o)=K'/\Sub B0 K'/\Sub K K'/\K' q=some o:=⟨_,rfl,s.up (s.lo C) _,(Sub.refl K).up C _,Aa _ _ _⟩
end
end
theorem Gw3 {x:Ex}:noE x=true↔stE x=ex0:=by
 unfold noE;rw[Uc];rfl
theorem Dx4 {x:Ex} (h:Ci x=true):noE x=false:=by
 cases c:noE x with
 | false=>rfl
 | true=>
  exfalso;have hk:x.kind=0:=by rw[<-Km,Gw3.1 c];rfl
  have hv:=(Jp (Qw h)).1;unfold Bg at hv;simp [hk] at hv
theorem Fi9 (e:Ex):(Ai e).length<=(Ar e 2).length:=by
 rw[Ar,Ub];split<;>omega
section
variable {G:Nat->DVal}
set_option maxHeartbeats 4000000 in
theorem Bf0 (hG:GX G) (e:Ex) (hm:Ic e=true) (he:Dp 1048576 e):SrC Tryz.prog G 123 [.agg (dEx e)] (Ny e):=by
 intro B0 r ts H hB L hw;refine Ab Tryz.func123 Tryz.call123 rfl (by kernel_rfl) ?_;simp(disch:=omega)only[go_sem,DVal.cells];intro C I;dsimp only at I;have M:=hw.frame I (.cells (dEx e) 27);have ac:B0 C=none:=(hw.lo I).1;have ad:C≠r:=(hw.lo I).2;obtain⟨B1,D⟩: ∃X,X=upd B0 C (some (.cells (dEx e) 27)):=⟨_,rfl⟩;have ae:B1 C=some (.cells (dEx e) 27):=by rw[D];exact Aa _ _ _
 have W:Sub B0 B1:=by rw[D];exact(Sub.refl _).up ac _
 have af:B1 r=none:=by rw[D,Am _ _ _ _ ad.symm];exact hB
 obtain⟨O,J⟩: ∃X,X=upd H C (some (.cells (dEx e) 27)):=⟨_,rfl⟩;rw[<-D,<-J] at M;rw[<-J];have E:O C=some (.cells (dEx e) 27):=by rw[J];exact Aa _ _ _
 clear D J;simp(disch:=omega)only[go_sem,E,Al (Ad _)];intro q hq;dsimp only at hq;simp(disch:=omega)only[go_sem];refine Ag.monoR (Be3 G O [e] q _ _ (by simp) hq (by simp) (by intro x hx;simp at hx;subst hx;assumption) rfl) ?_;rw[show [e].all noE=noE e by simp];cases h0:noE e
 ·have ag:Ci e=true:=by rw[Ic,h0,Bool.false_or] at hm;exact hm
  have ht:Ny e=Ah Od::Ai e:=by rw[Ny,h0];rfl
  rw[ht] at L⊢
  simp(disch:=omega)only[go_sem];refine Ak (by kernel_rfl) (.take 0 (.take 3 (.go 1 [3] (.go 2 [3] (.go 4 [] (.take 5 .done)))))) (by kernel_rfl) ?_;simp(disch:=omega)only[go_sem,E];have h0:St B0 B1 r ts O:=⟨M,af,W⟩;intro qa Y;dsimp only at Y;obtain⟨al,am,ah,Z,ai,aj⟩:=h0.new Y (.cells [.str [58,61]] 9);rw[ah];have S:=ai _ _ ae;have U:=Z.g S;try simp(disch:=omega)only[go_sem,E,U]
  refine(Z.put hG [Od] aj (by(try simp only[jC,jA,jB,jK,jN,jP,List.length_flatMap] at L⊢)<;>omega)).mono ?_;rintro _ ao ⟨rfl,aa⟩;have ab:=aa.g S;try simp(disch:=omega)only[go_sem,E,U,ab]
  refine(aa.call (Gq hG e ag he.fitx) (by(try simp only[jC,jA,jB,jK,jN,jP,List.length_flatMap] at L⊢)<;>omega)).mono ?_;rintro _ ap ⟨rfl,V⟩;have ak:=V.g S;try simp(disch:=omega)only[go_sem,E,U,ab,ak]
  exact Fa.refl ⟨rfl,by simpa using V.hw.less V.hs⟩
 ·simp(disch:=omega)only[go_sem];exact Fa.refl ⟨rfl,by rw[Ny,h0];simpa using M.less W⟩
set_option maxHeartbeats 4000000 in
theorem Vt (hG:GX G) (e:Ex) (hm:Ci e=true) (he:Dp 1048576 e):SrC Tryz.prog G 204 [.agg (dEx e)] (Ar e 2):=by
 intro B0 r ts H hB D hw;have b2:=Fi9 e;refine Ab Tryz.func204 Tryz.call204 rfl (by kernel_rfl) ?_;simp(disch:=omega)only[go_sem,DVal.cells];intro M Y;dsimp only at Y;have af:=hw.frame Y (.cells (dEx e) 27);have bk:B0 M=none:=(hw.lo Y).1;have bl:M≠r:=(hw.lo Y).2;obtain⟨B1,U⟩: ∃X,X=upd B0 M (some (.cells (dEx e) 27)):=⟨_,rfl⟩;have ag:B1 M=some (.cells (dEx e) 27):=by rw[U];exact Aa _ _ _
 have aw:Sub B0 B1:=by rw[U];exact(Sub.refl _).up bk _
 have ax:B1 r=none:=by rw[U,Am _ _ _ _ bl.symm];exact hB
 obtain⟨Z,aa⟩: ∃X,X=upd H M (some (.cells (dEx e) 27)):=⟨_,rfl⟩;rw[<-U,<-aa] at af;rw[<-aa];have C:Z M=some (.cells (dEx e) 27):=by rw[aa];exact Aa _ _ _
 clear U aa;simp(disch:=omega)only[go_sem,C];refine Ag.monoR (Yc G Z e) ?_;by_cases c:Aq e<2
 ·have hp:Ar e 2=Ah Bf::(Ai e++ [Ah Bv]):=by rw[Ar,decide_eq_true c];rfl
  rw[hp] at D⊢
  simp(disch:=omega)only[go_sem,c];refine Ak (by kernel_rfl) (.take 0 (.take 3 (.alt (.go 5 [3] (.go 1 [3] (.go 2 [3] (.go 4 [] (.go 6 [] (.take 7 .done)))))) (.go 1 [3] (.alt (.go 5 [3] (.go 2 [3] (.go 4 [] (.go 6 [] (.take 7 .done))))) (.go 2 [3] (.alt (.go 5 [3] (.go 4 [] (.go 6 [] (.take 7 .done)))) (.go 4 [] (.go 5 [3] (.go 6 [] (.take 7 .done))))))))))) (by kernel_rfl) ?_;simp(disch:=omega)only[go_sem,C];have h0:St B0 B1 r ts Z:=⟨af,ax,aw⟩;refine⟨?_, ?_⟩
  ·intro qb I;dsimp only at I;obtain⟨b3,b4,bm,ay,bn,J⟩:=h0.new I (.cells [.str [41]] 9);rw[bm];have a0:=bn _ _ ag;have V:=ay.g a0;try simp(disch:=omega)only[go_sem,C,V]
   intro qa W;dsimp only at W;obtain⟨b5,b6,bo,a1,a2,O⟩:=ay.new W (.cells [.str [40]] 9);rw[bo];have ab:=a2 _ _ a0;have bp:=a2 _ _ J;have ac:=a1.g ab;try simp(disch:=omega)only[go_sem,C,V,ac]
   refine(a1.put hG [Bf] O (by(try simp only[jC,jA,jB,jK,jN,jP,List.length_flatMap] at D⊢)<;>omega)).mono ?_;rintro _ b7 ⟨rfl,a3⟩;have ah:=a3.g ab;try simp(disch:=omega)only[go_sem,C,V,ac,ah]
   refine(a3.call (Gq hG e hm he.fitx) (by(try simp only[jC,jA,jB,jK,jN,jP,List.length_flatMap] at D⊢)<;>omega)).mono ?_;rintro _ b8 ⟨rfl,a4⟩;have a5:=a4.g ab;try simp(disch:=omega)only[go_sem,C,V,ac,ah,a5]
   refine(a4.put hG [Bv] bp (by(try simp only[jC,jA,jB,jK,jN,jP,List.length_flatMap] at D⊢)<;>omega)).mono ?_;rintro _ b9 ⟨rfl,ai⟩;have bq:=ai.g ab;try simp(disch:=omega)only[go_sem,C,V,ac,ah,a5,bq]
   exact Fa.refl ⟨rfl,by simpa using ai.hw.less ai.hs⟩
  ·intro qa W;dsimp only at W;obtain⟨ca,cb,br,aj,bs,O⟩:=h0.new W (.cells [.str [40]] 9);rw[br];have S:=bs _ _ ag;have E:=aj.g S;try simp(disch:=omega)only[go_sem,C,E]
   refine⟨?_, ?_⟩
   ·intro qb I;dsimp only at I;obtain⟨cc,cd,bt,a6,a7,J⟩:=aj.new I (.cells [.str [41]] 9);rw[bt];have ad:=a7 _ _ S;have bu:=a7 _ _ O;have ae:=a6.g ad;try simp(disch:=omega)only[go_sem,C,E,ae]
    refine(a6.put hG [Bf] bu (by(try simp only[jC,jA,jB,jK,jN,jP,List.length_flatMap] at D⊢)<;>omega)).mono ?_;rintro _ ce ⟨rfl,a8⟩;have ak:=a8.g ad;try simp(disch:=omega)only[go_sem,C,E,ae,ak]
    refine(a8.call (Gq hG e hm he.fitx) (by(try simp only[jC,jA,jB,jK,jN,jP,List.length_flatMap] at D⊢)<;>omega)).mono ?_;rintro _ cf ⟨rfl,a9⟩;have ba:=a9.g ad;try simp(disch:=omega)only[go_sem,C,E,ae,ak,ba]
    refine(a9.put hG [Bv] J (by(try simp only[jC,jA,jB,jK,jN,jP,List.length_flatMap] at D⊢)<;>omega)).mono ?_;rintro _ cg ⟨rfl,al⟩;have bv:=al.g ad;try simp(disch:=omega)only[go_sem,C,E,ae,ak,ba,bv]
    exact Fa.refl ⟨rfl,by simpa using al.hw.less al.hs⟩
   ·refine(aj.put hG [Bf] O (by(try simp only[jC,jA,jB,jK,jN,jP,List.length_flatMap] at D⊢)<;>omega)).mono ?_;rintro _ ci ⟨rfl,am⟩;have L:=am.g S;try simp(disch:=omega)only[go_sem,C,E,L]
    refine⟨?_, ?_⟩
    ·intro qb I;dsimp only at I;obtain⟨cj,ck,bw,bb,bc,J⟩:=am.new I (.cells [.str [41]] 9);rw[bw];have ao:=bc _ _ S;have cl:=bc _ _ O;have ap:=bb.g ao;try simp(disch:=omega)only[go_sem,C,E,L,ap]
     refine(bb.call (Gq hG e hm he.fitx) (by(try simp only[jC,jA,jB,jK,jN,jP,List.length_flatMap] at D⊢)<;>omega)).mono ?_;rintro _ cm ⟨rfl,bd⟩;have be:=bd.g ao;try simp(disch:=omega)only[go_sem,C,E,L,ap,be]
     refine(bd.put hG [Bv] J (by(try simp only[jC,jA,jB,jK,jN,jP,List.length_flatMap] at D⊢)<;>omega)).mono ?_;rintro _ cn ⟨rfl,aq⟩;have bx:=aq.g ao;try simp(disch:=omega)only[go_sem,C,E,L,ap,be,bx]
     exact Fa.refl ⟨rfl,by simpa using aq.hw.less aq.hs⟩
    ·refine(am.call (Gq hG e hm he.fitx) (by(try simp only[jC,jA,jB,jK,jN,jP,List.length_flatMap] at D⊢)<;>omega)).mono ?_;rintro _ co ⟨rfl,bf⟩;have ar:=bf.g S;try simp(disch:=omega)only[go_sem,C,E,L,ar]
     intro qb I;dsimp only at I;obtain⟨cp,cq,bz,bg,bh,J⟩:=bf.new I (.cells [.str [41]] 9);rw[bz];have bi:=bh _ _ S;have cr:=bh _ _ O;have bj:=bg.g bi;try simp(disch:=omega)only[go_sem,C,E,L,ar,bj]
     refine(bg.put hG [Bv] J (by(try simp only[jC,jA,jB,jK,jN,jP,List.length_flatMap] at D⊢)<;>omega)).mono ?_;rintro _ ct ⟨rfl,au⟩;have b0:=au.g bi;try simp(disch:=omega)only[go_sem,C,E,L,ar,bj,b0]
     exact Fa.refl ⟨rfl,by simpa using au.hw.less au.hs⟩
 ·have hp:Ar e 2=Ai e:=by rw[Ar,decide_eq_false c];rfl
  rw[hp] at D⊢
  simp(disch:=omega)only[go_sem,c,C];have h0:St B0 B1 r ts Z:=⟨af,ax,aw⟩;refine(h0.call (Gq hG e hm he.fitx) (by(try simp only[jC,jA,jB,jK,jN,jP,List.length_flatMap] at D⊢)<;>omega)).mono ?_;rintro _ cu ⟨rfl,av⟩;have b1:=av.g ag;simp(disch:=omega)only[go_sem,C,b1];exact Fa.refl ⟨rfl,by simpa using av.hw.less av.hs⟩
set_option maxHeartbeats 4000000 in
theorem Sx (hG:GX G) (a b:Ex) (ha:Ci a=true) (hb:Ci b=true) (fa:Dp 1048576 a) (fb:Dp 1048576 b):SrC Tryz.prog G 94 [.agg (dEx a), .agg (dEx b)] (Dj a b):=by
 intro B0 r ts H hB E hw;rw[Dj] at E⊢
 refine Ab Tryz.func94 Tryz.call94 rfl (by kernel_rfl) ?_;simp(disch:=omega)only[go_sem,DVal.cells];intro I U;dsimp only at U;have V:=hw.frame U (.cells (dEx a) 27);have a9:B0 I=none:=(hw.lo U).1;have a2:I≠r:=(hw.lo U).2;obtain⟨B1,M⟩: ∃X,X=upd B0 I (some (.cells (dEx a) 27)):=⟨_,rfl⟩;have ba:B1 I=some (.cells (dEx a) 27):=by rw[M];exact Aa _ _ _
 have bb:Sub B0 B1:=by rw[M];exact(Sub.refl _).up a9 _
 have bc:B1 r=none:=by rw[M,Am _ _ _ _ a2.symm];exact hB
 obtain⟨K1,W⟩: ∃X,X=upd H I (some (.cells (dEx a) 27)):=⟨_,rfl⟩;rw[<-M,<-W] at V;rw[<-W];have bn:K1 I=some (.cells (dEx a) 27):=by rw[W];exact Aa _ _ _
 clear M W;simp(disch:=omega)only[go_sem,DVal.cells];intro J Y;dsimp only at Y;have aj:=V.frame Y (.cells (dEx b) 27);have bd:B1 J=none:=(V.lo Y).1;have be:J≠r:=(V.lo Y).2;obtain⟨L,O⟩: ∃X,X=upd B1 J (some (.cells (dEx b) 27)):=⟨_,rfl⟩;have ak:L J=some (.cells (dEx b) 27):=by rw[O];exact Aa _ _ _
 have a3:Sub B1 L:=by rw[O];exact(Sub.refl _).up bd _
 have bf:L r=none:=by rw[O,Am _ _ _ _ be.symm];exact bc
 obtain⟨K2,Z⟩: ∃X,X=upd K1 J (some (.cells (dEx b) 27)):=⟨_,rfl⟩;rw[<-O,<-Z] at aj;rw[<-Z];have C:K2 J=some (.cells (dEx b) 27):=by rw[Z];exact Aa _ _ _
 clear O Z;have bg:Sub B0 L:=bb.trans a3;have aa:L I=some (.cells (dEx a) 27):=a3 _ _ ba;have D:=aj.keep aa a2;simp(disch:=omega)only[go_sem,D,C];refine Ak (by kernel_rfl) (.take 0 (.take 1 (.take 5 (.alt (.go 3 [5,1] (.go 2 [5] (.go 4 [5] (.go 6 [] (.take 7 .done))))) (.go 2 [5] (.go 3 [5,1] (.go 4 [5] (.go 6 [] (.take 7 .done))))))))) (by kernel_rfl) ?_;simp(disch:=omega)only[go_sem,D,C];have h0:St B0 L r ts K2:=⟨aj,bf,bg⟩;refine⟨?_, ?_⟩
 ·intro qa S;dsimp only at S;obtain⟨bo,bp,bh,al,s32,am⟩:=h0.new S (.cells [.str [46,46]] 9);rw[bh];have ab:=s32 _ _ aa;have ac:=s32 _ _ ak;have ad:=al.g ab;have ae:=al.g ac;try simp(disch:=omega)only[go_sem,D,C,ad,ae]
  refine(al.call (Vt hG a ha fa) (by(try simp only[jC,jA,jB,jK,jN,jP,List.length_flatMap] at E⊢)<;>omega)).mono ?_;rintro _ bq ⟨rfl,ao⟩;have ap:=ao.g ab;have aq:=ao.g ac;try simp(disch:=omega)only[go_sem,D,C,ad,ae,ap,aq]
  refine(ao.put hG [Ef] am (by(try simp only[jC,jA,jB,jK,jN,jP,List.length_flatMap] at E⊢)<;>omega)).mono ?_;rintro _ br ⟨rfl,ar⟩;have a4:=ar.g ab;have a5:=ar.g ac;try simp(disch:=omega)only[go_sem,D,C,ad,ae,ap,aq,a4,a5]
  refine(ar.call (Vt hG b hb fb) (by(try simp only[jC,jA,jB,jK,jN,jP,List.length_flatMap] at E⊢)<;>omega)).mono ?_;rintro _ bs ⟨rfl,af⟩;have bi:=af.g ab;have bj:=af.g ac;try simp(disch:=omega)only[go_sem,D,C,ad,ae,ap,aq,a4,a5,bi,bj]
  exact Fa.refl ⟨rfl,by simpa using af.hw.less af.hs⟩
 ·refine(h0.call (Vt hG a ha fa) (by(try simp only[jC,jA,jB,jK,jN,jP,List.length_flatMap] at E⊢)<;>omega)).mono ?_;rintro _ bt ⟨rfl,au⟩;have ag:=au.g aa;have ah:=au.g ak;try simp(disch:=omega)only[go_sem,D,C,ag,ah]
  intro qa S;dsimp only at S;obtain⟨bu,bv,bk,av,a6,am⟩:=au.new S (.cells [.str [46,46]] 9);rw[bk];have aw:=a6 _ _ aa;have ax:=a6 _ _ ak;have ay:=av.g aw;have a0:=av.g ax;try simp(disch:=omega)only[go_sem,D,C,ag,ah,ay,a0]
  refine(av.put hG [Ef] am (by(try simp only[jC,jA,jB,jK,jN,jP,List.length_flatMap] at E⊢)<;>omega)).mono ?_;rintro _ bw ⟨rfl,a1⟩;have a7:=a1.g aw;have a8:=a1.g ax;try simp(disch:=omega)only[go_sem,D,C,ag,ah,ay,a0,a7,a8]
  refine(a1.call (Vt hG b hb fb) (by(try simp only[jC,jA,jB,jK,jN,jP,List.length_flatMap] at E⊢)<;>omega)).mono ?_;rintro _ bx ⟨rfl,ai⟩;have bl:=ai.g aw;have bm:=ai.g ax;try simp(disch:=omega)only[go_sem,D,C,ag,ah,ay,a0,a7,a8,bl,bm]
  exact Fa.refl ⟨rfl,by simpa using ai.hw.less ai.hs⟩
theorem Dx5 {s:Ind} (hm:En s=true):Ci s.name=true/\(noE s.value=false->Ci s.value=true)/\(noE s.value=true->noE s.lo=false->Ci s.lo=true/\Ci s.hi=true):=by
 rw[En,jF] at hm;obtain⟨h1,h2⟩:=hm;refine⟨by rw[Ib,jF] at h1;exact h1.1,fun c=> ?_,fun c d=> ?_⟩
 ·rw[c] at h2;simp at h2;exact h2.2
 ·rw[c,d] at h2;simp at h2;exact h2
set_option maxHeartbeats 8000000 in
theorem Vu (hG:GX G) (s:Ind) (hm:En s=true) (hs:Be1 1048576 s):SrC Tryz.prog G 95 [.agg (Dv s)] (In s):=by
 intro B0 r ts H hB D hw;obtain⟨m1,m2,m3⟩:=Dx5 hm;obtain⟨f0,f1,f2,Y⟩:=hs;have cb:ts.length+(Ai s.name).length<=1000000000:=by rw[In,jC] at D;omega
 refine Ab Tryz.func95 Tryz.call95 rfl (by kernel_rfl) ?_;simp(disch:=omega)only[go_sem,DVal.cells];intro S Z;dsimp only at Z;have a1:=hw.frame Z (.cells (Dv s) 56);have br:B0 S=none:=(hw.lo Z).1;have a2:S≠r:=(hw.lo Z).2;obtain⟨B1,V⟩: ∃X,X=upd B0 S (some (.cells (Dv s) 56)):=⟨_,rfl⟩;have aa:B1 S=some (.cells (Dv s) 56):=by rw[V];exact Aa _ _ _
 have ah:Sub B0 B1:=by rw[V];exact(Sub.refl _).up br _
 have ai:B1 r=none:=by rw[V,Am _ _ _ _ a2.symm];exact hB
 obtain⟨K1,ab⟩: ∃X,X=upd H S (some (.cells (Dv s) 56)):=⟨_,rfl⟩;rw[<-V,<-ab] at a1;rw[<-ab];have bs:K1 S=some (.cells (Dv s) 56):=by rw[ab];exact Aa _ _ _
 clear V ab;simp(disch:=omega)only[go_sem,bs,An,Da,Db,Dc,Dd];refine(Gq hG s.name m1 f0.fitx B1 r _ _ ai (by omega) a1).mono ?_;rintro _ K2 ⟨rfl,ac⟩;have C:=ac.keep aa a2;simp(disch:=omega)only[go_sem,C,An,Da,Db,Dc,Dd,Al (Ad _)];intro p1 hp1;dsimp only at hp1;simp(disch:=omega)only[go_sem];refine Ag.monoR (Be3 G K2 [s.value] p1 _ _ (by simp) hp1 (by simp) (by intro x hx;simp at hx;subst hx;assumption) rfl) ?_;rw[show [s.value].all noE=noE s.value by simp];cases h0:noE s.value
 ·have ht:In s=Ai s.name++(Ah Bf::(Ai s.value++ [Ah Bv])):=by rw[In,h0];rfl
  rw[ht] at D⊢
  have mv:=m2 h0;simp(disch:=omega)only[go_sem];refine Ak (by kernel_rfl) pL5 (by kernel_rfl) ?_;simp(disch:=omega)only[go_sem,C,An,Da,Db,Dc,Dd];have h0:St B0 B1 r _ K2:=⟨ac,ai,ah⟩;refine⟨?_, ?_⟩
  ·intro qb I;dsimp only at I;obtain⟨cc,cd,bt,a3,bu,M⟩:=h0.new I (.cells [.str [41]] 9);rw[bt];have a4:=bu _ _ aa;have W:=a3.g a4;try simp(disch:=omega)only[go_sem,C,W,An,Da,Db,Dc,Dd]
   intro qa J;dsimp only at J;obtain⟨ce,cf,bv,a5,a6,L⟩:=a3.new J (.cells [.str [40]] 9);rw[bv];have ad:=a6 _ _ a4;have bw:=a6 _ _ M;have ae:=a5.g ad;try simp(disch:=omega)only[go_sem,C,W,ae,An,Da,Db,Dc,Dd]
   refine(a5.put hG [Bf] L (by(try simp only[jC,jA,jB,jK,jN,jP,List.length_flatMap] at D⊢)<;>omega)).mono ?_;rintro _ cg ⟨rfl,a7⟩;have aj:=a7.g ad;try simp(disch:=omega)only[go_sem,C,W,ae,aj,An,Da,Db,Dc,Dd]
   refine(a7.call (Gq hG s.value mv Y.fitx) (by(try simp only[jC,jA,jB,jK,jN,jP,List.length_flatMap] at D⊢)<;>omega)).mono ?_;rintro _ ci ⟨rfl,a8⟩;have a9:=a8.g ad;try simp(disch:=omega)only[go_sem,C,W,ae,aj,a9,An,Da,Db,Dc,Dd]
   refine(a8.put hG [Bv] bw (by(try simp only[jC,jA,jB,jK,jN,jP,List.length_flatMap] at D⊢)<;>omega)).mono ?_;rintro _ cj ⟨rfl,ak⟩;have bx:=ak.g ad;try simp(disch:=omega)only[go_sem,C,W,ae,aj,a9,bx,An,Da,Db,Dc,Dd]
   exact Fa.refl ⟨rfl,by simpa using ak.hw.less ak.hs⟩
  ·intro qa J;dsimp only at J;obtain⟨ck,cl,bz,al,b0,L⟩:=h0.new J (.cells [.str [40]] 9);rw[bz];have U:=b0 _ _ aa;have E:=al.g U;try simp(disch:=omega)only[go_sem,C,E,An,Da,Db,Dc,Dd]
   refine⟨?_, ?_⟩
   ·intro qb I;dsimp only at I;obtain⟨cm,cn,b1,ba,bb,M⟩:=al.new I (.cells [.str [41]] 9);rw[b1];have af:=bb _ _ U;have b2:=bb _ _ L;have ag:=ba.g af;try simp(disch:=omega)only[go_sem,C,E,ag,An,Da,Db,Dc,Dd]
    refine(ba.put hG [Bf] b2 (by(try simp only[jC,jA,jB,jK,jN,jP,List.length_flatMap] at D⊢)<;>omega)).mono ?_;rintro _ co ⟨rfl,bc⟩;have am:=bc.g af;try simp(disch:=omega)only[go_sem,C,E,ag,am,An,Da,Db,Dc,Dd]
    refine(bc.call (Gq hG s.value mv Y.fitx) (by(try simp only[jC,jA,jB,jK,jN,jP,List.length_flatMap] at D⊢)<;>omega)).mono ?_;rintro _ cp ⟨rfl,bd⟩;have be:=bd.g af;try simp(disch:=omega)only[go_sem,C,E,ag,am,be,An,Da,Db,Dc,Dd]
    refine(bd.put hG [Bv] M (by(try simp only[jC,jA,jB,jK,jN,jP,List.length_flatMap] at D⊢)<;>omega)).mono ?_;rintro _ cq ⟨rfl,ao⟩;have b3:=ao.g af;try simp(disch:=omega)only[go_sem,C,E,ag,am,be,b3,An,Da,Db,Dc,Dd]
    exact Fa.refl ⟨rfl,by simpa using ao.hw.less ao.hs⟩
   ·refine(al.put hG [Bf] L (by(try simp only[jC,jA,jB,jK,jN,jP,List.length_flatMap] at D⊢)<;>omega)).mono ?_;rintro _ cr ⟨rfl,ap⟩;have O:=ap.g U;try simp(disch:=omega)only[go_sem,C,E,O,An,Da,Db,Dc,Dd]
    refine⟨?_, ?_⟩
    ·intro qb I;dsimp only at I;obtain⟨ct,cu,b4,bf,bg,M⟩:=ap.new I (.cells [.str [41]] 9);rw[b4];have aq:=bg _ _ U;have cv:=bg _ _ L;have ar:=bf.g aq;try simp(disch:=omega)only[go_sem,C,E,O,ar,An,Da,Db,Dc,Dd]
     refine(bf.call (Gq hG s.value mv Y.fitx) (by(try simp only[jC,jA,jB,jK,jN,jP,List.length_flatMap] at D⊢)<;>omega)).mono ?_;rintro _ cw ⟨rfl,bh⟩;have bi:=bh.g aq;try simp(disch:=omega)only[go_sem,C,E,O,ar,bi,An,Da,Db,Dc,Dd]
     refine(bh.put hG [Bv] M (by(try simp only[jC,jA,jB,jK,jN,jP,List.length_flatMap] at D⊢)<;>omega)).mono ?_;rintro _ cx ⟨rfl,au⟩;have b5:=au.g aq;try simp(disch:=omega)only[go_sem,C,E,O,ar,bi,b5,An,Da,Db,Dc,Dd]
     exact Fa.refl ⟨rfl,by simpa using au.hw.less au.hs⟩
    ·refine(ap.call (Gq hG s.value mv Y.fitx) (by(try simp only[jC,jA,jB,jK,jN,jP,List.length_flatMap] at D⊢)<;>omega)).mono ?_;rintro _ cy ⟨rfl,bj⟩;have av:=bj.g U;try simp(disch:=omega)only[go_sem,C,E,O,av,An,Da,Db,Dc,Dd]
     intro qb I;dsimp only at I;obtain⟨cz,c0,b6,bk,bl,M⟩:=bj.new I (.cells [.str [41]] 9);rw[b6];have bm:=bl _ _ U;have c1:=bl _ _ L;have bn:=bk.g bm;try simp(disch:=omega)only[go_sem,C,E,O,av,bn,An,Da,Db,Dc,Dd]
     refine(bk.put hG [Bv] M (by(try simp only[jC,jA,jB,jK,jN,jP,List.length_flatMap] at D⊢)<;>omega)).mono ?_;rintro _ c2 ⟨rfl,aw⟩;have b7:=aw.g bm;try simp(disch:=omega)only[go_sem,C,E,O,av,bn,b7,An,Da,Db,Dc,Dd]
     exact Fa.refl ⟨rfl,by simpa using aw.hw.less aw.hs⟩
 ·simp(disch:=omega)only[go_sem,C,An,Da,Db,Dc,Dd,Al (Ad _)];intro p2 hp2;dsimp only at hp2;simp(disch:=omega)only[go_sem];refine Ag.monoR (Be3 G K2 [s.lo] p2 _ _ (by simp) hp2 (by simp) (by intro x hx;simp at hx;subst hx;assumption) rfl) ?_;rw[show [s.lo].all noE=noE s.lo by simp];cases h1:noE s.lo
  ·have ht:In s=Ai s.name++(Ah Eo::Dj s.lo s.hi):=by rw[In,h0,h1];rfl
   rw[ht] at D⊢
   obtain⟨ml,mh⟩:=m3 h0 h1;simp(disch:=omega)only[go_sem];refine Ak (by kernel_rfl) pL13 (by kernel_rfl) ?_;simp(disch:=omega)only[go_sem,C,An,Da,Db,Dc,Dd];have h0:St B0 B1 r _ K2:=⟨ac,ai,ah⟩;intro qa J;dsimp only at J;obtain⟨c3,c4,b8,bo,b9,L⟩:=h0.new J (.cells [.str [114,97,110,103,101]] 9);rw[b8];have ax:=b9 _ _ aa;have ay:=bo.g ax;try simp(disch:=omega)only[go_sem,C,ay,An,Da,Db,Dc,Dd]
   refine(bo.put hG [Eo] L (by(try simp only[jC,jA,jB,jK,jN,jP,List.length_flatMap] at D⊢)<;>omega)).mono ?_;rintro _ c5 ⟨rfl,bp⟩;have bq:=bp.g ax;try simp(disch:=omega)only[go_sem,C,ay,bq,An,Da,Db,Dc,Dd]
   refine(bp.call (Sx hG s.lo s.hi ml mh f1 f2) (by(try simp only[jC,jA,jB,jK,jN,jP,List.length_flatMap] at D⊢)<;>omega)).mono ?_;rintro _ c6 ⟨rfl,a0⟩;have ca:=a0.g ax;try simp(disch:=omega)only[go_sem,C,ay,bq,ca,An,Da,Db,Dc,Dd]
   exact Fa.refl ⟨rfl,by simpa using a0.hw.less a0.hs⟩
  ·have ht:In s=Ai s.name:=by rw[In,h0,h1];simp
   rw[ht];simp(disch:=omega)only[go_sem];exact Fa.refl ⟨rfl,by simpa using ac.less ah⟩
end
theorem Dx6 {d:Dis} (hm:Fh d=true):(noE d.lo=true->Ci d.name=true)/\(noE d.lo=false->Ci d.lo=true/\Ci d.hi=true/\(noE d.name=false->Ci d.name=true)):=by
 rw[Fh] at hm;by_cases c:(noE d.lo&&noE d.hi)=true
 ·rw[if_pos c] at hm;rw[jF] at c;refine⟨fun _=> ?_,fun h=>(by rw[c.1] at h;cases h)⟩;rw[Bool.or_eq_true,jF] at hm;rcases hm with h | h
  ·rw[Ib,jF] at h;exact h.1
  ·exact h.2
 ·rw[if_neg c] at hm;rw[jF,jF] at hm;obtain⟨⟨h1,h2⟩,h3⟩:=hm;refine⟨fun h=>(by rw[Dx4 h1] at h;cases h),fun _=>⟨h1,h2,fun h=> ?_⟩⟩;rw[h,Bool.false_or,Ib,jF] at h3;exact h3.1
theorem Db3 {e:Ex} (h:Ci e=true):(Ar e 2).length<=5002:=by
 have:=Rj h;rw[Ar,Ub];split<;>omega
theorem Am9 {a b:Ex} (ha:Ci a=true) (hb:Ci b=true):(Dj a b).length<=10005:=by
 have h1:=Db3 ha;have h2:=Db3 hb;rw[Dj,jC,jA];omega
theorem Cm7 {e:Ex} (h:Ic e=true):(Ny e).length<=5001:=by
 rw[Ny];cases c:noE e
 ·rw[Ic,c,Bool.false_or] at h;have:=Rj h;simp;omega
 ·simp
theorem Bh9 {s:Ind} (hm:En s=true):(In s).length<=20000:=by
 obtain⟨D,E,C⟩:=Dx5 hm;have h1:=Rj D;rw[In,jC];cases h0:noE s.value
 ·have:=Rj (E h0);simp;omega
 ·cases h2:noE s.lo
  ·have:=Am9 (C h0 h2).1 (C h0 h2).2;simp;omega
  ·simp;omega
theorem Dx7 {d:Dis} (hm:Fh d=true):(Lp d).length<=20000:=by
 obtain⟨C,D⟩:=Dx6 hm;rw[Lp];cases h1:noE d.lo
 ·obtain⟨E,I,J⟩:=D h1;have hb:=Am9 E I;cases h0:noE d.name
  ·have:=Rj (J h0);simp;omega
  ·simp;omega
 ·have:=Rj (C h1);simp;omega
theorem Ah0 {ws:List (List UInt8)} {m:Nat} (h:Il ws m=true):ws.length<=m/\(Cw ws).length<=2*m:=by
 rw[Il,jF,jF,decide_eq_true_eq,decide_eq_true_eq] at h;have h1:=Rc (ws:=ws) ws.length (Nat.le_refl _);rw[List.take_length] at h1;omega
section
variable {G:Nat->DVal}
set_option maxHeartbeats 8000000 in
theorem Bv1 (hG:GX G) (d:Dis) (hm:Fh d=true) (hs:Ai2 1048576 d):SrC Tryz.prog G 96 [.agg (Dy d)] (Lp d):=by
 intro B0 r ts H hB C hw;obtain⟨m1,M⟩:=Dx6 hm;obtain⟨f0,f1,f2⟩:=hs;refine Ab Tryz.func96 Tryz.call96 rfl (by kernel_rfl) ?_;simp(disch:=omega)only[go_sem,DVal.cells];intro D I;dsimp only at I;have O:=hw.frame I (.cells (Dy d) 58);have ad:B0 D=none:=(hw.lo I).1;have S:D≠r:=(hw.lo I).2;obtain⟨B1,E⟩: ∃X,X=upd B0 D (some (.cells (Dy d) 58)):=⟨_,rfl⟩;have ab:B1 D=some (.cells (Dy d) 58):=by rw[E];exact Aa _ _ _
 have U:Sub B0 B1:=by rw[E];exact(Sub.refl _).up ad _
 have J:B1 r=none:=by rw[E,Am _ _ _ _ S.symm];exact hB
 obtain⟨K1,L⟩: ∃X,X=upd H D (some (.cells (Dy d) 58)):=⟨_,rfl⟩;rw[<-E,<-L] at O;rw[<-L];have V:K1 D=some (.cells (Dy d) 58):=by rw[L];exact Aa _ _ _
 clear E L;simp(disch:=omega)only[go_sem,V,Au,Ke,Kf,Kg,Al (Ad _)];intro p1 hp1;dsimp only at hp1;simp(disch:=omega)only[go_sem];refine Ag.monoR (Be3 G K1 [d.name] p1 _ _ (by simp) hp1 (by simp) (by intro x hx;simp at hx;subst hx;assumption) rfl) ?_;rw[show [d.name].all noE=noE d.name by simp];cases h0:noE d.name
 ·have mn:Ci d.name=true:=by
   cases h1:noE d.lo
   ·exact(M h1).2.2 h0
   ·exact m1 h1
  have ae:ts.length+(Ai d.name).length<=1000000000:=by
   rw[Lp] at C;cases h1:noE d.lo
   ·rw[h1,h0] at C;simp at C;omega
   ·rw[h1] at C;simp at C;omega
  simp(disch:=omega)only[go_sem,V,Au,Ke,Kf,Kg];refine(Gq hG d.name mn f0.fitx B1 r _ _ J ae O).mono ?_;rintro _ K2 ⟨rfl,W⟩;have g2:=W.keep ab S;simp(disch:=omega)only[go_sem,g2,Au,Ke,Kf,Kg,Al (Ad _)];intro p2 hp2;dsimp only at hp2;simp(disch:=omega)only[go_sem];refine Ag.monoR (Be3 G K2 [d.lo] p2 _ _ (by simp) hp2 (by simp) (by intro x hx;simp at hx;subst hx;assumption) rfl) ?_;rw[show [d.lo].all noE=noE d.lo by simp];cases h1:noE d.lo
  ·obtain⟨Y,Z,-⟩:=M h1;have ht:Lp d=Ai d.name++(Ah Eo::Dj d.lo d.hi):=by rw[Lp,h1,h0];rfl
   rw[ht] at C⊢
   simp(disch:=omega)only[go_sem];intro q hq;dsimp only at hq;simp(disch:=omega)only[go_sem];refine(Au4 hG Eo hq J (by(try simp only[jC,jA,jB,jK,jN,jP,List.length_flatMap] at C⊢)<;>omega) W).mono ?_;rintro _ K3 ⟨rfl,ac⟩;have g3:=ac.keep ab S;simp(disch:=omega)only[go_sem,g3,Au,Ke,Kf,Kg];refine(Sx hG d.lo d.hi Y Z f1 f2 B1 r _ _ J (by(try simp only[jC,jA,jB,jK,jN,jP,List.length_flatMap] at C⊢)<;>omega) ac).mono ?_;rintro _ K4 ⟨rfl,aa⟩;simp(disch:=omega)only[go_sem];exact Fa.refl ⟨rfl,by simpa using aa.less U⟩
  ·have ht:Lp d=Ai d.name:=by rw[Lp,h1];rfl
   rw[ht];simp(disch:=omega)only[go_sem];exact Fa.refl ⟨rfl,by simpa using W.less U⟩
 ·cases h1:noE d.lo
  ·obtain⟨Y,Z,-⟩:=M h1;have ht:Lp d=Dj d.lo d.hi:=by rw[Lp,h1,h0];rfl
   rw[ht] at C⊢
   simp(disch:=omega)only[go_sem,V,Au,Ke,Kf,Kg];refine(Sx hG d.lo d.hi Y Z f1 f2 B1 r _ _ J (by(try simp only[jC,jA,jB,jK,jN,jP,List.length_flatMap] at C⊢)<;>omega) O).mono ?_;rintro _ K4 ⟨rfl,aa⟩;simp(disch:=omega)only[go_sem];exact Fa.refl ⟨rfl,by simpa using aa.less U⟩
  ·exfalso;rw[Dx4 (m1 h1)] at h0;cases h0
end
def PAt (B:Ac) (r:Nat) (ls:List Lin) (H:Ac):Prop:= ∃v,Jw (upd B r (some (.cells [v] 143))) 154 2 ls.length (ls.flatMap Xb) v H
def PrC (P:Program) (G:Nat->DVal) (f:FuncId) (args:List DVal) (t:List Lin):Prop:=
 ∀B r ls H,B r=none->ls.length+t.length<=1000000->PAt B r ls H->Ag P G f (.optr r 0::args) H (fun e H'=>e= .ret (.tuple [])/\PAt B r (ls++t) H')
section
variable {B B1 H H':Ac} {r x:Nat} {ls:List Lin}
theorem PAt.new (h:PAt B r ls H) (hx:H x=none) (o:Option DObj):PAt B r ls (upd H x o):=by
 obtain⟨v,h⟩:=h;exact⟨v,h.new hx o⟩
theorem PAt.more (h:PAt B r ls H) (s:Sub H H'):PAt B r ls H':=by
 obtain⟨v,h⟩:=h;exact⟨v,h.more s⟩
theorem PAt.less (h:PAt B r ls H) (s:Sub B1 B):PAt B1 r ls H:=by
 obtain⟨v,h⟩:=h;exact⟨v,h.less (s.both r _)⟩
theorem PAt.keep (h:PAt B r ls H) {o:DObj} (hx:B x=some o) (n:x≠r):H x=some o:=by
 obtain⟨v,h⟩:=h;exact h.keep (by rw[Am _ _ _ _ n];exact hx)
theorem PAt.lo (h:PAt B r ls H) (hx:H x=none):B x=none/\x≠r:=by
 obtain⟨v,h⟩:=h;have:=h.sub.lo hx;simp only[upd] at this;split at this
 ·cases this
 ·exact⟨this,‹_›⟩
theorem PAt.frame (h:PAt B r ls H) (hx:H x=none) (o:DObj):PAt (upd B x (some o)) r ls (upd H x (some o)):=by
 have n:=(h.lo hx).2;obtain⟨v,h⟩:=h;refine⟨v, ?_⟩;rw[Aa7 n.symm];exact h.frame hx o
theorem PAt.start {B:Ac} {r:Nat} (hr:B r=none):PAt B r [] (upd B r (some (.cells [.nilSlice] 143))):=⟨_, .inl ⟨rfl,rfl,rfl,Sub.refl _⟩⟩
theorem PAt.cell (h:PAt B r ls H) (hr:B r=none): ∃v,H r=some (.cells [v] 143)/\Mh H v B (.vslice (ls.flatMap Xb) ls.length):=by
 obtain⟨v,h⟩:=h;exact⟨v,h.keep (Aa _ _ _),Mh.own (h.less ((Sub.refl B).up hr _))⟩
theorem PAt.sub (h:PAt B r ls H) (hr:B r=none):Sub B H:=by
 obtain⟨v,h⟩:=h;exact((Sub.refl B).up hr _).trans h.sub
theorem Mb.cellF {K B:Ac} {q:Nat} {cs cs':List DVal} {e:TypeId} (D:K q=some (.cells cs e)) (E:Sub B K) (hs:Lf K cs (upd B q (some (.cells cs' e))) cs') (v:DVal):Mb K v (upd B q (some (.cells cs' e))) v:=fun w C=>by
 have hd: ∀b,K b=none->(upd B q (some (.cells cs' e))) b=none:=fun b hb=>by
  simp only[upd];split
  ·rename_i e1;rw[e1,D] at hb;cases hb
  ·exact E.lo hb
 refine⟨fun b o hb=> ?_,fun b hb h=>hb (hd b h),fun x hx=>Rel.lasts (Wa hd w) _ _ hx⟩;simp only[upd] at hb;split at hb
 ·rename_i e1
  subst e1;cases hb;obtain⟨xs,c,fz,I,J,L,M⟩:=C _ _ D;exact⟨xs,c,fz,I,J,hs w C xs L,M⟩
 ·exact(C b o (E b o hb)).lasts (Wa hd w)
end
theorem Dp5 (ls:List Lin) (x:Lin):(ls++ [x]).flatMap Xb=ls.flatMap Xb++Xb x:=by simp
section
variable {G:Nat->DVal}
set_option maxHeartbeats 8000000 in
theorem Jd (G:Nat->DVal) {B C E:Ac} {r rw:Nat} {ls:List Lin} {ts:List Tok} (d:Int) (hp:PAt B r ls C) (hr:C rw=none) (hw:SAt C rw ts E) (hl:ls.length<=1000000):
  Ag Tryz.prog G 98 [.optr r 0,dI d, .optr rw 0] E (fun e H'=>e= .ret (.tuple [])/\PAt B r (ls++ [⟨d,ts⟩]) H'):=by
 obtain⟨u,hu⟩:=hw;have Y:=hu.keep (Aa _ _ _);have hs:Sub C E:=((Sub.refl C).up hr _).trans hu.sub;refine Ag.pre (Mb.cellF (B:=C) (cs':= [Bl ts]) Y hs (.cons (Mh.ownD (fun b hb=> ?_) (fun b hb=> ?_) hu) .nil) _) ?_
 ·have h1:=hu.sub.lo hb;simp only[upd] at h1⊢
  split at h1
  ·cases h1
  ·rw[if_neg ‹_›];exact h1
 ·simp only[upd] at hb⊢
  split at hb
  ·cases hb
  ·rw[if_neg ‹_›];exact hb
 obtain⟨v,hv⟩:=hp;have M:=hv.keep (Aa _ _ _);have n:r≠rw:=Af hr M;have O:=hv.new hr (some (.cells [Bl ts] 146));obtain⟨S,D⟩: ∃X,X=upd C rw (some (.cells [Bl ts] 146)):=⟨_,rfl⟩;rw[<-D] at O⊢
 have I:S rw=some (.cells [Bl ts] 146):=by rw[D];exact Aa _ _ _
 have J:S r=some (.cells [v] 143):=by rw[D];exact Aj M n
 clear D;refine Ab Tryz.func98 Tryz.call98 rfl (by kernel_rfl) ?_;simp(disch:=omega)only[go_sem];refine Ak (by kernel_rfl) (.take 0 (.take 1 (.take 2 (.take 3 (.take 4 (.take 5 (.take 6 (.take 7 (.take 8 (.take 9 (.take 10 (.go 11 [4] (.go 12 [] (.take 13 (.take 14 (.go 15 [] .done)))))))))))))))) (by kernel_rfl) ?_;simp(disch:=omega)only[go_sem,I,J,Bl];intro q hq;dsimp only at hq;have U:r≠q:=Af hq J;have Z:rw≠q:=Af hq I;have m1:=U.symm;have aa:=O.new hq (some (.cells (Xb ⟨d,ts⟩) 154));simp(disch:=omega)only[go_sem,I,J,U,Z,m1];refine Jw.append (m:=1) aa rfl (by omega) fun V H6 L=> ?_;have g6:=L.keep (Aa _ _ _);obtain⟨j1,j2⟩:=L.cell1;simp(disch:=omega)only[go_sem,g6,j1,j2];refine Fa.refl ⟨rfl,V, ?_⟩;have W:=L.at (Aa _ _ _) (some (.cells [V] 143));rw[Gr] at W;rw[Dp5,jC,jQ];exact W
theorem Dp6 (hG:GX G) (d:Int) (ws:List (List UInt8)) (J:ws.length<=1000000):PrC Tryz.prog G 205 [dI d,dW ws] [⟨d,ws.map Ah⟩]:=by
 intro B r ls H L E hp;rw[jQ] at E;refine Ab Tryz.func205 Tryz.call205 rfl (by kernel_rfl) ?_;simp(disch:=omega)only[go_sem];intro rw C;dsimp only at C;simp(disch:=omega)only[go_sem];refine(Ag9 hG ws H rw [] _ C (by simp;omega) (SAt.start C)).mono ?_;rintro _ M ⟨rfl,D⟩;rw[jG] at D;simp(disch:=omega)only[go_sem];refine(Jd G d hp C D (by omega)).mono ?_;rintro _ O ⟨rfl,I⟩;simp(disch:=omega)only[go_sem];exact Fa.refl ⟨rfl,I⟩
theorem Bv2 (hG:GX G) (d:Int) (ws:List (List UInt8)) {B H:Ac} {r q:Nat} {ls:List Lin} (cs:List DVal) (D:ws.map .str=cs) (C:H q=none) (E:ws.length<=1000000) (I:B r=none) (J:ls.length+1<=1000000) (hp:PAt B r ls H):
  Ag Tryz.prog G 205 [.optr r 0,dI d, .oslice 1 q 0 ws.length ws.length] (upd H q (some (.cells cs 9))) (fun e H'=>e= .ret (.tuple [])/\PAt B r (ls++ [⟨d,ws.map Ah⟩]) H'):=by
 subst D;refine Ag.fzA q C ?_;have n:r≠q:=fun e=>(hp.lo C).2 e.symm;simp only[fzs,fz,if_neg n,if_pos,jJ,Nat.mul_one];rw[List.take_of_length_le (by simp)];exact Dp6 hG d ws E B r ls H I J hp
def Yu (d:Int) (c:Cmp):Lin:=⟨d,Uj c⟩
set_option maxHeartbeats 40000000 in
theorem Bf1 (hG:GX G) (l:List Cmp) (d:Int) (hm: ∀c∈l,Kc c=true) (hl:Ks Sj 1048576 l) (a0:l.length<=900000):PrC Tryz.prog G 148 [Cv l,dI d] (Pr l d):=by
 intro B r ls H hB ab hp;have a1:l.length<=(Pr l d).length/\(l.length=0->(Pr l d).length=1):=by
  rw[Pr];cases l<;>simp
 refine Ab Tryz.func148 Tryz.call148 rfl (by kernel_rfl) ?_;refine(fun(tail: ∀(S:DS) (D:List Lin),ls++Pr l d=D++l.map (Yu d)->D.length+l.length<=1000000->PAt B r D S.heap->S.env 0= .optr r 0->S.env 2=dI d->S.env 15=Cv l->S.env 16=dI l.length->S.env 17=dI 0->(?T:DS->Prop) S)=> ?A) ?B
 case A=>
  by_cases h0:l.length=0
  ·have ai:(l.length:Int)=0:=by omega
   have af:l= []:=List.length_eq_zero_iff.1 h0;simp(disch:=omega)only[go_sem,Cv,ai];intro q hq;dsimp only at hq;simp(disch:=omega)only[go_sem];refine(Bv2 hG d [Fm,Fy] _ rfl hq (by simp) hB (by omega) hp).mono ?_;rintro _ K0 ⟨rfl,Y⟩;have aj:ls++Pr l d=ls++ [⟨d,[Fm,Fy].map Ah⟩]:=by rw[af];rfl
   obtain⟨D,W⟩: ∃D,D=ls++ [⟨d,[Fm,Fy].map Ah⟩]:=⟨_,rfl⟩;rw[<-W] at Y aj;have ac:ls++Pr l d=D++l.map (Yu d):=by rw[aj,af];simp
   have ag:D.length+l.length<=1000000:=by rw[W,jC,jQ];omega
   clear W aj;simp(disch:=omega)only[go_sem,Cv];generalize hS:(DS.mk _ _:DS)=S;exact tail S D ac ag (by rw[<-hS];exact Y) (by rw[<-hS];first | rfl | simp(disch:=omega)only[go_sem,Cv]) (by rw[<-hS];first | rfl | simp(disch:=omega)only[go_sem,Cv]) (by rw[<-hS];first | rfl | simp(disch:=omega)only[go_sem,Cv]) (by rw[<-hS];first | rfl | simp(disch:=omega)only[go_sem,Cv]) (by rw[<-hS];first | rfl | simp(disch:=omega)only[go_sem,Cv])
  ·have ai: ¬(l.length:Int)=0:=by omega
   have af:l≠ []:=fun e=>h0 (by rw[e];rfl);simp(disch:=omega)only[go_sem,Cv,ai];obtain⟨D,W⟩: ∃D,D=ls:=⟨_,rfl⟩;have ac:ls++Pr l d=D++l.map (Yu d):=by
    rw[Pr,if_neg (by simpa using af),W];rfl
   have ag:D.length+l.length<=1000000:=by rw[W];omega
   have Y:PAt B r D H:=by rw[W];exact hp
   clear W;generalize hS:(DS.mk _ _:DS)=S;exact tail S D ac ag (by rw[<-hS];exact Y) (by rw[<-hS];first | rfl | simp(disch:=omega)only[go_sem,Cv]) (by rw[<-hS];first | rfl | simp(disch:=omega)only[go_sem,Cv]) (by rw[<-hS];first | rfl | simp(disch:=omega)only[go_sem,Cv]) (by rw[<-hS];first | rfl | simp(disch:=omega)only[go_sem,Cv]) (by rw[<-hS];first | rfl | simp(disch:=omega)only[go_sem,Cv])
 case B=>
  rintro⟨E,X⟩ D ac ag Y z0 z2 z5 z6 z7;dsimp only at Y z0 z2 z5 z6 z7;obtain⟨I,hI⟩: ∃I:Nat->(Nat->DVal)->Ac->Prop,∀k env heap,I k env heap↔(env 0= .optr r 0/\env 2=dI d/\env 15=Cv l/\env 16=dI l.length/\env 17=dI k/\k<=l.length/\PAt B r (D++(l.take k).map (Yu d)) heap):=⟨_,fun _ _ _=>Iff.rfl⟩;refine Dr7.run I (fun k=>l.length-k) 0 ((hI _ _ _).2 ?_) ?_
  ·simp(disch:=omega)only[go_sem,Cv,z0,z2,z5,z6,z7];(repeat' apply And.intro)<;>(try first | rfl | assumption | omega);simpa using Y
  ·clear z0 z2 z5 z6 z7;intro k env heap hi;obtain⟨L,M,O,U,V,hk,ak⟩:=(hI _ _ _).1 hi;by_cases al:k<l.length
   ·have am:(k:Int)<(l.length:Int):=by omega
    have aw:IntKind.i64.wrap ((k:Int)+1)=((k+1:Nat):Int):=by rw[IntKind.wrap_i64];omega
    have ao:=Co Ca l k al;have hfl:=Aw Ca l;have mx:=List.getElem_mem al;have ap:(l.take (k+1)).map (Yu d)=(l.take k).map (Yu d)++ [Yu d l[k]]:=by rw[Ti al,List.map_append,List.map_singleton]
    obtain⟨x,hx⟩: ∃x,x=l[k]:=⟨_,rfl⟩;rw[<-hx] at ao mx ap;have hok:=hm x mx;rw[Kc,jF,jF] at hok;obtain⟨⟨o1,o2⟩,o3⟩:=hok;obtain⟨f0,f1,f2⟩:=hl.2 x mx;have a2:=Ah0 o1;have a3:=Bh9 o2;have a4:=Cm7 o3;have ax:(D++(l.take k).map (Yu d)).length<=1000000:=by rw[jC,jK,List.length_take];omega
    simp(disch:=omega)only[go_sem,L,M,O,U,V,Cv,am,ao,hfl,jD];intro r7 aq;dsimp only at aq;have ar:=ak.new aq (some (.cells (Hu x) 202));obtain⟨B0,ah⟩: ∃X,X=upd heap r7 (some (.cells (Hu x) 202)):=⟨_,rfl⟩;rw[<-ah] at ar;simp(disch:=omega)only[go_sem,L,M,O,U,V];rw[<-ah];have au:B0 r7=some (.cells (Hu x) 202):=by rw[ah];exact Aa _ _ _
    clear ah;refine Ak (by kernel_rfl) (.take 0 (.take 1 (.take 3 (.take 4 (.take 8 (.take 9 (.take 11 (.take 12 (.alt (.go 6 [12,9,4] (.alt (.go 14 [12,9,4] (.go 2 [12,9,4] (.go 5 [12,9] (.go 7 [12,9] (.go 10 [12] (.go 13 [] (.go 15 [] (.go 16 [] .done)))))))) (.go 2 [12,9,4] (.alt (.go 14 [12,9,4] (.go 5 [12,9] (.go 7 [12,9] (.go 10 [12] (.go 13 [] (.go 15 [] (.go 16 [] .done))))))) (.go 5 [12,9] (.alt (.go 14 [12,9,4] (.go 7 [12,9] (.go 10 [12] (.go 13 [] (.go 15 [] (.go 16 [] .done)))))) (.go 7 [12,9] (.alt (.go 14 [12,9,4] (.go 10 [12] (.go 13 [] (.go 15 [] (.go 16 [] .done))))) (.go 10 [12] (.alt (.go 14 [12,9,4] (.go 13 [] (.go 15 [] (.go 16 [] .done)))) (.go 13 [] (.go 14 [12,9,4] (.go 15 [] (.go 16 [] .done)))))))))))))) (.alt (.go 14 [12,9,4] (.alt (.go 6 [12,9,4] (.go 2 [12,9,4] (.go 5 [12,9] (.go 7 [12,9] (.go 10 [12] (.go 13 [] (.go 15 [] (.go 16 [] .done)))))))) (.go 2 [12,9,4] (.alt (.go 6 [12,9,4] (.go 5 [12,9] (.go 7 [12,9] (.go 10 [12] (.go 13 [] (.go 15 [] (.go 16 [] .done))))))) (.go 5 [12,9] (.go 6 [12,9,4] (.go 7 [12,9] (.go 10 [12] (.go 13 [] (.go 15 [] (.go 16 [] .done))))))))))) (.go 2 [12,9,4] (.alt (.go 6 [12,9,4] (.alt (.go 14 [12,9,4] (.go 5 [12,9] (.go 7 [12,9] (.go 10 [12] (.go 13 [] (.go 15 [] (.go 16 [] .done))))))) (.go 5 [12,9] (.alt (.go 14 [12,9,4] (.go 7 [12,9] (.go 10 [12] (.go 13 [] (.go 15 [] (.go 16 [] .done)))))) (.go 7 [12,9] (.alt (.go 14 [12,9,4] (.go 10 [12] (.go 13 [] (.go 15 [] (.go 16 [] .done))))) (.go 10 [12] (.alt (.go 14 [12,9,4] (.go 13 [] (.go 15 [] (.go 16 [] .done)))) (.go 13 [] (.go 14 [12,9,4] (.go 15 [] (.go 16 [] .done)))))))))))) (.alt (.go 14 [12,9,4] (.alt (.go 6 [12,9,4] (.go 5 [12,9] (.go 7 [12,9] (.go 10 [12] (.go 13 [] (.go 15 [] (.go 16 [] .done))))))) (.go 5 [12,9] (.go 6 [12,9,4] (.go 7 [12,9] (.go 10 [12] (.go 13 [] (.go 15 [] (.go 16 [] .done))))))))) (.go 5 [12,9] (.alt (.go 14 [12,9,4] (.go 6 [12,9,4] (.go 7 [12,9] (.go 10 [12] (.go 13 [] (.go 15 [] (.go 16 [] .done))))))) (.go 6 [12,9,4] (.alt (.go 14 [12,9,4] (.go 7 [12,9] (.go 10 [12] (.go 13 [] (.go 15 [] (.go 16 [] .done)))))) (.go 7 [12,9] (.alt (.go 14 [12,9,4] (.go 10 [12] (.go 13 [] (.go 15 [] (.go 16 [] .done))))) (.go 10 [12] (.alt (.go 14 [12,9,4] (.go 13 [] (.go 15 [] (.go 16 [] .done)))) (.go 13 [] (.go 14 [12,9,4] (.go 15 [] (.go 16 [] .done))))))))))))))))))))))))) (by kernel_rfl) ?_;simp(disch:=omega)only[go_sem,au,L,M,O,U,V,Ca,Iq,Ir,Fv];have tA:=Sub.refl B0;have C:=au
    repeat'
     first
     | with_reducible apply And.intro
     |with_reducible show Ag _ _ 93 _ _ _
      have J:=h.g C;refine(h.call (Ae0 hG x.names (by omega)) (by(try simp only[jC,jA,jB,jK,jN,jP,List.length_flatMap] at ab⊢)<;>omega)).mono ?_;rintro _ K ⟨rfl,h⟩;try simp(disch:=omega)only[go_sem,J,h.g C,L,M,O,U,V,Ca,Iq,Ir,Fv]
     |with_reducible show Ag _ _ 95 _ _ _
      have J:=h.g C;refine(h.call (Vu hG x.sub o2 f1) (by(try simp only[jC,jA,jB,jK,jN,jP,List.length_flatMap] at ab⊢)<;>omega)).mono ?_;rintro _ K ⟨rfl,h⟩;try simp(disch:=omega)only[go_sem,J,h.g C,L,M,O,U,V,Ca,Iq,Ir,Fv]
     |with_reducible show Ag _ _ 123 _ _ _
      have J:=h.g C;refine(h.call (Bf0 hG x.e o3 f2) (by(try simp only[jC,jA,jB,jK,jN,jP,List.length_flatMap] at ab⊢)<;>omega)).mono ?_;rintro _ K ⟨rfl,h⟩;try simp(disch:=omega)only[go_sem,J,h.g C,L,M,O,U,V,Ca,Iq,Ir,Fv]
     |with_reducible show Ag _ _ 92 _ _ _
      have J:=h.g C;refine(h.put hG [Sd] Z (by(try simp only[jC,jA,jB,jK,jN,jP,List.length_flatMap] at ab⊢)<;>omega)).mono ?_;rintro _ K ⟨rfl,h⟩;try simp(disch:=omega)only[go_sem,J,h.g C,L,M,O,U,V,Ca,Iq,Ir,Fv]
     |with_reducible show Ag _ _ 92 _ _ _
      have J:=h.g C;refine(h.put hG [Fy] aa (by(try simp only[jC,jA,jB,jK,jN,jP,List.length_flatMap] at ab⊢)<;>omega)).mono ?_;rintro _ K ⟨rfl,h⟩;try simp(disch:=omega)only[go_sem,J,h.g C,L,M,O,U,V,Ca,Iq,Ir,Fv]
     |with_reducible show Ag _ _ 98 _ _ _
      refine(Jd G d (ar.more h.hs) h.hr h.hw ax).mono ?_;rintro _ KZ ⟨rfl,ay⟩;simp(disch:=omega)only[go_sem,L,M,O,U,V,Ca,Iq,Ir,Fv];refine⟨k+1,_,Rz.refl _,(hI _ _ _).2 ?_,by omega⟩;simp(disch:=omega)only[go_sem,L,M,O,U,V,aw];(repeat' apply And.intro)<;>(try first | rfl | assumption | omega);rw[ap,<-jO];simpa [Yu,Uj] using ay
     |intro qa ad;dsimp only at ad
      have J:=h.g C;obtain⟨B,K,e,h,s,Z⟩:=h.new ad (.cells [.str [58]] 9);rw[e];replace C:=s _ _ C;try replace aa:=s _ _ aa
      try simp(disch:=omega)only[go_sem,J,h.g C,L,M,O,U,V,Ca,Iq,Ir,Fv]
     |intro qa ad;dsimp only at ad
      have J:=C;obtain⟨K,e,tA,s,Z⟩:=tA.newK ad (.cells [.str [58]] 9);rw[e];replace C:=s _ _ C;try replace aa:=s _ _ aa
      try simp(disch:=omega)only[go_sem,J,C,L,M,O,U,V,Ca,Iq,Ir,Fv]
     |intro qb ae;dsimp only at ae
      have J:=h.g C;obtain⟨B,K,e,h,s,aa⟩:=h.new ae (.cells [.str [59]] 9);rw[e];replace C:=s _ _ C;try replace Z:=s _ _ Z
      try simp(disch:=omega)only[go_sem,J,h.g C,L,M,O,U,V,Ca,Iq,Ir,Fv]
     |intro qb ae;dsimp only at ae
      have J:=C;obtain⟨K,e,tA,s,aa⟩:=tA.newK ae (.cells [.str [59]] 9);rw[e];replace C:=s _ _ C;try replace Z:=s _ _ Z
      try simp(disch:=omega)only[go_sem,J,C,L,M,O,U,V,Ca,Iq,Ir,Fv]
     |intro rw av;dsimp only at av
      have J:=C;obtain⟨K,e,h⟩:=St.start tA av;rw[e];try simp(disch:=omega)only[go_sem,J,h.g C,L,M,O,U,V,Ca,Iq,Ir,Fv]
   ·have:k=l.length:=by omega
    subst this;have am: ¬(l.length:Int)<(l.length:Int):=by omega
    rw[List.take_length] at ak;simp(disch:=omega)only[go_sem,L,M,O,U,V,Cv,am];exact Fa.refl ⟨rfl,by rw[ac];exact ak⟩
end
section
variable {G:Nat->DVal}
theorem Db4 (l:List Ch):(Mn l).1.length<=1000000:=by
 rw[Mn];split
 ·have:=Cc7 ‹_›;dsimp only;omega
 ·exact Nat.zero_le _
end
section
variable {P:Program} {G:Nat->DVal} {N:Nat} {Q:DExit->DS->Prop}
theorem Ga7 {id:Nat} {C:Array Oper} {s:DS} (D:DExit->DS->Prop) (h:dwp P G N (.region id C true) D s) (k: ∀e s',D e s'->Q e s'):dwp P G N (.region id C true) Q s:=by
 simp only[dwp] at h⊢
 intro F n B E a w hS;exact wpIn_mono (h F n B E a w hS) fun e a w ⟨e',s',q,r⟩=>⟨e',s',k _ _ q,r⟩
end
section
end
def Ah1 (d:Int) (v:List UInt8):Lin:=⟨Qf (d+1),[Ah Kd,Dw v,Ah wIs]⟩
theorem Au6 (l:List Cmp) (d:Int):(Pr l d).length<=l.length+1:=by
 rw[Pr];split<;>simp
theorem Db5 (d:Int) (l:List Arm) (h: ∀a∈l,a.comps.length<=40):(l.flatMap (Ac9 d)).length<=l.length*42:=by
 induction l with
 | nil=>simp
 | cons a l ih=>
  have h1:=ih fun x hx=>h x (List.mem_cons_of_mem _ hx);have h2:=h a (List.mem_cons_self ..);have h3:=Au6 a.comps (Qf (d+3));rw[List.flatMap_cons,jC,jA,Ac9,jA];omega
section
variable {G:Nat->DVal}
def Au7 (t:Typ) (d:Int):List Lin:=(if t.var= [] then [] else Ah1 d t.var::(t.arms.flatMap (Ac9 d)++ [⟨Qf (d+1),[Ah Pz,Ah Kd,Ah Fy]⟩]))++ [⟨d,[Ah Pz,Ah Cu]⟩]
def Yv (t:Typ) (d:Int):List Lin:=⟨d,[Ah Cu]⟩::(if t.comps.isEmpty then [] else Pr t.comps (Qf (d+1)))
theorem Ga8 (t:Typ) (d:Int):Bs1 t d=Yv t d++Au7 t d:=by rw[Bs1,Yv,Au7];simp [Ah1]
set_option maxHeartbeats 40000000 in
theorem Au8 (hG:GX G) (t:Typ) (d:Int) (hm:Lu t=true) (ht:Oy 1048576 t) (b4:t.comps.length<=40) (a2: ∀a∈t.arms,a.comps.length<=40) (B:Ac) (r:Nat) (ls:List Lin) (H:Ac) (hB:B r=none) (a3:ls.length<=100) (hp:PAt B r ls H):
  Ag Tryz.prog G 97 [.optr r 0, .agg (Cl t),dI d] H (fun e H'=>e= .ret (.tuple [])/\PAt B r (ls++Bs1 t d) H'):=by
 obtain⟨f0,f1,f2,f3,f4,f5,f6,f7⟩:=ht;simp only[Lu,jF,decide_eq_true_eq,List.all_eq_true] at hm;obtain⟨⟨⟨⟨⟨br,-⟩,b5⟩,-⟩,bs⟩,-⟩:=hm;have bt: ∀a∈t.arms,(∀c∈a.comps,Kc c=true)/\Kq a.c=true:=fun a ha=>by
  have:=bs a ha;rw[Jr,jF,List.all_eq_true] at this;exact this
 have b6:=Au6 t.comps (Qf (d+1));have b8:(Cw [t.var]).length=1:=rfl;refine Ab Tryz.func97 Tryz.call97 rfl (by kernel_rfl) ?_;simp(disch:=omega)only[go_sem,DVal.cells];intro rT av;dsimp only at av;have bd:=hp.frame av (.cells (Cl t) 62);have bu:B rT=none:=(hp.lo av).1;have aw:rT≠r:=(hp.lo av).2;obtain⟨B1,aj⟩: ∃X,X=upd B rT (some (.cells (Cl t) 62)):=⟨_,rfl⟩;have a4:B1 rT=some (.cells (Cl t) 62):=by rw[aj];exact Aa _ _ _
 have be:Sub B B1:=by rw[aj];exact(Sub.refl _).up bu _
 have ag:B1 r=none:=by rw[aj,Am _ _ _ _ aw.symm];exact hB
 obtain⟨K1,ax⟩: ∃X,X=upd H rT (some (.cells (Cl t) 62)):=⟨_,rfl⟩;rw[<-aj,<-ax] at bd;rw[<-ax];have b9:K1 rT=some (.cells (Cl t) 62):=by rw[ax];exact Aa _ _ _
 clear aj ax;simp(disch:=omega)only[go_sem];intro q1 bf;dsimp only at bf;simp(disch:=omega)only[go_sem];refine(Bv2 hG _ [Cu] _ rfl bf (by simp) ag (by omega) bd).mono ?_;rintro _ K2 ⟨rfl,hp2⟩;have a5:=hp2.keep a4 aw;obtain⟨aa,ak⟩: ∃l,l=ls++Yv t d:=⟨_,rfl⟩;have hX:ls++Bs1 t d=aa++Au7 t d:=by rw[Ga8,ak,jO]
 refine(fun(tail: ∀S:DS,S.heap rT=some (.cells (Cl t) 62)->PAt B1 r aa S.heap->aa.length<=300->S.env 0= .optr r 0->S.env 2=dI d->S.env 4= .optr rT 0->(?T:DS->Prop) S)=> ?A) ?B
 case A=>
  by_cases c0:t.comps.length=0
  ·have a6: ¬(0:Int)<(t.comps.length:Int):=by omega
   have al:t.comps= []:=List.length_eq_zero_iff.1 c0;have ay:aa.length<=300:=by rw[ak,Yv,al];simp;omega
   have ae:PAt B1 r aa K2:=by rw[ak,Yv,al];exact hp2
   have Z:=a5;obtain⟨B0,bg⟩: ∃X,X=K2:=⟨_,rfl⟩;simp(disch:=omega)only[go_sem,a5,Cv,a6];rw[<-bg] at ae Z⊢
   clear bg;generalize hS:(DS.mk _ B0:DS)=S;have hH:S.heap=B0:=by rw[<-hS]
   exact tail S (by rw[hH];exact Z) (by rw[hH];exact ae) ay (by rw[<-hS];first | rfl | simp(disch:=omega)only[go_sem]) (by rw[<-hS];first | rfl | simp(disch:=omega)only[go_sem]) (by rw[<-hS];first | rfl | simp(disch:=omega)only[go_sem])
  ·have a6:(0:Int)<(t.comps.length:Int):=by omega
   have al: ¬t.comps.isEmpty=true:=by intro e;exact c0 (by rw[List.isEmpty_iff.1 e];rfl)
   have ay:aa.length<=300:=by rw[ak,Yv,if_neg al,jC,jA];omega
   simp(disch:=omega)only[go_sem,a5,Cv,a6];refine(Bf1 hG t.comps _ br f5 (by omega) B1 r _ _ ag (by rw[jC,jQ];have:=Au6 t.comps (IntKind.i64.wrap (d+1));omega) hp2).mono ?_;rintro _ B0 ⟨rfl,a7⟩;have Z:=a7.keep a4 aw;have ae:PAt B1 r aa B0:=by rw[ak,Yv,if_neg al];simpa [Qf] using a7
   clear a7;simp(disch:=omega)only[go_sem,Z,Cv];generalize hS:(DS.mk _ B0:DS)=S;have hH:S.heap=B0:=by rw[<-hS]
   exact tail S (by rw[hH];exact Z) (by rw[hH];exact ae) ay (by rw[<-hS];first | rfl | simp(disch:=omega)only[go_sem]) (by rw[<-hS];first | rfl | simp(disch:=omega)only[go_sem]) (by rw[<-hS];first | rfl | simp(disch:=omega)only[go_sem])
 case B=>
  rintro⟨E,B0⟩ Z ae ay J L M;dsimp only at Z ae J L M;by_cases v0:t.var= []
  ·simp(disch:=omega)only[go_sem,J,L,M,Z,v0];intro q9 am;dsimp only at am;simp(disch:=omega)only[go_sem,J,L,M];refine(Bv2 hG _ [Pz,Cu] _ rfl am (by simp) ag (by omega) ae).mono ?_;rintro _ K9 ⟨rfl,ah⟩;simp(disch:=omega)only[go_sem,J,L,M];refine Fa.refl ⟨rfl, ?_⟩;rw[hX,Au7,if_pos v0];exact ah.less be
  ·simp(disch:=omega)only[go_sem,J,L,M,Z,v0];refine Ga7 (fun e s'=>e= .normal/\s'.env 0= .optr r 0/\s'.env 2=dI d/\s'.env 4= .optr rT 0/\PAt B1 r (aa++ [Ah1 d t.var]) s'.heap) ?_ ?_
   ·refine Ak (by kernel_rfl) (.take 0 (.take 1 (.take 2 (.take 6 (.take 7 (.alt (.go 4 [7] (.alt (.go 8 [] (.alt (.go 10 [7] (.go 3 [7] (.go 5 [7] (.go 9 [] (.go 11 [] (.go 12 [] .done)))))) (.go 3 [7] (.alt (.go 10 [7] (.go 5 [7] (.go 9 [] (.go 11 [] (.go 12 [] .done))))) (.go 5 [7] (.alt (.go 10 [7] (.go 9 [] (.go 11 [] (.go 12 [] .done)))) (.go 9 [] (.go 10 [7] (.go 11 [] (.go 12 [] .done)))))))))) (.alt (.go 10 [7] (.alt (.go 8 [] (.go 3 [7] (.go 5 [7] (.go 9 [] (.go 11 [] (.go 12 [] .done)))))) (.go 3 [7] (.alt (.go 8 [] (.go 5 [7] (.go 9 [] (.go 11 [] (.go 12 [] .done))))) (.go 5 [7] (.go 8 [] (.go 9 [] (.go 11 [] (.go 12 [] .done))))))))) (.go 3 [7] (.alt (.go 8 [] (.alt (.go 10 [7] (.go 5 [7] (.go 9 [] (.go 11 [] (.go 12 [] .done))))) (.go 5 [7] (.alt (.go 10 [7] (.go 9 [] (.go 11 [] (.go 12 [] .done)))) (.go 9 [] (.go 10 [7] (.go 11 [] (.go 12 [] .done)))))))) (.alt (.go 10 [7] (.alt (.go 8 [] (.go 5 [7] (.go 9 [] (.go 11 [] (.go 12 [] .done))))) (.go 5 [7] (.go 8 [] (.go 9 [] (.go 11 [] (.go 12 [] .done))))))) (.go 5 [7] (.alt (.go 10 [7] (.go 8 [] (.go 9 [] (.go 11 [] (.go 12 [] .done))))) (.go 8 [] (.alt (.go 10 [7] (.go 9 [] (.go 11 [] (.go 12 [] .done)))) (.go 9 [] (.go 10 [7] (.go 11 [] (.go 12 [] .done)))))))))))))) (.alt (.go 8 [] (.alt (.go 4 [7] (.alt (.go 10 [7] (.go 3 [7] (.go 5 [7] (.go 9 [] (.go 11 [] (.go 12 [] .done)))))) (.go 3 [7] (.alt (.go 10 [7] (.go 5 [7] (.go 9 [] (.go 11 [] (.go 12 [] .done))))) (.go 5 [7] (.alt (.go 10 [7] (.go 9 [] (.go 11 [] (.go 12 [] .done)))) (.go 9 [] (.go 10 [7] (.go 11 [] (.go 12 [] .done)))))))))) (.alt (.go 10 [7] (.alt (.go 4 [7] (.go 3 [7] (.go 5 [7] (.go 9 [] (.go 11 [] (.go 12 [] .done)))))) (.go 3 [7] (.go 4 [7] (.go 5 [7] (.go 9 [] (.go 11 [] (.go 12 [] .done)))))))) (.go 3 [7] (.alt (.go 10 [7] (.go 4 [7] (.go 5 [7] (.go 9 [] (.go 11 [] (.go 12 [] .done)))))) (.go 4 [7] (.alt (.go 10 [7] (.go 5 [7] (.go 9 [] (.go 11 [] (.go 12 [] .done))))) (.go 5 [7] (.alt (.go 10 [7] (.go 9 [] (.go 11 [] (.go 12 [] .done)))) (.go 9 [] (.go 10 [7] (.go 11 [] (.go 12 [] .done))))))))))))) (.alt (.go 10 [7] (.alt (.go 4 [7] (.alt (.go 8 [] (.go 3 [7] (.go 5 [7] (.go 9 [] (.go 11 [] (.go 12 [] .done)))))) (.go 3 [7] (.alt (.go 8 [] (.go 5 [7] (.go 9 [] (.go 11 [] (.go 12 [] .done))))) (.go 5 [7] (.go 8 [] (.go 9 [] (.go 11 [] (.go 12 [] .done))))))))) (.alt (.go 8 [] (.alt (.go 4 [7] (.go 3 [7] (.go 5 [7] (.go 9 [] (.go 11 [] (.go 12 [] .done)))))) (.go 3 [7] (.go 4 [7] (.go 5 [7] (.go 9 [] (.go 11 [] (.go 12 [] .done)))))))) (.go 3 [7] (.alt (.go 8 [] (.go 4 [7] (.go 5 [7] (.go 9 [] (.go 11 [] (.go 12 [] .done)))))) (.go 4 [7] (.alt (.go 8 [] (.go 5 [7] (.go 9 [] (.go 11 [] (.go 12 [] .done))))) (.go 5 [7] (.go 8 [] (.go 9 [] (.go 11 [] (.go 12 [] .done)))))))))))) (.go 3 [7] (.alt (.go 8 [] (.alt (.go 10 [7] (.go 4 [7] (.go 5 [7] (.go 9 [] (.go 11 [] (.go 12 [] .done)))))) (.go 4 [7] (.alt (.go 10 [7] (.go 5 [7] (.go 9 [] (.go 11 [] (.go 12 [] .done))))) (.go 5 [7] (.alt (.go 10 [7] (.go 9 [] (.go 11 [] (.go 12 [] .done)))) (.go 9 [] (.go 10 [7] (.go 11 [] (.go 12 [] .done)))))))))) (.alt (.go 10 [7] (.alt (.go 8 [] (.go 4 [7] (.go 5 [7] (.go 9 [] (.go 11 [] (.go 12 [] .done)))))) (.go 4 [7] (.alt (.go 8 [] (.go 5 [7] (.go 9 [] (.go 11 [] (.go 12 [] .done))))) (.go 5 [7] (.go 8 [] (.go 9 [] (.go 11 [] (.go 12 [] .done))))))))) (.go 4 [7] (.alt (.go 8 [] (.alt (.go 10 [7] (.go 5 [7] (.go 9 [] (.go 11 [] (.go 12 [] .done))))) (.go 5 [7] (.alt (.go 10 [7] (.go 9 [] (.go 11 [] (.go 12 [] .done)))) (.go 9 [] (.go 10 [7] (.go 11 [] (.go 12 [] .done)))))))) (.alt (.go 10 [7] (.alt (.go 8 [] (.go 5 [7] (.go 9 [] (.go 11 [] (.go 12 [] .done))))) (.go 5 [7] (.go 8 [] (.go 9 [] (.go 11 [] (.go 12 [] .done))))))) (.go 5 [7] (.alt (.go 10 [7] (.go 8 [] (.go 9 [] (.go 11 [] (.go 12 [] .done))))) (.go 8 [] (.alt (.go 10 [7] (.go 9 [] (.go 11 [] (.go 12 [] .done)))) (.go 9 [] (.go 10 [7] (.go 11 [] (.go 12 [] .done)))))))))))))))))))))) (by kernel_rfl) ?_;simp(disch:=omega)only[go_sem,J,L,M,Z];have tA:=Sub.refl B0;have C:=Z
    repeat'
     first
     | with_reducible apply And.intro
     |with_reducible show Ag _ _ 92 _ _ _
      have D:=h.g C;refine(h.put hG [Kd] ab (by(try simp only[jC,jA,jB,jK,jN,jP,List.length_flatMap] at a3⊢)<;>omega)).mono ?_;rintro _ K ⟨rfl,h⟩;try simp(disch:=omega)only[go_sem,J,L,M,D,h.g C]
     |with_reducible show Ag _ _ 92 _ _ _
      have D:=h.g C;refine(h.put hG [wIs] ac (by(try simp only[jC,jA,jB,jK,jN,jP,List.length_flatMap] at a3⊢)<;>omega)).mono ?_;rintro _ K ⟨rfl,h⟩;try simp(disch:=omega)only[go_sem,J,L,M,D,h.g C]
     |with_reducible show Ag _ _ 93 _ _ _
      have D:=h.g C;refine(h.nms hG [t.var] (by simp) ad (by(try simp only[jC,jA,jB,jK,jN,jP,List.length_flatMap] at a3⊢)<;>omega)).mono ?_;rintro _ K ⟨rfl,h⟩;try simp(disch:=omega)only[go_sem,J,L,M,D,h.g C]
     |with_reducible show Ag _ _ 98 _ _ _
      refine(Jd G _ (ae.more h.hs) h.hr h.hw (by omega)).mono ?_;rintro _ KZ ⟨rfl,a8⟩;simp(disch:=omega)only[go_sem,J,L,M];have ai:PAt B1 r (aa++ [Ah1 d t.var]) KZ:=by simpa [Ah1,Qf,Cw,Dm] using a8
      exact ai
     |intro qa ao;dsimp only at ao
      have D:=h.g C;obtain⟨B,K,e,h,s,ab⟩:=h.new ao (.cells [.str [99,97,115,101]] 9);rw[e];replace C:=s _ _ C;try replace ad:=s _ _ ad
      try replace ac:=s _ _ ac
      try simp(disch:=omega)only[go_sem,J,L,M,D,h.g C]
     |intro qa ao;dsimp only at ao
      have D:=C;obtain⟨K,e,tA,s,ab⟩:=tA.newK ao (.cells [.str [99,97,115,101]] 9);rw[e];replace C:=s _ _ C;try replace ad:=s _ _ ad
      try replace ac:=s _ _ ac
      try simp(disch:=omega)only[go_sem,J,L,M,D,C]
     |intro qn ap;dsimp only at ap
      have D:=h.g C;obtain⟨B,K,e,h,s,ad⟩:=h.new ap (.cells [.str t.var] 9);rw[e];replace C:=s _ _ C;try replace ab:=s _ _ ab
      try replace ac:=s _ _ ac
      try simp(disch:=omega)only[go_sem,J,L,M,D,h.g C]
     |intro qn ap;dsimp only at ap
      have D:=C;obtain⟨K,e,tA,s,ad⟩:=tA.newK ap (.cells [.str t.var] 9);rw[e];replace C:=s _ _ C;try replace ab:=s _ _ ab
      try replace ac:=s _ _ ac
      try simp(disch:=omega)only[go_sem,J,L,M,D,C]
     |intro qb aq;dsimp only at aq
      have D:=h.g C;obtain⟨B,K,e,h,s,ac⟩:=h.new aq (.cells [.str [105,115]] 9);rw[e];replace C:=s _ _ C;try replace ab:=s _ _ ab
      try replace ad:=s _ _ ad
      try simp(disch:=omega)only[go_sem,J,L,M,D,h.g C]
     |intro qb aq;dsimp only at aq
      have D:=C;obtain⟨K,e,tA,s,ac⟩:=tA.newK aq (.cells [.str [105,115]] 9);rw[e];replace C:=s _ _ C;try replace ab:=s _ _ ab
      try replace ad:=s _ _ ad
      try simp(disch:=omega)only[go_sem,J,L,M,D,C]
     |intro rw af;dsimp only at af
      have D:=C;obtain⟨K,e,h⟩:=St.start tA af;rw[e];try simp(disch:=omega)only[go_sem,J,L,M,D,h.g C]
   ·rintro _ ⟨env,K5⟩ ⟨rfl,x0,x2,x4,ai⟩;dsimp only at x0 x2 x4 ai;have bh:=ai.keep a4 aw;obtain⟨ar,a0⟩: ∃l,l=aa++ [Ah1 d t.var]:=⟨_,rfl⟩;have ca:ar.length<=301:=by rw[a0,jC,jQ];omega
    have hR:ls++Bs1 t d=ar++t.arms.flatMap (Ac9 d)++ [⟨Qf (d+1),[Ah Pz,Ah Kd,Ah Fy]⟩]++ [⟨d,[Ah Pz,Ah Cu]⟩]:=by rw[hX,Au7,if_neg v0,a0];simp
    rw[<-a0] at ai;clear a0;simp(disch:=omega)only[go_sem,J,L,M,x0,x2,x4,bh,Ey];obtain⟨I,hI⟩: ∃I:Nat->(Nat->DVal)->Ac->Prop,∀k env heap,I k env heap↔(env 0= .optr r 0/\env 2=dI d/\env 42=Ey t.arms/\env 43=dI t.arms.length/\env 44=dI k/\k<=t.arms.length/\PAt B1 r (ar++(t.arms.take k).flatMap (Ac9 d)) heap):=⟨_,fun _ _ _=>Iff.rfl⟩;refine Dr7.run I (fun k=>t.arms.length-k) 0 ((hI _ _ _).2 ?_) ?_
    ·simp(disch:=omega)only[go_sem,x0,x2,x4,bh,Ey];(repeat' apply And.intro)<;>(try first | rfl | assumption | omega);simpa using ai
    ·clear x0 x2 x4;intro k env heap hi;obtain⟨O,U,V,W,Y,hk,au⟩:=(hI _ _ _).1 hi;by_cases a9:k<t.arms.length
     ·have ba:(k:Int)<(t.arms.length:Int):=by omega
      have bv:IntKind.i64.wrap ((k:Int)+1)=((k+1:Nat):Int):=by rw[IntKind.wrap_i64];omega
      have bi:=Co Ct t.arms k a9;have hfl:=Aw Ct t.arms;have mx:=List.getElem_mem a9;have bj:(t.arms.take (k+1)).flatMap (Ac9 d)=(t.arms.take k).flatMap (Ac9 d)++Ac9 d t.arms[k]:=by rw[Ti a9,List.flatMap_append];simp
      have bk:=Db5 d (t.arms.take k) fun a ha=>a2 a (List.mem_of_mem_take ha);rw[List.length_take] at bk;obtain⟨x,hx⟩: ∃x,x=t.arms[k]:=⟨_,rfl⟩;rw[<-hx] at bi mx bj;obtain⟨x1,x2⟩:=bt x mx;have x3:=a2 x mx;have cb:=Db4 x.c;have fx:=f7.2 x mx;have fc:=fx.1.1;have bw:(ar++(t.arms.take k).flatMap (Ac9 d)).length<=10000:=by rw[jC];omega
      simp(disch:=omega)only[go_sem,O,U,V,W,Y,Ey,ba,bi,hfl,jD];intro r7 a1;dsimp only at a1;have bb:=au.frame a1 (.cells (La x) 164);have z7:B1 r7=none:=(au.lo a1).1;have n7:r7≠r:=(au.lo a1).2;obtain⟨B7,hX⟩: ∃X,X=upd B1 r7 (some (.cells (La x) 164)):=⟨_,rfl⟩;have b7:B7 r7=some (.cells (La x) 164):=by rw[hX];exact Aa _ _ _
      have s7:Sub B1 B7:=by rw[hX];exact(Sub.refl _).up z7 _
      have bx:B7 r=none:=by rw[hX,Am _ _ _ _ n7.symm];exact ag
      obtain⟨K7,bl⟩: ∃X,X=upd heap r7 (some (.cells (La x) 164)):=⟨_,rfl⟩;rw[<-hX,<-bl] at bb;clear hX;have g7:=bb.keep b7 n7;simp(disch:=omega)only[go_sem,O,U,V,W,Y];rw[<-bl];simp(disch:=omega)only[go_sem,O,U,V,W,Y,g7,Ct,Qh,Qi];refine Ag.monoR (As3 hG _ x.c (by omega) fx.1.2) ?_;simp(disch:=omega)only[go_sem,O,U,V,W,Y,g7,Ct,Qh,Qi];intro rw af;dsimp only at af;simp(disch:=omega)only[go_sem];intro q hq;dsimp only at hq;simp(disch:=omega)only[go_sem];refine(Au4 hG Pq hq af (by simp) (SAt.start af)).mono ?_;rintro _ K2 ⟨rfl,bm⟩;rw[jG] at bm;simp(disch:=omega)only[go_sem,O,U,V,W,Y];obtain⟨v,hv⟩:=bm;have gr:=hv.keep (Aa _ _ _);have bn:=Aw Ao (Mn x.c).1;simp(disch:=omega)only[go_sem,O,U,V,W,Y,gr,Bl,Au5,Ai5,bn,jD];refine Jw.append (m:=(Mn x.c).1.length) hv bn (by simp;omega) fun v2 H6 bc=> ?_;have g6:=bc.keep (Aa _ _ _);obtain⟨j1,j2⟩:=bc.cell1;simp(disch:=omega)only[go_sem,O,U,V,W,Y,g6,j1,j2];have bo:=bc.at (Aa _ _ _) (some (.cells [v2] 146));rw[Gr] at bo;have bz:SAt K7 rw (([Ah Pq]:List Tok)++(Mn x.c).1) (upd H6 rw (some (.cells [v2] 146))):=⟨v2,by rw[jC,List.flatMap_append];exact bo⟩;intro q2 bp;dsimp only at bp;simp(disch:=omega)only[go_sem,O,U,V,W,Y];refine(Au4 hG By bp af (by simp;omega) bz).mono ?_;rintro _ K8 ⟨rfl,b0⟩;simp(disch:=omega)only[go_sem,O,U,V,W,Y];refine(Jd G _ bb af b0 (by omega)).mono ?_;rintro _ K9 ⟨rfl,ah⟩;have g9:=ah.keep b7 n7;have cc:=Au6 x.comps (IntKind.i64.wrap (d+3));simp(disch:=omega)only[go_sem,O,U,V,W,Y,g9,Ct,Qh,Qi];refine(Bf1 hG x.comps _ x1 fx.2 (by omega) B7 r _ _ bx (by rw[jC,jQ];omega) ah).mono ?_;rintro _ KA ⟨rfl,b1⟩;simp(disch:=omega)only[go_sem,O,U,V,W,Y];refine⟨k+1,_,Rz.refl _,(hI _ _ _).2 ?_,by omega⟩;simp(disch:=omega)only[go_sem,O,U,V,W,Y,bv];(repeat' apply And.intro)<;>(try first | rfl | assumption | omega);rw[bj,<-jO];have b2:=b1.less s7;simpa [Ac9,Qf] using b2
     ·have:k=t.arms.length:=by omega
      subst this;have ba: ¬(t.arms.length:Int)<(t.arms.length:Int):=by omega
      rw[List.take_length] at au;have bk:=Db5 d t.arms a2;have bw:(ar++t.arms.flatMap (Ac9 d)).length<=10000:=by rw[jC];omega
      simp(disch:=omega)only[go_sem,O,U,V,W,Y,Ey,ba];intro q8 bq;dsimp only at bq;simp(disch:=omega)only[go_sem,O,U,V,W,Y];refine(Bv2 hG _ [Pz,Kd,Fy] _ rfl bq (by simp) ag (by omega) au).mono ?_;rintro _ K8 ⟨rfl,b3⟩;simp(disch:=omega)only[go_sem,O,U,V,W,Y];intro q9 am;dsimp only at am;simp(disch:=omega)only[go_sem,O,U,V,W,Y];refine(Bv2 hG _ [Pz,Cu] _ rfl am (by simp) ag (by rw[jC,jQ];omega) b3).mono ?_;rintro _ K9 ⟨rfl,ah⟩;simp(disch:=omega)only[go_sem];refine Fa.refl ⟨rfl, ?_⟩;have a8:=ah.less be;rw[hR];simpa [Qf] using a8
end
theorem Dp7 (ts:List Tok):(Bl ts).cells= [Bl ts]:=rfl
theorem Fj0 (ts:List Tok):(Bl ts).one=true:=rfl
attribute [go_sem] Dp7 Fj0
section
variable (G:Nat->DVal) (H:Ac)
theorem Ce0 {l:List Par} (h:0<l.length):Mo (l.take 1)=Nf l[0]:=by
 cases l with
 | nil=>simp at h
 | cons s l=>rfl
theorem Bv3 {l:List Par} {k:Nat} (C:k<l.length) (hk:0<k):Mo (l.take (k+1))=Mo (l.take k)++Ah Fy::Nf l[k]:=by
 unfold Mo;rw[Ti C,List.map_append,List.map_singleton,Af2 _ _ _ (by
  intro e;have:=congrArg List.length e;rw[jK,List.length_take,jB] at this;omega)]
theorem Ae1 {p:Par} (h:Kb p=true):Il p.names 8=true/\Ci p.type=true/\Ic p.e=true:=by
 simp only[Kb,jF] at h;obtain⟨⟨⟨⟨⟨h1,h2⟩,h3⟩,-⟩,-⟩,-⟩:=h;rw[Ib,jF] at h2;exact⟨h1,h2.1,h3⟩
theorem Fj1 (m:Int):(Qe m).length<=2:=by
 rw[Qe];split
 ·simp
 ·split<;>simp
theorem Dx8 {p:Par} (h:Kb p=true):(Nf p).length<=10100:=by
 obtain⟨h1,h2,h3⟩:=Ae1 h;have:=(Ah0 h1).2;have:=Rj h2;have:=Cm7 h3;have:=Fj1 p.mode;rw[Nf];simp;omega
theorem Db6 {l:List Par} (h: ∀a∈l,Kb a=true): ∀k,k<=l.length->(Mo (l.take k)).length<=k*10101
 | 0,_=>by simp [Mo,Dm]
 | 1,hk=>by
  rw[Ce0 (by omega)];have:=Dx8 (h _ (List.getElem_mem (show 0<l.length by omega)));omega
 | k+2,hk=>by
  rw[Bv3 (by omega) (by omega),jC,jA];have:=Db6 h (k+1) (by omega);have:=Dx8 (h _ (List.getElem_mem (show k+1<l.length by omega)));omega
end
def Dp8 (ls:List Lin):DVal:= .vslice (ls.flatMap Xb) ls.length
theorem Ga9 {t:Typ} (hm:Du t=true):(t.kind=1->Il t.names 64=true)/\(t.kind=2->Ci t.lo=true/\Ci t.hi=true)/\(t.kind=3->En t.sub=true)/\(t.kind=6->En t.sub=true)/\(t.kind=4->En t.sub=true/\Fh t.disc=true)/\(t.kind=5->Lu t=true)/\(t.kind=1\/t.kind=2\/t.kind=3\/t.kind=4\/t.kind=5\/t.kind=6\/t.kind=7):=by
 refine⟨fun h=> ?_,fun h=> ?_,fun h=> ?_,fun h=> ?_,fun h=> ?_,fun h=> ?_, ?_⟩
 ·simp [Du,h] at hm;exact hm.1.1.1.1.1
 ·simp [Du,h] at hm;exact hm.1.1.1.1.2
 ·simp [Du,h] at hm;exact hm.1.1.1.2
 ·simp [Du,h] at hm;exact hm.1.1.1.2
 ·simp [Du,h] at hm;exact⟨hm.1.1.1.2,hm.1.1.2⟩
 ·simp [Du,h] at hm;exact hm.1.2
 ·by_cases h1:t.kind=1
  ·omega
  by_cases h2:t.kind=2
  ·omega
  by_cases h3:t.kind=3
  ·omega
  by_cases h4:t.kind=4
  ·omega
  by_cases h5:t.kind=5
  ·omega
  by_cases h6:t.kind=6
  ·omega
  simp [Du,h1,h2,h3,h4,h5,h6] at hm;omega
section
variable (G:Nat->DVal) (H:Ac)
def Db7 (s:Dis):List Tok×Int:=if Fh s then(Lp s,0) else([],2)
def Au9 (l:List Par):List Tok×Int:=if Jq l then(Mo l,0) else([],2)
def Ce1 (t:Typ) (d:Int):List Lin×Int:=if Du t then(Ie t d,0) else([],2)
theorem Fj2 {l:List Cmp} (h:l.all Kc=true) {n:Nat} (C:Hs l<=n):l.length<=n:=by
 have key: ∀l:List Cmp,(∀x∈l,Kc x=true)->l.length<=Hs l:=by
  intro l
  induction l with
  | nil=>intro _;exact Nat.le_refl _
  | cons x l ih=>
   intro h;have h1:=ih fun y D=>h y (List.mem_cons_of_mem _ D);have h2:=h x (List.mem_cons_self ..);rw[Kc,jF,jF,Il,jF,jF,decide_eq_true_eq] at h2;have h3:=h2.1.1.1.2;have e:Hs (x::l)=x.names.length+Hs l:=by simp [Hs]
   rw[e,jA];omega
 exact Nat.le_trans (key l (List.all_eq_true.1 h)) C
theorem Gw4 {t:Typ} (h:Lu t=true):t.comps.length<=40/\ ∀a∈t.arms,a.comps.length<=40:=by
 simp only[Lu,jF,decide_eq_true_eq] at h;obtain⟨⟨⟨⟨⟨C,-⟩,-⟩,-⟩,D⟩,hn⟩:=h;have h1:=Fj2 C (Nat.le_refl _);refine⟨by omega,fun a ha=> ?_⟩;have h2:=List.all_eq_true.1 D a ha;rw[Jr,jF] at h2;have h3:=Fj2 h2.1 (Nat.le_refl _);have h4:Hs a.comps<=Ui t.arms:=by
  unfold Ui;have: ∀l:List Arm,a∈l->Hs a.comps<=(l.map fun a=>Hs a.comps).sum:=by
   intro l
   induction l with
   | nil=>intro h;cases h
   | cons b l ih=>
    intro h;rw[jN,List.sum_cons];rcases List.mem_cons.1 h with rfl | h
    ·omega
    ·have:=ih h;omega
  exact this _ ha
 omega
end
section
variable {G:Nat->DVal}
theorem Xf (hG:GX G) (H:Ac) (d:Dis) (L:Ai2 1048576 d):Ag Tryz.prog G 31 [.agg (Dy d)] H (Ax (.tuple [Bl (Db7 d).1,dI (Db7 d).2]) H):=by
 rw[Db7];refine Ab Tryz.func31 Tryz.call31 rfl (by kernel_rfl) ?_;simp(disch:=omega)only[go_sem,DVal.cells];intro I M;dsimp only at M;obtain⟨K,E⟩: ∃K',K'=upd H I (some (.cells (Dy d) 58)):=⟨_,rfl⟩;rw[<-E];have D:K I=some (.cells (Dy d) 58):=by rw[E];exact Aa _ _ _
 have hs:Sub H K:=by rw[E];exact(Sub.refl H).new M _
 clear E;simp(disch:=omega)only[go_sem,D];refine Ag.monoR (Vq hG K d L) ?_;try simp(disch:=omega)only[go_sem,D]
 cases hm:Fh d
 ·simp(disch:=omega)only[go_sem];exact Mh.fin hs (Mh.tuple (.cons (Mh.nil hs) (Lf.keep hs _))) ⟨rfl,rfl⟩
 ·have W:=Dx7 hm;simp(disch:=omega)only[go_sem,D];intro rw C;dsimp only at C;have S:I≠rw:=Af C D;simp(disch:=omega)only[go_sem,D,S];refine(Bv1 hG d hm L K rw [] _ C (by rw[jB];omega) (SAt.start C)).mono ?_;rintro _ X ⟨rfl,J⟩;rw[jG] at J;obtain⟨v,U,V⟩:=J.cell C;have O:=J.sub C;simp(disch:=omega)only[go_sem,U];exact Mh.fin (hs.trans O) (Mh.tuple (.cons (fun w hw x hx=>Rel.lasts (El hs w) _ _ (V w hw x hx)) (Lf.keep (hs.trans O) _))) ⟨rfl,rfl⟩
set_option maxHeartbeats 40000000 in
theorem Sf (hG:GX G) (H:Ac) (t:Typ) (d:Int) (ht:Oy 1048576 t):Ag Tryz.prog G 21 [.agg (Cl t),dI d] H (Ax (.tuple [Dp8 (Ce1 t d).1,dI (Ce1 t d).2]) H):=by
 rw[Ce1];refine Ab Tryz.func21 Tryz.call21 rfl (by kernel_rfl) ?_;simp(disch:=omega)only[go_sem,DVal.cells];intro r2 am;dsimp only at am;obtain⟨K,hK⟩: ∃K',K'=upd H r2 (some (.cells (Cl t) 62)):=⟨_,rfl⟩;rw[<-hK];have g2:K r2=some (.cells (Cl t) 62):=by rw[hK];exact Aa _ _ _
 have hs:Sub H K:=by rw[hK];exact(Sub.refl H).new am _
 clear hK;simp(disch:=omega)only[go_sem,g2];refine Ag.monoR (Ad1 hG K t ht) ?_;try simp(disch:=omega)only[go_sem,g2]
 cases hm:Du t
 ·simp(disch:=omega)only[go_sem];exact Mh.fin hs (Mh.tuple (.cons (Mh.nil hs) (Lf.keep hs _))) ⟨rfl,rfl⟩
 have ao:=ht;obtain⟨f0,f1,f2,f3,f4,f5,f6,f7⟩:=ht;obtain⟨k1,k2,k3,k6,k4,k5,ax⟩:=Ga9 hm;simp(disch:=omega)only[go_sem,g2];intro Z J;dsimp only at J;have hp:=PAt.start J;have ap:r2≠Z:=Af J g2;obtain⟨B0,ag⟩: ∃X,X=upd K Z (some (.cells [.nilSlice] 143)):=⟨_,rfl⟩;rw[<-ag] at hp;have C:B0 r2=some (.cells (Cl t) 62):=by rw[ag];exact Aj g2 ap
 simp(disch:=omega)only[go_sem,g2,ap];try rw [<-ag]
 intro rw ab;dsimp only at ab;try rw [<-ag] at ab
 clear ag;have n2:r2≠rw:=Af ab C;have ae:=SAt.start ab;obtain⟨K0,ak⟩: ∃X,X=upd B0 rw (some (.cells [.nilSlice] 146)):=⟨_,rfl⟩;rw[<-ak] at ae;have Y:=ae.keep C n2;have ac:(0:Nat)<=1:=by omega
 have aq:=ae.sub ab;simp(disch:=omega)only[go_sem,C,n2];rw[<-ak];clear ak;have h0:St B0 B0 rw [] K0:=⟨ae,ab,Sub.refl B0⟩;rcases ax with hk | hk | hk | hk | hk | hk | hk
 ·have a0:=Ah0 (k1 hk);have L:Ie t d= [⟨d,Ah Bf::(Cw t.names++ [Ah Bv])⟩]:=by rw[Ie,if_pos hk]
  simp(disch:=omega)only[go_sem,Y,hk];refine Ak (by kernel_rfl) pL5 (by kernel_rfl) ?_;simp(disch:=omega)only[go_sem,Y];have h:=h0
  repeat'
   first
   | with_reducible apply And.intro
   |with_reducible show Ag _ _ 93 _ _ _
    have D:=h.g C;refine(h.call (Ae0 hG t.names (by omega)) (by(try simp only[jC,jA,jB,jK,jN,jP,List.length_flatMap] at ac⊢)<;>omega)).mono ?_;rintro _ M ⟨rfl,h⟩;try simp(disch:=omega)only[go_sem,D,h.g C]
   |with_reducible show Ag _ _ 92 _ _ _
    have D:=h.g C;refine(h.put hG [Bf] ad (by(try simp only[jC,jA,jB,jK,jN,jP,List.length_flatMap] at ac⊢)<;>omega)).mono ?_;rintro _ M ⟨rfl,h⟩;try simp(disch:=omega)only[go_sem,D,h.g C]
   |with_reducible show Ag _ _ 92 _ _ _
    have D:=h.g C;refine(h.put hG [Bv] af (by(try simp only[jC,jA,jB,jK,jN,jP,List.length_flatMap] at ac⊢)<;>omega)).mono ?_;rintro _ M ⟨rfl,h⟩;try simp(disch:=omega)only[go_sem,D,h.g C]
   |with_reducible show Ag _ _ 98 _ _ _
    refine(Jd G d (hp.more h.hs) h.hr h.hw (by simp)).mono ?_;rintro _ O ⟨rfl,S⟩;have E:PAt K Z (Ie t d) O:=by rw[L];simpa using S
    obtain⟨v,U,V⟩:=E.cell J;have I:=E.sub J;simp(disch:=omega)only[go_sem,U];exact Mh.fin (hs.trans I) (Mh.tuple (.cons (fun w hw x hx=>Rel.lasts (El hs w) _ _ (V w hw x hx)) (Lf.keep (hs.trans I) _))) ⟨rfl,rfl⟩
   |intro qa aa;dsimp only at aa
    have D:=h.g C;obtain⟨Bw,M,ew,h,W,ad⟩:=h.new aa (.cells [.str [40]] 9);rw[ew];replace C:=W _ _ C;try replace af:=W _ _ af
    try simp(disch:=omega)only[go_sem,D,h.g C]
   |intro qb ah;dsimp only at ah
    have D:=h.g C;obtain⟨Bw,M,ew,h,W,af⟩:=h.new ah (.cells [.str [41]] 9);rw[ew];replace C:=W _ _ C;try replace ad:=W _ _ ad
    try simp(disch:=omega)only[go_sem,D,h.g C]
 ·obtain⟨ml,mh⟩:=k2 hk;have a1:=Am9 ml mh;have L:Ie t d= [⟨d,Ah Eo::Dj t.lo t.hi⟩]:=by rw[Ie,if_neg (by omega),if_pos hk]
  simp(disch:=omega)only[go_sem,Y,hk];refine Ak (by kernel_rfl) pL13 (by kernel_rfl) ?_;simp(disch:=omega)only[go_sem,Y];have h:=h0
  repeat'
   first
   | with_reducible apply And.intro
   |with_reducible show Ag _ _ 94 _ _ _
    have D:=h.g C;refine(h.call (Sx hG t.lo t.hi ml mh f1 f2) (by(try simp only[jC,jA,jB,jK,jN,jP,List.length_flatMap] at ac⊢)<;>omega)).mono ?_;rintro _ M ⟨rfl,h⟩;try simp(disch:=omega)only[go_sem,D,h.g C]
   |with_reducible show Ag _ _ 92 _ _ _
    have D:=h.g C;refine(h.put hG [Eo] ad (by(try simp only[jC,jA,jB,jK,jN,jP,List.length_flatMap] at ac⊢)<;>omega)).mono ?_;rintro _ M ⟨rfl,h⟩;try simp(disch:=omega)only[go_sem,D,h.g C]
   |with_reducible show Ag _ _ 98 _ _ _
    refine(Jd G d (hp.more h.hs) h.hr h.hw (by simp)).mono ?_;rintro _ O ⟨rfl,S⟩;have E:PAt K Z (Ie t d) O:=by rw[L];simpa using S
    obtain⟨v,U,V⟩:=E.cell J;have I:=E.sub J;simp(disch:=omega)only[go_sem,U];exact Mh.fin (hs.trans I) (Mh.tuple (.cons (fun w hw x hx=>Rel.lasts (El hs w) _ _ (V w hw x hx)) (Lf.keep (hs.trans I) _))) ⟨rfl,rfl⟩
   |intro qa aa;dsimp only at aa
    have D:=h.g C;obtain⟨Bw,M,ew,h,W,ad⟩:=h.new aa (.cells [.str [114,97,110,103,101]] 9);rw[ew];replace C:=W _ _ C;try simp(disch:=omega)only[go_sem,D,h.g C]
 ·have mi:=k3 hk;have ar:=Bh9 mi;have L:Ie t d= [⟨d,Ah Am0::In t.sub⟩]:=by rw[Ie,if_neg (by omega),if_neg (by omega),if_pos hk]
  simp(disch:=omega)only[go_sem,Y,hk];refine Ak (by kernel_rfl) pL15 (by kernel_rfl) ?_;simp(disch:=omega)only[go_sem,Y];have h:=h0
  repeat'
   first
   | with_reducible apply And.intro
   |with_reducible show Ag _ _ 95 _ _ _
    have D:=h.g C;refine(h.call (Vu hG t.sub mi f3) (by(try simp only[jC,jA,jB,jK,jN,jP,List.length_flatMap] at ac⊢)<;>omega)).mono ?_;rintro _ M ⟨rfl,h⟩;try simp(disch:=omega)only[go_sem,D,h.g C]
   |with_reducible show Ag _ _ 92 _ _ _
    have D:=h.g C;refine(h.put hG [Am0] ad (by(try simp only[jC,jA,jB,jK,jN,jP,List.length_flatMap] at ac⊢)<;>omega)).mono ?_;rintro _ M ⟨rfl,h⟩;try simp(disch:=omega)only[go_sem,D,h.g C]
   |with_reducible show Ag _ _ 98 _ _ _
    refine(Jd G d (hp.more h.hs) h.hr h.hw (by simp)).mono ?_;rintro _ O ⟨rfl,S⟩;have E:PAt K Z (Ie t d) O:=by rw[L];simpa using S
    obtain⟨v,U,V⟩:=E.cell J;have I:=E.sub J;simp(disch:=omega)only[go_sem,U];exact Mh.fin (hs.trans I) (Mh.tuple (.cons (fun w hw x hx=>Rel.lasts (El hs w) _ _ (V w hw x hx)) (Lf.keep (hs.trans I) _))) ⟨rfl,rfl⟩
   |intro qa aa;dsimp only at aa
    have D:=h.g C;obtain⟨Bw,M,ew,h,W,ad⟩:=h.new aa (.cells [.str [110,101,119]] 9);rw[ew];replace C:=W _ _ C;try simp(disch:=omega)only[go_sem,D,h.g C]
 ·obtain⟨mi,md⟩:=k4 hk;have ar:=Bh9 mi;have a2:=Dx7 md;have L:Ie t d= [⟨d,Ah Lo::Ah Bf::(Lp t.disc++(Ah Bv::Ah wOf::In t.sub))⟩]:=by rw[Ie,if_neg (by omega),if_neg (by omega),if_neg (by omega),if_pos hk]
  simp(disch:=omega)only[go_sem,Y,hk];refine Ak (by kernel_rfl) (.take 0 (.take 3 (.take 4 (.take 8 (.take 9 (.alt (.go 6 [9,4] (.go 1 [9,4] (.go 2 [9,4] (.go 5 [9] (.go 7 [9] (.go 10 [] .done)))))) (.go 1 [9,4] (.alt (.go 6 [9,4] (.go 2 [9,4] (.go 5 [9] (.go 7 [9] (.go 10 [] .done))))) (.go 2 [9,4] (.alt (.go 6 [9,4] (.go 5 [9] (.go 7 [9] (.go 10 [] .done)))) (.go 5 [9] (.go 6 [9,4] (.go 7 [9] (.go 10 [] .done)))))))))))))) (by kernel_rfl) ?_;simp(disch:=omega)only[go_sem,Y];have h:=h0
  repeat'
   first
   | with_reducible apply And.intro
   |with_reducible show Ag _ _ 96 _ _ _
    have D:=h.g C;refine(h.call (Bv1 hG t.disc md f4) (by(try simp only[jC,jA,jB,jK,jN,jP,List.length_flatMap] at ac⊢)<;>omega)).mono ?_;rintro _ M ⟨rfl,h⟩;try simp(disch:=omega)only[go_sem,D,h.g C]
   |with_reducible show Ag _ _ 95 _ _ _
    have D:=h.g C;refine(h.call (Vu hG t.sub mi f3) (by(try simp only[jC,jA,jB,jK,jN,jP,List.length_flatMap] at ac⊢)<;>omega)).mono ?_;rintro _ M ⟨rfl,h⟩;try simp(disch:=omega)only[go_sem,D,h.g C]
   |with_reducible show Ag _ _ 92 _ _ _
    have D:=h.g C;refine(h.put hG [Lo,Bf] ad (by(try simp only[jC,jA,jB,jK,jN,jP,List.length_flatMap] at ac⊢)<;>omega)).mono ?_;rintro _ M ⟨rfl,h⟩;try simp(disch:=omega)only[go_sem,D,h.g C]
   |with_reducible show Ag _ _ 92 _ _ _
    have D:=h.g C;refine(h.put hG [Bv,wOf] af (by(try simp only[jC,jA,jB,jK,jN,jP,List.length_flatMap] at ac⊢)<;>omega)).mono ?_;rintro _ M ⟨rfl,h⟩;try simp(disch:=omega)only[go_sem,D,h.g C]
   |with_reducible show Ag _ _ 98 _ _ _
    refine(Jd G d (hp.more h.hs) h.hr h.hw (by simp)).mono ?_;rintro _ O ⟨rfl,S⟩;have E:PAt K Z (Ie t d) O:=by rw[L];simpa using S
    obtain⟨v,U,V⟩:=E.cell J;have I:=E.sub J;simp(disch:=omega)only[go_sem,U];exact Mh.fin (hs.trans I) (Mh.tuple (.cons (fun w hw x hx=>Rel.lasts (El hs w) _ _ (V w hw x hx)) (Lf.keep (hs.trans I) _))) ⟨rfl,rfl⟩
   |intro qa aa;dsimp only at aa
    have D:=h.g C;obtain⟨Bw,M,ew,h,W,ad⟩:=h.new aa (.cells [.str [97,114,114,97,121], .str [40]] 9);rw[ew];replace C:=W _ _ C;try replace af:=W _ _ af
    try simp(disch:=omega)only[go_sem,D,h.g C]
   |intro qb ah;dsimp only at ah
    have D:=h.g C;obtain⟨Bw,M,ew,h,W,af⟩:=h.new ah (.cells [.str [41], .str [111,102]] 9);rw[ew];replace C:=W _ _ C;try replace ad:=W _ _ ad
    try simp(disch:=omega)only[go_sem,D,h.g C]
 ·have hr:=k5 hk;obtain⟨au,av⟩:=Gw4 hr;by_cases c0:t.comps.length=0
  ·have aj: ¬(0:Int)<(t.comps.length:Int):=by omega
   have al:t.comps= []:=List.length_eq_zero_iff.1 c0;by_cases v0:t.var= []
   ·have L:Ie t d= [⟨d,[Ah Fm,Ah Cu]⟩]:=by rw[Ie,if_neg (by omega),if_neg (by omega),if_neg (by omega),if_neg (by omega),if_neg (by omega),if_neg (by omega),if_pos (by simp [al,v0])]
    simp(disch:=omega)only[go_sem,Y,hk,Cv,aj,v0];intro q0 hq0;dsimp only at hq0;simp(disch:=omega)only[go_sem];refine(Gw2 hG Fm Cu hq0 ab (by simp) ae).mono ?_;rintro _ K9 ⟨rfl,ai⟩;simp(disch:=omega)only[go_sem];refine(Jd G d (hp.more (Sub.refl B0)) ab ai (by simp)).mono ?_;rintro _ O ⟨rfl,S⟩;have E:PAt K Z (Ie t d) O:=by rw[L];simpa using S
    obtain⟨v,U,V⟩:=E.cell J;have I:=E.sub J;simp(disch:=omega)only[go_sem,U];exact Mh.fin (hs.trans I) (Mh.tuple (.cons (fun w hw x hx=>Rel.lasts (El hs w) _ _ (V w hw x hx)) (Lf.keep (hs.trans I) _))) ⟨rfl,rfl⟩
   ·have L:Ie t d=Bs1 t d:=by rw[Ie,if_neg (by omega),if_neg (by omega),if_neg (by omega),if_neg (by omega),if_neg (by omega),if_neg (by omega),if_neg (by simp [v0])]
    simp(disch:=omega)only[go_sem,Y,hk,Cv,aj,v0];refine(Au8 hG t d hr ao au av K Z [] K0 J (by simp) (hp.more aq)).mono ?_;rintro _ O ⟨rfl,S⟩;have E:PAt K Z (Ie t d) O:=by rw[L];simpa using S
    obtain⟨v,U,V⟩:=E.cell J;have I:=E.sub J;simp(disch:=omega)only[go_sem,U];exact Mh.fin (hs.trans I) (Mh.tuple (.cons (fun w hw x hx=>Rel.lasts (El hs w) _ _ (V w hw x hx)) (Lf.keep (hs.trans I) _))) ⟨rfl,rfl⟩
  ·have aj:(0:Int)<(t.comps.length:Int):=by omega
   have al: ¬t.comps.isEmpty=true:=by intro e;exact c0 (by rw[List.isEmpty_iff.1 e];rfl)
   have L:Ie t d=Bs1 t d:=by rw[Ie,if_neg (by omega),if_neg (by omega),if_neg (by omega),if_neg (by omega),if_neg (by omega),if_neg (by omega),if_neg (by simp [al])]
   simp(disch:=omega)only[go_sem,Y,hk,Cv,aj];refine(Au8 hG t d hr ao au av K Z [] K0 J (by simp) (hp.more aq)).mono ?_;rintro _ O ⟨rfl,S⟩;have E:PAt K Z (Ie t d) O:=by rw[L];simpa using S
   obtain⟨v,U,V⟩:=E.cell J;have I:=E.sub J;simp(disch:=omega)only[go_sem,U];exact Mh.fin (hs.trans I) (Mh.tuple (.cons (fun w hw x hx=>Rel.lasts (El hs w) _ _ (V w hw x hx)) (Lf.keep (hs.trans I) _))) ⟨rfl,rfl⟩
 ·have mi:=k6 hk;have ar:=Bh9 mi;have L:Ie t d= [⟨d,Ah Lw::In t.sub⟩]:=by rw[Ie,if_neg (by omega),if_neg (by omega),if_neg (by omega),if_neg (by omega),if_pos hk]
  simp(disch:=omega)only[go_sem,Y,hk];refine Ak (by kernel_rfl) pL15 (by kernel_rfl) ?_;simp(disch:=omega)only[go_sem,Y];have h:=h0
  repeat'
   first
   | with_reducible apply And.intro
   |with_reducible show Ag _ _ 95 _ _ _
    have D:=h.g C;refine(h.call (Vu hG t.sub mi f3) (by(try simp only[jC,jA,jB,jK,jN,jP,List.length_flatMap] at ac⊢)<;>omega)).mono ?_;rintro _ M ⟨rfl,h⟩;try simp(disch:=omega)only[go_sem,D,h.g C]
   |with_reducible show Ag _ _ 92 _ _ _
    have D:=h.g C;refine(h.put hG [Lw] ad (by(try simp only[jC,jA,jB,jK,jN,jP,List.length_flatMap] at ac⊢)<;>omega)).mono ?_;rintro _ M ⟨rfl,h⟩;try simp(disch:=omega)only[go_sem,D,h.g C]
   |with_reducible show Ag _ _ 98 _ _ _
    refine(Jd G d (hp.more h.hs) h.hr h.hw (by simp)).mono ?_;rintro _ O ⟨rfl,S⟩;have E:PAt K Z (Ie t d) O:=by rw[L];simpa using S
    obtain⟨v,U,V⟩:=E.cell J;have I:=E.sub J;simp(disch:=omega)only[go_sem,U];exact Mh.fin (hs.trans I) (Mh.tuple (.cons (fun w hw x hx=>Rel.lasts (El hs w) _ _ (V w hw x hx)) (Lf.keep (hs.trans I) _))) ⟨rfl,rfl⟩
   |intro qa aa;dsimp only at aa
    have D:=h.g C;obtain⟨Bw,M,ew,h,W,ad⟩:=h.new aa (.cells [.str [97,99,99,101,115,115]] 9);rw[ew];replace C:=W _ _ C;try simp(disch:=omega)only[go_sem,D,h.g C]
 ·cases hl:t.limited
  ·have L:Ie t d= [⟨d,[Ah Fp]⟩]:=by rw[Ie,if_neg (by omega),if_neg (by omega),if_neg (by omega),if_neg (by omega),if_neg (by omega),if_pos hk,hl];rfl
   simp(disch:=omega)only[go_sem,Y,hk,hl];intro q0 hq0;dsimp only at hq0;simp(disch:=omega)only[go_sem];refine(Au4 hG Fp hq0 ab (by simp) ae).mono ?_;rintro _ K9 ⟨rfl,ai⟩;simp(disch:=omega)only[go_sem];refine(Jd G d (hp.more (Sub.refl B0)) ab ai (by simp)).mono ?_;rintro _ O ⟨rfl,S⟩;have E:PAt K Z (Ie t d) O:=by rw[L];simpa using S
   obtain⟨v,U,V⟩:=E.cell J;have I:=E.sub J;simp(disch:=omega)only[go_sem,U];exact Mh.fin (hs.trans I) (Mh.tuple (.cons (fun w hw x hx=>Rel.lasts (El hs w) _ _ (V w hw x hx)) (Lf.keep (hs.trans I) _))) ⟨rfl,rfl⟩
  ·have L:Ie t d= [⟨d,[Ah Ko,Ah Fp]⟩]:=by rw[Ie,if_neg (by omega),if_neg (by omega),if_neg (by omega),if_neg (by omega),if_neg (by omega),if_pos hk,hl];rfl
   simp(disch:=omega)only[go_sem,Y,hk,hl];intro q1 aw;dsimp only at aw;simp(disch:=omega)only[go_sem];refine(Au4 hG Ko aw ab (by simp) ae).mono ?_;rintro _ K8 ⟨rfl,ay⟩;simp(disch:=omega)only[go_sem];intro q0 hq0;dsimp only at hq0;simp(disch:=omega)only[go_sem];refine(Au4 hG Fp hq0 ab (by simp) ay).mono ?_;rintro _ K9 ⟨rfl,ai⟩;simp(disch:=omega)only[go_sem];refine(Jd G d (hp.more (Sub.refl B0)) ab ai (by simp)).mono ?_;rintro _ O ⟨rfl,S⟩;have E:PAt K Z (Ie t d) O:=by rw[L];simpa using S
   obtain⟨v,U,V⟩:=E.cell J;have I:=E.sub J;simp(disch:=omega)only[go_sem,U];exact Mh.fin (hs.trans I) (Mh.tuple (.cons (fun w hw x hx=>Rel.lasts (El hs w) _ _ (V w hw x hx)) (Lf.keep (hs.trans I) _))) ⟨rfl,rfl⟩
end
theorem St.putn {G:Nat->DVal} {B0 B K:Ac} {r:Nat} {ts:List Tok} (h:St B0 B r ts K) (hG:GX G) (C:ts.length<=1000000000):Ag Tryz.prog G 92 [.optr r 0, .nilSlice] K (fun e K'=>e= .ret (.optr r 0)/\St B0 B r ts K'):=by
 have h1:=Ag9 hG [] B r ts K h.hr (by simpa using C) h.hw;refine(Lf.call (Sub.refl K) (.cons (.keep (Sub.refl K) _) (.cons (Mh.nil (Sub.refl K)) .nil)) h1).mono ?_;rintro e H' ⟨h2,h3⟩;exact⟨h2,by simpa using h3,h.hr,h.hs⟩
section
variable {G:Nat->DVal}
theorem Gw5 {l:List Par} (hm:l.all Kb=true) {n:Nat} (C:As6 l<=n):l.length<=n:=by
 have key: ∀l:List Par,(∀x∈l,Kb x=true)->l.length<=As6 l:=by
  intro l
  induction l with
  | nil=>intro _;exact Nat.le_refl _
  | cons x l ih=>
   intro h;have h1:=ih fun y D=>h y (List.mem_cons_of_mem _ D);have h2:=(Ae1 (h x (List.mem_cons_self ..))).1;rw[Il,jF,jF,decide_eq_true_eq] at h2;have h3:=h2.1.2;have e:As6 (x::l)=x.names.length+As6 l:=by simp [As6]
   rw[e,jA];omega
 exact Nat.le_trans (key l (List.all_eq_true.1 hm)) C
theorem Dp9 {p:Par} (h:Kb p=true):p.mode=1\/p.mode=2\/p.mode=3:=by
 simp only[Kb,jF,decide_eq_true_eq] at h;obtain⟨⟨⟨-,h1⟩,h2⟩,-⟩:=h;omega
set_option maxHeartbeats 40000000 in
theorem Px (hG:GX G) (H:Ac) (l:List Par) (hl:Ks Si 1048576 l):Ag Tryz.prog G 27 [Gm l] H (Ax (.tuple [Bl (Au9 l).1,dI (Au9 l).2]) H):=by
 rw[Au9];refine Ab Tryz.func27 Tryz.call27 rfl (by kernel_rfl) ?_;simp(disch:=omega)only[go_sem];refine Ag.monoR (Ps hG H l hl) ?_;cases hm:Jq l
 ·simp(disch:=omega)only[go_sem];exact Mh.fin (Sub.refl H) (Mh.tuple (.cons (Mh.nil (Sub.refl H)) (Lf.keep (Sub.refl H) _))) ⟨rfl,rfl⟩
 have al:=hm;rw[Jq,jF,decide_eq_true_eq] at al;have bg:=Gw5 al.1 al.2;have ar:=List.all_eq_true.1 al.1;simp(disch:=omega)only[go_sem];intro W am;dsimp only at am;simp(disch:=omega)only[go_sem];intro Y aj;dsimp only at aj;have n1:W≠Y:=Af aj (Aa _ _ _);have aa:=n1.symm;simp(disch:=omega)only[go_sem,n1,aa];intro m2 ad;dsimp only at ad;have n2:W≠m2:=Af ad (Aa _ _ _);have ak:=n2.symm;have n3:Y≠m2:=Af ad (Aj (Aa _ _ _) aa);have au:=n3.symm;simp(disch:=omega)only[go_sem,n1,aa,n2,ak,n3,au];intro rw ae;dsimp only at ae;have k1:H Y=none:=by rw[Am _ _ _ _ aa] at aj;exact aj
 have k2:H m2=none:=by rw[Am _ _ _ _ ak,Am _ _ _ _ au,Am _ _ _ _ ak] at ad;exact ad
 obtain⟨Z,ab⟩: ∃X,X=upd (upd (upd (upd (upd H W (some (.map []))) Y (some (.cells [.str [111,117,116]] 9))) W (some (.map [(.int .u8 2, .oslice 1 Y 0 1 1)]))) m2 (some (.cells [.str [105,110], .str [111,117,116]] 9))) W (some (.map [(.int .u8 2, .oslice 1 Y 0 1 1),(.int .u8 3, .oslice 1 m2 0 2 2)])):=⟨_,rfl⟩;rw[<-ab] at ae;have sm:Sub H Z:=by rw[ab];exact(((((Sub.refl H).up am _).up k1 _).up am _).up k2 _).up am _
 have a7:Z W=some (.map [(.int .u8 2, .oslice 1 Y 0 1 1),(.int .u8 3, .oslice 1 m2 0 2 2)]):=by rw[ab];exact Aa _ _ _
 have a8:Z m2=some (.cells [.str [105,110], .str [111,117,116]] 9):=by rw[ab];exact Aj (Aa _ _ _) ak
 have a9:Z Y=some (.cells [.str [111,117,116]] 9):=by rw[ab];exact Aj (Aj (Aj (Aa _ _ _) aa) n3) aa
 have bh:=SAt.start ae;clear aj ad;simp(disch:=omega)only[go_sem,n1,aa,n2,ak,n3,au,Gm];rw[<-ab];clear ab;obtain⟨I,hI⟩: ∃I:Nat->(Nat->DVal)->Ac->Prop,∀k env heap,I k env heap↔(env 4= .omap W/\env 5= .optr rw 0/\env 17=Gm l/\env 18=dI l.length/\env 19=dI k/\k<=l.length/\SAt Z rw (Mo (l.take k)) heap):=⟨_,fun _ _ _=>Iff.rfl⟩;refine Dr7.run I (fun k=>l.length-k) 0 ((hI _ _ _).2 ?_) ?_
 ·simp(disch:=omega)only[go_sem,Gm];(repeat' apply And.intro)<;>(try first | rfl | assumption | omega)
 ·intro k env heap hi;obtain⟨C,D,J,L,M,hk,af⟩:=(hI _ _ _).1 hi;have hfl:=Aw Bx l;by_cases ao:k<l.length
  ·have av:(k:Int)<(l.length:Int):=by omega
   have ba:IntKind.i64.wrap ((k:Int)+1)=((k+1:Nat):Int):=by rw[IntKind.wrap_i64];omega
   have mx:=List.getElem_mem ao;have hle:=Db6 ar k hk;have a1:=Co Bx l k ao;have a2:k=0->Mo (l.take (k+1))=Nf l[k]:=by intro h;subst h;exact Ce0 ao
   have a3:0<k->Mo (l.take (k+1))=Mo (l.take k)++Ah Fy::Nf l[k]:=fun h=>Bv3 ao h;have bb:k=0->Mo (l.take k)= []:=by intro h;subst h;rfl
   obtain⟨x,hx⟩: ∃x,x=l[k]:=⟨_,rfl⟩;rw[<-hx] at a1 mx a2 a3;obtain⟨o1,o2,o3⟩:=Ae1 (ar x mx);have bc:=Dp9 (ar x mx);obtain⟨f0,f1,f2⟩:=hl.2 x mx;have bi:=Rj o2;have bj:=Cm7 o3;have bk:=Ah0 o1;simp(disch:=omega)only[go_sem,C,D,J,L,M,Gm,av,a1,hfl,jD];intro r7 ap;dsimp only at ap;have V:=af.frame ap (.cells (Gt x) 136);have z7:Z r7=none:=(af.lo ap).1;have n7:r7≠rw:=(af.lo ap).2;obtain⟨B0,hX⟩: ∃X,X=upd Z r7 (some (.cells (Gt x) 136)):=⟨_,rfl⟩;have b7:B0 r7=some (.cells (Gt x) 136):=by rw[hX];exact Aa _ _ _
   have aq:Sub Z B0:=by rw[hX];exact(Sub.refl _).up z7 _
   have a4:B0 rw=none:=by rw[hX,Am _ _ _ _ n7.symm];exact ae
   have bm:=aq _ _ a7;have aw:=aq _ _ a9;have ax:=aq _ _ a8;obtain⟨K0,ay⟩: ∃X,X=upd heap r7 (some (.cells (Gt x) 136)):=⟨_,rfl⟩;rw[<-hX,<-ay] at V;clear hX;refine(fun(tail: ∀(S:DS) (O:List Tok),SAt B0 rw O S.heap->Mo (l.take (k+1))=O++Nf x->O.length<=100000->S.env 4= .omap W->S.env 5= .optr rw 0->S.env 7= .optr r7 0->S.env 17=Gm l->S.env 18=dI l.length->S.env 19=dI k->(?T:DS->Prop) S)=> ?A) ?B
   case A=>
    by_cases k0:k=0
    ·have a0: ¬(0:Int)<(k:Int):=by omega
     have ac:Mo (l.take (k+1))= []++Nf x:=a2 k0;obtain⟨O,hts⟩: ∃O:List Tok,O= []:=⟨_,rfl⟩;rw[bb k0,<-hts] at V;rw[<-hts] at ac;have U:O.length<=100000:=by rw[hts];simp
     simp(disch:=omega)only[go_sem,C,D,J,L,M,a0];rw[<-ay];generalize hS:(DS.mk _ K0:DS)=S;exact tail S O (by rw[<-hS];exact V) ac U (by rw[<-hS];first | rfl | simp(disch:=omega)only[go_sem,C,D,J,L,M,Gm]) (by rw[<-hS];first | rfl | simp(disch:=omega)only[go_sem,C,D,J,L,M,Gm]) (by rw[<-hS];first | rfl | simp(disch:=omega)only[go_sem,C,D,J,L,M,Gm]) (by rw[<-hS];first | rfl | simp(disch:=omega)only[go_sem,C,D,J,L,M,Gm]) (by rw[<-hS];first | rfl | simp(disch:=omega)only[go_sem,C,D,J,L,M,Gm]) (by rw[<-hS];first | rfl | simp(disch:=omega)only[go_sem,C,D,J,L,M,Gm])
    ·have a0:(0:Int)<(k:Int):=by omega
     have ac:Mo (l.take (k+1))=(Mo (l.take k)++ [Ah Fy])++Nf x:=by rw[a3 (by omega)];simp
     simp(disch:=omega)only[go_sem,C,D,J,L,M,a0];rw[<-ay];intro q0 hq0;dsimp only at hq0;simp(disch:=omega)only[go_sem,C,D,J,L,M];refine(Au4 hG Fy hq0 a4 (by omega) V).mono ?_;rintro _ K0 ⟨rfl,V⟩;obtain⟨O,hts⟩: ∃O:List Tok,O=Mo (l.take k)++ [Ah Fy]:=⟨_,rfl⟩;rw[<-hts] at V ac;have U:O.length<=100000:=by rw[hts,jC,jQ];omega
     simp(disch:=omega)only[go_sem,C,D,J,L,M];generalize hS:(DS.mk _ K0:DS)=S;exact tail S O (by rw[<-hS];exact V) ac U (by rw[<-hS];first | rfl | simp(disch:=omega)only[go_sem,C,D,J,L,M,Gm]) (by rw[<-hS];first | rfl | simp(disch:=omega)only[go_sem,C,D,J,L,M,Gm]) (by rw[<-hS];first | rfl | simp(disch:=omega)only[go_sem,C,D,J,L,M,Gm]) (by rw[<-hS];first | rfl | simp(disch:=omega)only[go_sem,C,D,J,L,M,Gm]) (by rw[<-hS];first | rfl | simp(disch:=omega)only[go_sem,C,D,J,L,M,Gm]) (by rw[<-hS];first | rfl | simp(disch:=omega)only[go_sem,C,D,J,L,M,Gm])
   case B=>
    rintro⟨E,K0⟩ O V ac U z4 z5 z7 ag ah ai;dsimp only at V z4 z5 z7 ag ah ai;have h:St B0 B0 rw O K0:=⟨V,a4,Sub.refl B0⟩;have g7:=h.g b7;have gm:=h.g bm;rcases bc with hk | hk | hk;all_goals
     refine Ak (by kernel_rfl) (.take 0 (.take 1 (.take 2 (.take 6 (.take 7 (.take 8 (.take 11 (.take 12 (.take 14 (.take 15 (.alt (.go 4 [15,12,8,2] (.alt (.go 9 [15,12,2] (.go 3 [15,12,8] (.go 5 [15,12,8] (.go 10 [15,12] (.go 13 [15] (.go 16 [] .done)))))) (.go 3 [15,12,8] (.alt (.go 9 [15,12,2] (.go 5 [15,12,8] (.go 10 [15,12] (.go 13 [15] (.go 16 [] .done))))) (.go 5 [15,12,8] (.go 9 [15,12,2] (.go 10 [15,12] (.go 13 [15] (.go 16 [] .done))))))))) (.alt (.go 9 [15,12,2] (.alt (.go 4 [15,12,8,2] (.go 3 [15,12,8] (.go 5 [15,12,8] (.go 10 [15,12] (.go 13 [15] (.go 16 [] .done)))))) (.go 3 [15,12,8] (.go 4 [15,12,8,2] (.go 5 [15,12,8] (.go 10 [15,12] (.go 13 [15] (.go 16 [] .done)))))))) (.go 3 [15,12,8] (.alt (.go 9 [15,12,2] (.go 4 [15,12,8,2] (.go 5 [15,12,8] (.go 10 [15,12] (.go 13 [15] (.go 16 [] .done)))))) (.go 4 [15,12,8,2] (.alt (.go 9 [15,12,2] (.go 5 [15,12,8] (.go 10 [15,12] (.go 13 [15] (.go 16 [] .done))))) (.go 5 [15,12,8] (.go 9 [15,12,2] (.go 10 [15,12] (.go 13 [15] (.go 16 [] .done))))))))))))))))))))) (by kernel_rfl) ?_;simp(disch:=omega)only[go_sem,g7,gm,hk,z4,z5,z7,ag,ah,ai,Bx,Ih,Ii,Ij,Fi]
     repeat'
      first
      | with_reducible apply And.intro
      |have p7:=h.g b7
       have pm:=h.g bm;first
       | with_reducible refine(h.call (Ae0 hG x.names (by omega)) (by(try simp only[jC,jA,jB,jK,jN,jP,List.length_flatMap] at U⊢)<;>omega)).mono ?_
       | with_reducible refine(h.call (Gq hG x.type o2 f1.fitx) (by(try simp only[jC,jA,jB,jK,jN,jP,List.length_flatMap] at U⊢)<;>omega)).mono ?_
       | with_reducible refine(h.call (Bf0 hG x.e o3 f2) (by(try simp only[jC,jA,jB,jK,jN,jP,List.length_flatMap] at U⊢)<;>omega)).mono ?_
       | refine(h.put hG [Sd] bd (by(try simp only[jC,jA,jB,jK,jN,jP,List.length_flatMap] at U⊢)<;>omega)).mono ?_
       | refine(h.putn hG (by(try simp only[jC,jA,jB,jK,jN,jP,List.length_flatMap] at U⊢)<;>omega)).mono ?_
       | refine(h.put hG [As7] aw (by(try simp only[jC,jA,jB,jK,jN,jP,List.length_flatMap] at U⊢)<;>omega)).mono ?_
       | refine(h.put hG [wIn,As7] ax (by(try simp only[jC,jA,jB,jK,jN,jP,List.length_flatMap] at U⊢)<;>omega)).mono ?_
       rintro _ Kw ⟨rfl,h⟩;try simp(disch:=omega)only[go_sem,p7,pm,h.g b7,h.g bm,hk,z4,z5,z7,ag,ah,ai,Bx,Ih,Ii,Ij,Fi]
      |refine⟨k+1,_,Rz.refl _,(hI _ _ _).2 ?_,by omega⟩
       simp(disch:=omega)only[go_sem,z4,z5,ag,ah,ai,ba];(repeat' apply And.intro)<;>(try first | rfl | assumption | omega);rw[ac];have hz:=(h.hw.less h.hs).less aq;simpa [Nf,Qe,hk] using hz
      |intro qa a5;dsimp only at a5
       have p7:=h.g b7;have pm:=h.g bm;obtain⟨Bw,Kw,ew,h,sw,bd⟩:=h.new a5 (.cells [.str [58]] 9);rw[ew];replace b7:=sw _ _ b7;replace bm:=sw _ _ bm;replace aw:=sw _ _ aw;replace ax:=sw _ _ ax;try simp(disch:=omega)only[go_sem,p7,pm,h.g b7,h.g bm,hk,z4,z5,z7,ag,ah,ai,Bx,Ih,Ii,Ij,Fi]
      |refine⟨_,rfl, ?_⟩
       try simp(disch:=omega)only[go_sem,h.g b7,h.g bm,hk,z4,z5,z7,ag,ah,ai,Bx,Ih,Ii,Ij,Fi]
  ·have:k=l.length:=by omega
   subst this;have av: ¬(l.length:Int)<(l.length:Int):=by omega
   rw[List.take_length] at af;have hs:=sm;obtain⟨v,be,bf⟩:=af.cell ae;have a6:=af.sub ae;simp(disch:=omega)only[go_sem,C,D,J,L,M,Gm,av];simp(disch:=omega)only[go_sem,be];exact Mh.fin (hs.trans a6) (Mh.tuple (.cons (fun w hw x hx=>Rel.lasts (El hs w) _ _ (bf w hw x hx)) (Lf.keep (hs.trans a6) _))) ⟨rfl,rfl⟩
end
end Go.Dl
