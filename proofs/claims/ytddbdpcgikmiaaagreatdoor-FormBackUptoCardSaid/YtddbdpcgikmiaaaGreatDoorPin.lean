/- The data level and the contracts of the functions that are reached (part 14). -/
import Derived.DeepKeys4
import Derived.LaidLaws
import Derived.Stop.LaidErr
import Derived.Shelf.Vars
import Derived.Test.YtddbdpcgikmiaaaGreatDoorRows
import Derived.Test.YtddbdpcgikmiaaaGreatDoorPim
set_option linter.unusedSimpArgs false
set_option linter.unusedVariables false
set_option linter.unusedSectionVars false
set_option maxHeartbeats 400000000
-- Rg
namespace Go.Dl
open Go Go.RowKit
def Am1:DataW Unit->Bool
 | .lit (.bool _)=>true
 | .lit (.int _ _)=>true
 | .lit (.string _)=>true
 | .agg ds=>litsBs ds
 |_=>false
where litsBs:List (DataW Unit)->Bool
 | []=>true
 |d::ds=>Am1 d&&litsBs ds
def Gd:DataW Unit->List Value
 | .lit (.bool b)=> [.bool b]
 | .lit (.int k n)=> [.int k n]
 | .lit (.string s)=> [.string ⟨⟨s⟩⟩]
 | .agg ds=>litCellss ds
 |_=> []
where litCellss:List (DataW Unit)->List Value
 | []=> []
 |d::ds=>Gd d++litCellss ds
theorem Cb1 {y:List (DataW Unit)}:Am1.litsBs y=true↔ ∀d∈y,Am1 d=true:=by
 induction y with
 |nil=>simp [Am1.litsBs]
 |cons d y ih=>simp [Am1.litsBs,ih]
theorem Ay5 (y:List (DataW Unit)):Gd.litCellss y=y.flatMap Gd:=by
 induction y with
 |nil=>rfl
 |cons d y ih=>simp [Gd.litCellss,ih]
theorem Dz5 {α:Type} (cs:List α) (off size:Nat->Nat): ∀(n:Nat),(∀j,j<n->off (j+1)=off j+size j)->off 0=0->off n<=cs.length->(List.range n).flatMap (λj=>(cs.drop (off j)).take (size j))=cs.take (off n)
 | 0,_,h0,_=>by simp [h0]
 |n+1,h,h0,hn=>by
  have hs:=h n (by omega);rw[List.range_succ,List.flatMap_append,Dz5 cs off size n (λj hj=>h j (by omega)) h0 (by omega),hs];simp only[List.flatMap_cons,List.flatMap_nil,jH];rw[List.take_add]
theorem Cb2 {α β:Type} (xs:List α) (g:α->List β) (f:Nat->List β) (n:Nat) (y:xs.length=n) (h: ∀(j:Nat) (x:α),xs[j]? =some x->f j=g x):(List.range n).flatMap f=xs.flatMap g:=by
 rw[List.flatMap_def,List.flatMap_def];congr 1;apply List.ext_getElem?;intro j;simp only[List.getElem?_map];by_cases hj:j<n
 ·rw[List.getElem?_eq_getElem (by omega:j<xs.length),List.getElem?_range hj];simp only[Option.map_some];rw[h j xs[j] (List.getElem?_eq_getElem (by omega))]
 ·rw[List.getElem?_eq_none (by omega:xs.length<=j),List.getElem?_eq_none (by simp;omega)];rfl
section
variable {P:Program} {w:World}
theorem Bf6 (hl:laidOutB P=true) {base:Nat} {U:Nat->Bool}: ∀(Cj:Nat) (t:TypeId) (cs:List Value) (d:DataW Unit) (V:List MemPlace),isVar P t=true->Am1 d=true->
  DataW.trod (λ_=>()) P w base U false Cj t cs=some (d,V)->cs=Gd d
 | 0,_,_,_,_,_,_,h=>by simp [DataW.trod] at h
 |Cj+1,t,cs,d,V,hv,hd,h=>by
  have ih:= @Bf6 hl base U Cj;have X:t<P.types.size:=by simp only[isVar,jF,decide_eq_true_eq] at hv;exact hv.1
  have D:=rowFine_of_laidOut hl X;simp only[rowFine,hv,Bool.not_true,Bool.false_or] at D;unfold DataW.trod at h;split at h<;>(try (simp at h;done))
  ·simp only[Option.some.injEq,Prod.mk.injEq] at h;obtain⟨rfl,rfl⟩:=h;rfl
  ·split at h
   ·rename_i hk
    obtain⟨rfl,_⟩:=hk;simp only[Option.some.injEq,Prod.mk.injEq] at h;obtain⟨rfl,rfl⟩:=h;rfl
   ·cases h
  ·split at h
   ·simp only[Option.some.injEq,Prod.mk.injEq] at h;obtain⟨rfl,rfl⟩:=h;cases hd
   ·cases h
  ·split at h
   ·simp only[Option.some.injEq,Prod.mk.injEq] at h;obtain⟨rfl,rfl⟩:=h;simp [Gd]
   ·cases h
  ·simp only[Option.some.injEq,Prod.mk.injEq] at h;obtain⟨rfl,rfl⟩:=h;cases hd
  ·simp only[Option.map_eq_some_iff,Prod.mk.injEq] at h;obtain⟨_,_,rfl,_⟩:=h;cases hd
  ·simp only[Option.some.injEq,Prod.mk.injEq] at h;obtain⟨rfl,rfl⟩:=h;cases hd
  ·dsimp only at h;split at h
   ·simp only[Option.bind_eq_some_iff,Option.map_eq_some_iff,Prod.mk.injEq] at h;obtain⟨_,_,_,_,rfl,_⟩:=h;cases hd
   ·cases h
  ·rename_i cs _ _ fs hu
   rw[hu] at D;simp only[jF,beq_iff_eq,List.all_eq_true] at D;obtain⟨⟨hf,E⟩,Y⟩:=D;split at h
   ·rename_i I
    simp only[Option.map_eq_some_iff,Prod.mk.injEq] at h;obtain⟨xs,hx,rfl,rfl⟩:=h;obtain⟨L,O⟩:=Xt hx;simp only[Am1,Cb1] at hd;have key: ∀(j:Nat) (f:Field) (x:DataW Unit×List MemPlace),fs.toList[j]? =some f->xs[j]? =some x->(cs.drop f.offset).take (P.cellsOf f.type)=Gd x.1:=by
     intro j f x W C;obtain⟨y,J,S⟩:=O j f W;rw[C] at J;cases J;exact ih _ _ x.1 x.2 (hf f (List.mem_of_getElem? W)) (hd _ (List.mem_map.2 ⟨x,List.mem_of_getElem? C,rfl⟩)) S
    have hp:=Dz5 cs (λj=>((fs.toList.take j).map λf=>P.cellsOf f.type).sum) (λj=>(fs.toList[j]?).elim 0 λf=>P.cellsOf f.type) fs.toList.length (λj hj=>by
     rw[List.take_succ_eq_append_getElem hj];simp [List.getElem?_eq_getElem hj]) (by simp) (by rw[List.take_length,I,E];omega)
    simp only[List.take_length,<-E,<-I] at hp;rw[<-hp];simp only[Gd,Ay5,List.flatMap_map];refine Cb2 xs _ _ _ L λj x C=> ?_;have Z:j<xs.length:=(List.getElem?_eq_some_iff.1 C).1;(have M:j<fs.toList.length:=by omega);have h1:=Y j (List.mem_range.2 M);rw[List.getElem?_eq_getElem M] at h1;simp only[beq_iff_eq] at h1;have h2:=key j fs.toList[j] x (List.getElem?_eq_getElem M) C;rw[h1] at h2;simp only[List.getElem?_eq_getElem M,Option.elim_some];exact h2
   ·cases h
  ·rename_i cs _ _ n e hu
   rw[hu] at D;simp only[jF,beq_iff_eq] at D;obtain⟨hf,E⟩:=D;split at h
   ·rename_i I
    simp only[Option.map_eq_some_iff,Prod.mk.injEq] at h;obtain⟨xs,hx,rfl,rfl⟩:=h;obtain⟨L,O⟩:=Xt hx;rw[List.length_range] at L;simp only[Am1,Cb1] at hd;have hp:=Dz5 cs (λj=>j*P.cellsOf e) (λ_=>P.cellsOf e) n (λj _=>Nat.succ_mul j _) (by simp) (by rw[I,E];exact Nat.le_refl _);rw[List.take_of_length_le (by rw[I,E];exact Nat.le_refl _)] at hp;rw[<-hp];simp only[Gd,Ay5,List.flatMap_map];refine Cb2 xs _ _ _ L λj x C=> ?_;have Z:j<xs.length:=(List.getElem?_eq_some_iff.1 C).1;obtain⟨y,J,S⟩:=O j j (by rw[List.getElem?_range (by omega)]);rw[C] at J;cases J;exact ih _ _ _ _ hf (hd _ (List.mem_map.2 ⟨x,List.mem_of_getElem? C,rfl⟩)) S
   ·cases h
  ·simp only[Option.some.injEq,Prod.mk.injEq] at h;obtain⟨rfl,rfl⟩:=h;cases hd
  ·split at h
   ·rename_i e;cases e
   ·simp only[Option.map_eq_some_iff,Prod.mk.injEq] at h;obtain⟨_,_,rfl,_⟩:=h;cases hd
   ·cases h
  ·simp only[Option.some.injEq,Prod.mk.injEq] at h;obtain⟨rfl,rfl⟩:=h;cases hd
  ·split at h
   ·dsimp only at h;split at h
    ·simp only[Option.bind_eq_some_iff] at h;obtain⟨_,_,h⟩:=h;split at h
     ·simp only[Option.some.injEq,Prod.mk.injEq] at h;obtain⟨rfl,rfl⟩:=h;cases hd
     ·cases h
    ·cases h
   ·cases h
  ·simp only[Option.some.injEq,Prod.mk.injEq] at h;obtain⟨rfl,rfl⟩:=h;cases hd
  ·simp only[Option.some.injEq,Prod.mk.injEq] at h;obtain⟨rfl,rfl⟩:=h;cases hd
  ·simp only[Option.some.injEq,Prod.mk.injEq] at h;obtain⟨rfl,rfl⟩:=h;cases hd
theorem Cu6: ∀ {laid:List (String×DataW Unit)} {n:String} {d:DataW Unit},laidMet P laid w->(n,d)∈laid->
  ∃g t cs Cj p,P.globalNamed n=some g/\(P.globals[g]?).map (·.type)=some t/\w.var? P n=some cs/\DataW.trod (λ_=>()) P w 0 (λ_=>true) false Cj t cs.toList=some (d,p)/\
   ∀u v,w.cell? ⟨g,0,none⟩=some (.iface u v)->0<cs.size->Value.okWide P w .any 0 u v
 | [],_,_,_,hm=>by cases hm
 |x::laid,n,d,h,hm=>by
  rcases List.mem_cons.1 hm with rfl|hm
  ·obtain⟨ps,⟨g,t,cs,Cj,p,q,h1,h2,h3,h4,h5,h6⟩,_,h8⟩:=h;refine⟨g,t,cs,Cj,p,h1,h2,h3,h4,λu v hc hz=>(h8 g 0 ?_).2 u v hc⟩;rw[h6];refine List.mem_append_left _ (List.mem_append_left _ ?_);unfold MemPlace.row;exact List.mem_map.2 ⟨0,List.mem_range.2 hz,by simp⟩
  ·exact Cu6 h.tail hm
def Hh1 (v:Value):Prop:=(∃b,v= .bool b)\/(∃k n,v= .int k n)\/ ∃s:List UInt8,v= .string ⟨⟨s⟩⟩
mutual
theorem Dk2: ∀(d:DataW Unit),Am1 d=true-> ∀v∈Gd d,Hh1 v
 | .lit (.bool b),_,v,hv=>by simp [Gd] at hv;exact .inl ⟨b,hv⟩
 | .lit (.int k n),_,v,hv=>by simp [Gd] at hv;exact .inr (.inl ⟨k,n,hv⟩)
 | .lit (.string s),_,v,hv=>by simp [Gd] at hv;exact .inr (.inr ⟨s,hv⟩)
 | .agg ds,h,v,hv=>Ck7 ds (by simpa [Am1] using h) v (by simpa [Gd] using hv)
 | .lit (.float _ _),h,_,_=>by cases h
 | .nil,h,_,_=>by cases h
 | .ptr _,h,_,_=>by cases h
 | .slice _ _,h,_,_=>by cases h
 | .iface _ _,h,_,_=>by cases h
 | .map _,h,_,_=>by cases h
 | .held _,h,_,_=>by cases h
theorem Ck7: ∀(y:List (DataW Unit)),Am1.litsBs y=true-> ∀v∈Gd.litCellss y,Hh1 v
 | [],_,v,hv=>by simp [Gd.litCellss] at hv
 |d::y,h,v,hv=>by
  simp only[Am1.litsBs,jF] at h
  simp only[Gd.litCellss,List.mem_append] at hv
  rcases hv with hv|hv
  ·exact Dk2 d h.1 v hv
  ·exact Ck7 y h.2 v hv
end
theorem Fv7 {y:Ab}: ∀(d:DataW Unit),Am1 d=true->Ar w y (Jd (Gd d)) (Gd d):=by
 have all: ∀(vs:List Value),(∀v∈vs,(∃b,v= .bool b)\/(∃k n,v= .int k n)\/ ∃s:List UInt8,v= .string ⟨⟨s⟩⟩)->Ar w y (Jd vs) vs:=by
  intro vs
  induction vs with
  |nil=>intro _;simp [Jd,Ar]
  |cons v vs ih=>
   intro h;simp only[Jd,Ar];refine⟨v,vs,rfl, ?_,ih λx hx=>h x (by simp [hx])⟩;rcases h v (by simp) with⟨b,rfl⟩|⟨k,n,rfl⟩|⟨s,rfl⟩<;>simp [Fk,Rel]
 exact λd h=>all _ (Dk2 d h)
theorem Fv8 {laid:List (String×DataW Unit)} {n:String} {d:DataW Unit} {g:Nat} (hl:laidOutB P=true) (h:laidMet P laid w) (hm:(n,d)∈laid) (y:Am1 d=true) (C:P.globalNamed n=some g)
  (D:isVar P (((P.globals[g]?).map (·.type)).getD 0)=true):Rel w (λ_=>none) (.vptr (Jd (Gd d)) 0) (.pointer (some ⟨g,0,none⟩)):=by
 obtain⟨E,t,cs,Cj,p,h1,h2,h3,h4,_⟩:=Cu6 h hm;rw[C] at h1;cases h1;rw[h2] at D;have hc:=Bf6 hl Cj t cs.toList d p D y h4;simp only[Rel];refine⟨g,0,cs.toList,rfl, ?_,by rw[hc];exact Fv7 d y⟩;refine .inr ⟨rfl,λi x hx=> ?_⟩;have:=World.var?_cell C h3 i;rw[Nat.zero_add,this];simpa using hx
end
def Xu:List MemPlace->Nat->Bool
 | [],_=>true
 | .cell b off::l,m=>decide (off<1024)&&!(m.testBit (b*1024+off))&&Xu l (m ||| 1<<<(b*1024+off))
 | .map _::_,_=>false
theorem Eh9 {m k n:Nat} (h:(m ||| 1<<<k).testBit n=false):m.testBit n=false/\n≠k:=by
 rw[Nat.testBit_or,Bool.or_eq_false_iff] at h;refine⟨h.1,λe=> ?_⟩;subst e;have:=h.2;rw[Nat.testBit_shiftLeft] at this;simp at this
theorem Ay6: ∀(l:List MemPlace) (m:Nat),Xu l m=true->l.Nodup/\ ∀p∈l,∃b off,p= .cell b off/\off<1024/\m.testBit (b*1024+off)=false
 | [],_,_=>⟨List.nodup_nil,λp hp=>by cases hp⟩
 | .map _::_,_,h=>by simp [Xu] at h
 | .cell b off::l,m,h=>by
  simp only[Xu,jF,decide_eq_true_eq,Bool.not_eq_true'] at h;obtain⟨⟨h1,h2⟩,h3⟩:=h;obtain⟨k1,y⟩:=Ay6 l _ h3;refine⟨List.nodup_cons.2 ⟨λhm=> ?_,k1⟩,λp hp=> ?_⟩
  ·obtain⟨b',C,e,_,h5⟩:=y _ hm;cases e;exact(Eh9 h5).2 rfl
  ·rcases List.mem_cons.1 hp with rfl|hp
   ·exact⟨b,off,rfl,h1,h2⟩
   ·obtain⟨b',C,e,h4,h5⟩:=y _ hp;exact⟨b',C,e,h4,(Eh9 h5).1⟩
theorem Cu7 {P:Program} {w:World} {l:List (String×DataW Unit)} (Cj:Nat) (h:(DataW.laidRun P w Cj (l.map (·.1))).map (·.1)=some l)
  (hr:(DataW.laidRun P w Cj (l.map (·.1))).map (λx=>Xu x.2 0&&laidRowsB P w x.2)=some true):laidMet P l w:=by
 cases hx:DataW.laidRun P w Cj (l.map (·.1)) with
 |none=>simp [hx] at h
 |some x=>
  obtain⟨l',ps⟩:=x;simp only[hx,Option.map_some,Option.some.injEq] at h hr;subst h;simp only[jF] at hr;exact laidMet_of_run Cj hx (decide_eq_true (Ay6 _ _ hr.1).1) hr.2
end Go.Dl
-- W2
namespace Go.Dl
open Go Go.RowKit Go.Proofs Go.Proofs.YtddbdpcgikmiaaaGreatDoor
set_option maxRecDepth 100000
theorem Ei0:laidOutB Tryz.prog=true:=by kernel_rfl
theorem Dz6 {P:Program} {w:World} {laid:List (String×DataW Unit)} {n:String} {d:DataW Unit} {g:Nat} (hl:laidOutB P=true) (h:laidMet P laid w) (hm:(n,d)∈laid) (D:Am1 d=true) (y:P.globalNamed n=some g)
  (C:isVar P (((P.globals[g]?).map (·.type)).getD 0)=true):Pn w.heap[g]? =some (Gd d).length:=by
 obtain⟨E,t,cs,Cj,p,h1,h2,h3,h4,_⟩:=Cu6 h hm;rw[y] at h1;cases h1;rw[h2] at C;have hc:=Bf6 hl Cj t cs.toList d p C D h4;unfold World.var? at h3;rw[y] at h3;simp only[Option.bind_some] at h3;split at h3
 ·rename_i c t' fz ho
  cases h3;rw[ho];simp only[Pn,Option.some.injEq];rw[<-hc,Array.length_toList]
 ·cases h3
theorem Am2: ∀l:List Value,(Jd l).length=l.length
 | []=>rfl
 |_::l=>by simp [Jd,Am2 l]
theorem Gl2:Jd (Gd Rows.laid_strings_asciiSpace)=Lib.asciiSpaceTab.map λz=>DVal.int .u8 z:=by kernel_rfl
section
end
noncomputable def Hh2 (h:Array Obj) (g:Nat) (cs:Array Value):Array Obj:=h.modify g λ
 | .cells _ t frozen=> .cells cs t frozen
 |o=>o
theorem Hh3 {laid:List (String×DataW Unit)} {W:World} (y:laidMetH Tryz.prog laid W) (hs:W.ShapedOpen Tryz.prog) (hh:(laid.filter λx=>x.2.handleName?.isSome)= [])
  (C:("strings.asciiSpace",Rows.laid_strings_asciiSpace)∈laid): ∃G,GX G/\GOk G W (λ_=>none):=by
 have D:laidMet Tryz.prog laid W:=by
  unfold laidMetH at y;rw[hh] at y;exact y
 have E:=Fv8 Ei0 D C (by kernel_rfl) (show Tryz.prog.globalNamed "strings.asciiSpace" =some 1 by kernel_rfl) (by kernel_rfl);have I:=Dz6 Ei0 D C (by kernel_rfl) (show Tryz.prog.globalNamed "strings.asciiSpace" =some 1 by kernel_rfl) (by kernel_rfl);refine⟨λg=>if g=1 then .vptr (Jd (Gd Rows.laid_strings_asciiSpace)) 0 else .optr g 0,⟨by simp [Gl2]⟩,⟨λg=> ?_,λg cs e=> ?_⟩⟩
 ·show Rel W _ (if g=_ then _ else _) _;split
  ·rename_i e;subst e;exact E
  ·simp [Rel]
 ·change (if g=_ then _ else _)=_ at e;split at e
  ·rename_i e';subst e';cases e;rw[I,Am2]
  ·cases e
noncomputable def Cu8 (os:Os):World:=
 let N:=(World.settled Tryz.prog os).heap.size
 let w0:=World.holding Tryz.prog os ⟨#[.cells #[.slice (some ⟨N+1,0,none⟩) 7 7,.slice none 0 0,.int .i64 2] 344,
  .cells (#[9,13,1,32,133,101,160,5760,5600,8192,8202,1,8232,8233,1,8239,8287,48,12288,12288,1].map (Value.int .u16)) 347], #[],[]⟩
 let h9:=Hh2 w0.heap 1 (Gd Rows.laid_strings_asciiSpace).toArray
 let ha:=Hh2 h9 2 #[.pointer (some ⟨N,0,none⟩)]
 { w0 with heap:=ha }
def Am3:Array Value:= #[.int .u8 0,.int .u8 0,.int .i64 0,.string ⟨#[]⟩,.slice none 0 0,.slice none 0 0,.int .i64 0,.int .i64 0,.int .i64 0]
def Hb1 {H:Type}:List (DataW H):= [.lit (.int .u8 0),.lit (.int .u8 0),.lit (.int .i64 0),.lit (.string []),.nil,.nil,.lit (.int .i64 0),.lit (.int .i64 0),.lit (.int .i64 0)]
section
end
end Go.Dl
-- C3
namespace Go.Dl
open Go Go.RowKit
def Hh4:Array Value:=Am3++Am3++Am3++Am3
def Hh5:Array Value:=Am3++Am3++Am3
def Hj9:Array Value:= #[.int .u8 0,.slice none 0 0]++Am3++Am3++Hh4++Hh5++ #[.slice none 0 0,.string ⟨#[]⟩,.slice none 0 0,.bool false]
def Gl3:Array Value:=Am3++Hh4++Hh5++ #[.slice none 0 0,.slice none 0 0,.slice none 0 0]++Hj9
def Cd8 {H:Type}:DataW H:= .agg Hb1
def Go9 {H:Type}:DataW H:= .agg [Cd8,Cd8,Cd8,Cd8]
def Gp0 {H:Type}:DataW H:= .agg [Cd8,Cd8,Cd8]
def Hh6 {H:Type}:DataW H:= .agg [.lit (.int .u8 0),.nil,Cd8,Cd8,Go9,Gp0,.nil,.lit (.string []),.nil,.lit (.bool false)]
def Hh7 {H:Type}:List (DataW H):= [Cd8,Go9,Gp0,.nil,.nil,.nil,Hh6]
end Go.Dl
