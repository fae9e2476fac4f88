/- The data level and the contracts of the functions that are reached (part 9). -/
import Derived.Test.YtddbdpcgikmiaaaGreatDoorPgh
set_option linter.unusedSimpArgs false
set_option linter.unusedVariables false
set_option linter.unusedSectionVars false
-- Sc
namespace Go.Dl
open Go Go.Proofs Go.RowKit
set_option maxRecDepth 100000
def Ba5 (w:List UInt8):Int:=match Bx1 w with | some v=>(v:Int) | none=> -1
theorem Ek9 {w:List UInt8} (h: ¬w.length<=10):Ba5 w= -1:=by rw[Ba5,Bx1,if_neg (fun x=>h x.1)]
theorem Ff0 {w:List UInt8} (h:w.all Gu=false):Ba5 w= -1:=by rw[Ba5,Bx1,if_neg (fun x=>by rw[h] at x;cases x.2.1)]
theorem Ff1 {w:List UInt8} (h: ¬Vx w<=2147483647):Ba5 w= -1:=by rw[Ba5,Bx1,if_neg (fun x=>h x.2.2)]
theorem Fx4 {w:List UInt8} (h1:w.length<=10) (h2:w.all Gu=true) (h3:Vx w<=2147483647):Ba5 w=(Vx w:Int):=by rw[Ba5,Bx1,if_pos ⟨h1,h2,h3⟩]
theorem El0 (s:List UInt8):s.take (Fl s).length=Fl s:=(List.prefix_iff_eq_take.1 (List.takeWhile_prefix _)).symm
def As4 (s w:List UInt8):Bool:=decide (w.length<=s.length)&&decide (s.take w.length=w)
theorem Ff2 {k:Nat} {w:List UInt8} (h:Wq[k]? =some w):(k<7/\ ∃p∈Wo,w= [p.1,p.2])\/(7<=k/\ ∃a∈Ap8,w= [a]):=by
 have e:Wq=Wo.map (fun p=> [p.1,p.2])++Ap8.map (fun a=> [a]):=by decide
 rw[e,List.getElem?_append] at h;split at h
 ·rename_i hk
  rw[List.getElem?_map,Option.map_eq_some_iff] at h;obtain⟨p,hp,rfl⟩:=h;exact .inl ⟨hk,p,List.mem_of_getElem? hp,rfl⟩
 ·rename_i hk
  rw[List.getElem?_map,Option.map_eq_some_iff] at h;obtain⟨a,ha,rfl⟩:=h;exact .inr ⟨by simpa [Wo] using hk,a,List.mem_of_getElem? ha,rfl⟩
theorem Cy0 {k:Nat} (hk:7<=k): ∀p∈Wo,[p.1,p.2]∈Wq.take k:=fun p hp=>by
 have h7: ∀p∈Wo,[p.1,p.2]∈Wq.take 7:=by decide+kernel
 exact(List.take_sublist_take_left (l:=Wq) hk).subset (h7 p hp)
theorem Gu8 {a b:UInt8} {r:List UInt8}:As4 (a::b::r) [a,b]=true:=by
 rw[As4,jF,decide_eq_true_eq,decide_eq_true_eq];exact⟨by simp,rfl⟩
theorem Fx5 {s w:List UInt8} {k:Nat} (hk:Wq[k]? =some w) (hp:As4 s w=true) (C: ∀u∈Wq.take k,As4 s u=false):Uq s=w.length:=by
 rw[As4,jF,decide_eq_true_eq,decide_eq_true_eq] at hp
 obtain⟨h1,h2⟩:=hp
 rcases Ff2 hk with⟨_,p,hp,rfl⟩ | ⟨h7,a,ha,rfl⟩
 ·match s,h1,h2 with
  | a::b::r,_,h2=>
   have e: [a,b]= [p.1,p.2]:=h2
   cases e
   show(if(p.1,p.2)∈Wo then 2 else _)=2
   rw[if_pos hp]
 ·match s,h1,h2 with
  | x::r,_,h2=>
   have e: [x]= [a]:=h2
   cases e
   rw[Ca2 a r (fun b r' e hm=>by
    subst e
    have:=C _ (Cy0 h7 _ hm)
    rw[Gu8] at this;cases this),if_pos ha];rfl
theorem Ff3 {s:List UInt8} (C: ∀u∈Wq,As4 s u=false):Uq s=0:=by
 match s with
 | []=>rfl
 | x::r=>
  rw[Ca2 x r (fun b r' e hm=>by
   subst e
   have:=C _ (List.mem_of_mem_take (Cy0 (Nat.le_refl 7) _ hm))
   rw[Gu8] at this;cases this),if_neg]
  intro hx
  have h1: ∀a∈Ap8,[a]∈Wq:=by decide+kernel
  have:=C _ (h1 x hx)
  simp [As4] at this
section
variable {G:Nat->DVal} {H:Ac}
theorem Cy1 (G:Nat->DVal) (H:Ac) (s:List UInt8) (hs:s.length<=1000000000):Ag Tryz.prog G 244 [.str s] H (Ax (dI (Fl s).length) H):=by
 refine Ab Tryz.func244 Tryz.call244 rfl (by kernel_rfl) ?_;simp(disch:=omega)only[go_sem];obtain⟨I,E⟩: ∃I:Nat->(Nat->DVal)->Ac->Prop,∀k env heap,I k env heap↔(env 0= .str s/\env 3=dI k/\k<=s.length/\(s.take k).all Ew=true/\heap=H):=⟨_,fun _ _ _=>Iff.rfl⟩;refine Dr7.run I (fun k=>s.length-k) 0 ((E _ _ _).2 ?_) ?_
 ·simp(disch:=omega)only[go_sem];(repeat' apply And.intro)<;>(try first | rfl | assumption | omega)
 ·intro k env heap hi;obtain⟨C,D,hk,hw,rfl⟩:=(E _ _ _).1 hi;by_cases J:k<s.length
  ·have L:(k:Int)<(s.length:Int):=by omega
   have hg:s[k]? =some s[k]:=List.getElem?_eq_getElem J;have M:IntKind.i64.wrap ((k:Int)+1)=((k+1:Nat):Int):=by rw[IntKind.wrap_i64];omega
   simp(disch:=omega)only[go_sem,C,D,L,hg,jD];refine(Bm1 G _ s[k]).mono ?_;rintro _ H1 ⟨rfl,rfl⟩;cases hb:Ew s[k] with
   | true=>
    simp(disch:=omega)only[go_sem,C,D];refine⟨k+1,_,Rz.refl _,(E _ _ _).2 ?_,by omega⟩;simp(disch:=omega)only[go_sem,C,D,M];(repeat' apply And.intro)<;>(try first | rfl | assumption | omega);rw[List.take_add_one,hg,List.all_append,hw];simpa using hb
   | false=>
    simp(disch:=omega)only[go_sem,C,D];exact Fa.refl ⟨by rw[Dt3 hw hg hb,List.length_take,Nat.min_eq_left (by omega)],rfl⟩
  ·have:k=s.length:=by omega
   subst this;simp(disch:=omega)only[go_sem,C,D];rw[List.take_length] at hw;exact Fa.refl ⟨by rw[Aq1 s hw],rfl⟩
theorem El1 (G:Nat->DVal) (H:Ac) (w:List UInt8):Ag Tryz.prog G 246 [.str w] H (Ax (dI (Ba5 w)) H):=by
 refine Ab Tryz.func246 Tryz.call246 rfl (by kernel_rfl) ?_;by_cases hl:w.length<=10
 ·have J: ¬(10:Int)<(w.length:Int):=by omega
  simp(disch:=omega)only[go_sem,J];obtain⟨I,L⟩: ∃I:Nat->(Nat->DVal)->Ac->Prop,∀k env heap,I k env heap↔(env 0= .str w/\env 3=dI (Vx (w.take k))/\env 4=dI k/\k<=w.length/\(w.take k).all Gu=true/\Vx (w.take k)<10^k/\heap=H):=⟨_,fun _ _ _=>Iff.rfl⟩;refine Dr7.run I (fun k=>w.length-k) 0 ((L _ _ _).2 ?_) ?_
  ·simp(disch:=omega)only[go_sem];(repeat' apply And.intro)<;>(try first | rfl | assumption | omega);decide
  ·intro k env heap hi;obtain⟨D,C,E,hk,hw,hv,rfl⟩:=(L _ _ _).1 hi;have W:10^k<=10^10:=Nat.pow_le_pow_right (by omega) (by omega);have Z:Vx (w.take k)<10000000000:=Nat.lt_of_lt_of_le hv W;by_cases O:k<w.length
   ·have S:(k:Int)<(w.length:Int):=by omega
    have hg:w[k]? =some w[k]:=List.getElem?_eq_getElem O;have X:IntKind.i64.wrap ((k:Int)+1)=((k+1:Nat):Int):=by rw[IntKind.wrap_i64];omega
    simp(disch:=omega)only[go_sem,D,C,E,S,hg,jD];refine(Ab4 G _ w[k]).mono ?_;rintro _ H1 ⟨rfl,rfl⟩;cases hb:Gu w[k] with
    | true=>
     have hd:=(Eg3 w[k]).1 hb;have U:w.take (k+1)=w.take k++ [w[k]]:=by rw[List.take_add_one,hg];rfl
     have V:Vx (w.take (k+1))=10*Vx (w.take k)+(w[k].toNat-48):=by rw[U,Eg1]
     have aa:(w.take (k+1)).all Gu=true:=by rw[U,List.all_append,hw];simpa using hb
     have ab:Vx (w.take (k+1))<10^(k+1):=by rw[V,Nat.pow_succ];omega
     have w1:IntKind.i64.wrap (10*(Vx (w.take k):Int))=10*(Vx (w.take k):Int):=by rw[IntKind.wrap_i64];omega
     have w2:IntKind.u8.wrap ((w[k].toNat:Int)-48)=(w[k].toNat:Int)-48:=by rw[IntKind.wrap_u8];omega
     have w3:IntKind.i64.wrap ((w[k].toNat:Int)-48)=(w[k].toNat:Int)-48:=by rw[IntKind.wrap_i64];omega
     have Y:IntKind.i64.wrap (10*(Vx (w.take k):Int)+((w[k].toNat:Int)-48))=(Vx (w.take (k+1)):Int):=by rw[IntKind.wrap_i64,V];omega
     simp(disch:=omega)only[go_sem,D,C,E,S,hg,jD,w1,w2,w3,Y];refine⟨k+1,_,Rz.refl _,(L _ _ _).2 ?_,by omega⟩;simp(disch:=omega)only[go_sem,D,C,E,X];(repeat' apply And.intro)<;>(try first | rfl | assumption | omega)
    | false=>
     simp(disch:=omega)only[go_sem,D,C];refine Fa.refl ⟨?_,rfl⟩;rw[Ff0 (List.all_eq_false.2 ⟨w[k],List.getElem_mem O,by rw[hb];simp⟩)]
   ·have:k=w.length:=by omega
    subst this;rw[List.take_length] at hw hv C;by_cases hb:2147483647<Vx w
    ·have M:(2147483647:Int)<(Vx w:Int):=by omega
     simp(disch:=omega)only[go_sem,D,C,E,M];exact Fa.refl ⟨by rw[Ff1 (by omega)],rfl⟩
    ·have M: ¬(2147483647:Int)<(Vx w:Int):=by omega
     simp(disch:=omega)only[go_sem,D,C,E,M];exact Fa.refl ⟨by rw[Fx4 hl hw (by omega)],rfl⟩
 ·have J:(10:Int)<(w.length:Int):=by omega
  simp(disch:=omega)only[go_sem,J];exact Fa.refl ⟨by rw[Ek9 hl],rfl⟩
theorem El2 (G:Nat->DVal) (H:Ac) (s:List UInt8) (hs:s.length<=1000000000):Ag Tryz.prog G 247 [.str s] H (Ax (dI (Uq s)) H):=by
 refine Ab Tryz.func247 Tryz.call247 rfl (by kernel_rfl) ?_;simp(disch:=omega)only[go_sem];refine(Bm2 G _).mono ?_;rintro _ H1 ⟨rfl,rfl⟩;simp(disch:=omega)only[go_sem,Ah8];obtain⟨l,hl⟩: ∃l,l=Wq:=⟨_,rfl⟩;rw[<-hl];have W:l.length=22:=by rw[hl];rfl
 obtain⟨I,M⟩: ∃I:Nat->(Nat->DVal)->Ac->Prop,∀k env heap,I k env heap↔(env 0= .str s/\env 3= .vslice (l.map .str) l.length/\env 4=dI k/\k<=l.length/\(∀u∈l.take k,As4 s u=false)/\heap=H1):=⟨_,fun _ _ _=>Iff.rfl⟩;refine Dr7.run I (fun k=>l.length-k) 0 ((M _ _ _).2 ?_) ?_
 ·simp(disch:=omega)only[go_sem];(repeat' apply And.intro)<;>(try first | rfl | assumption | omega);intro u hu;simp at hu
 ·intro k env heap hi;obtain⟨D,E,J,hk,L,rfl⟩:=(M _ _ _).1 hi;by_cases C:k<l.length
  ·have O:(k:Int)<(l.length:Int):=by omega
   have hg:(l.map DVal.str)[k]? =some (.str l[k]):=by rw[List.getElem?_map,List.getElem?_eq_getElem C];rfl
   have V:IntKind.i64.wrap ((k:Int)+1)=((k+1:Nat):Int):=by rw[IntKind.wrap_i64];omega
   have U:As4 s l[k]=(decide (l[k].length<=s.length)&&decide (s.take l[k].length=l[k])):=rfl;simp(disch:=omega)only[go_sem,D,E,J,O,C,hg,jD];refine Ak (by kernel_rfl) (.take 0 (.take 1 (.take 2 (.take 3 (.take 4 (.take 5 (.take 6 (.take 7 (.take 8 (.take 9 (.take 10 (.take 11 (.take 12 (.take 13 .done)))))))))))))) (by kernel_rfl) ?_;by_cases h1:l[k].length<=s.length
   ·have S:(l[k].length:Int)<=(s.length:Int):=by omega
    by_cases h2:s.take l[k].length=l[k]
    ·have hh:As4 s l[k]=true:=by rw[U,decide_eq_true h1,decide_eq_true h2];rfl
     simp(disch:=omega)only[go_sem,D,E,J,O,C,hg,S,h2,jD];refine Fa.refl ⟨?_,rfl⟩;rw[Fx5 (k:=k) (w:=l[k]) (by rw[<-hl];exact List.getElem?_eq_getElem C) hh (by rw[<-hl];exact L)]
    ·have hh:As4 s l[k]=false:=by rw[U,decide_eq_false h2,Bool.and_false]
     simp(disch:=omega)only[go_sem,D,E,J,O,C,hg,S,h2,jD];refine⟨k+1,_,Rz.refl _,(M _ _ _).2 ?_,by omega⟩;simp(disch:=omega)only[go_sem,D,E,J,V];(repeat' apply And.intro)<;>(try first | rfl | assumption | omega);exact On (p:=fun x=>As4 s x=false) C L hh
   ·have S: ¬(l[k].length:Int)<=(s.length:Int):=by omega
    have hh:As4 s l[k]=false:=by rw[U,decide_eq_false h1,jT]
    simp(disch:=omega)only[go_sem,D,E,J,O,C,hg,S,jD];refine⟨k+1,_,Rz.refl _,(M _ _ _).2 ?_,by omega⟩;simp(disch:=omega)only[go_sem,D,E,J,V];(repeat' apply And.intro)<;>(try first | rfl | assumption | omega);exact On (p:=fun x=>As4 s x=false) C L hh
  ·have:k=l.length:=by omega
   subst this;simp(disch:=omega)only[go_sem,D,E,J];rw[List.take_length] at L;refine Fa.refl ⟨?_,rfl⟩;rw[Ff3 (by rw[<-hl];exact L)];rfl
theorem Br8 (G:Nat->DVal) (H:Ac) (c:UInt8) (r:List UInt8) (hs:(c::r).length<=1000000000):Ag Tryz.prog G 163 [.str (c::r)] H (Ax (Bm0 (Fb (c::r))) H):=by
 have h0:(c::r)[0]? =some c:=rfl
 have M:=Ds8 (c::r)
 have E:(c::r).take ((Fl (c::r)).length-0)=Fl (c::r):=El0 (c::r)
 have I:((Fl (c::r)).length:Int)<=((c::r).length:Int):=by omega
 refine Ab Tryz.func163 Tryz.call163 rfl (by kernel_rfl) ?_
 simp(disch:=omega)only[go_sem]
 intro D C;dsimp only at C
 simp(disch:=omega)only[go_sem]
 refine(Cy1 G _ (c::r) hs).mono ?_
 rintro _ H1 ⟨rfl,rfl⟩
 simp(disch:=omega)only[go_sem,h0]
 refine(Xy G _ c).mono ?_
 rintro _ H1 ⟨rfl,rfl⟩
 generalize hw:Fl (c::r)=w at M E I
 cases hle:Gi c with
 | true=>
  simp(disch:=omega)only[go_sem,h0,I,E]
  refine(Ax3 G _ w).mono ?_
  rintro _ H1 ⟨rfl,rfl⟩
  cases hk:Up w with
  | true=>
   simp(disch:=omega)only[go_sem,h0,DVal.cells]
   exact Fa.dropA D C (Fa.refl ⟨by rw[Tx,hw,hle,if_pos rfl,hk,if_pos rfl];rfl,rfl⟩)
  | false=>
   simp(disch:=omega)only[go_sem,h0]
   refine(Bm3 G _ w).mono ?_
   rintro _ H1 ⟨rfl,rfl⟩
   cases hn:Nv w with
   | true=>
    simp(disch:=omega)only[go_sem,h0,DVal.cells]
    exact Fa.dropA D C (Fa.refl ⟨by rw[Tx,hw,hle,if_pos rfl,hk,if_neg (by simp),hn,if_pos rfl];rfl,rfl⟩)
   | false=>
    simp(disch:=omega)only[go_sem,h0,DVal.cells]
    exact Fa.dropA D C (Fa.refl ⟨by rw[Tx,hw,hle,if_pos rfl,hk,if_neg (by simp),hn,if_neg (by simp)];rfl,rfl⟩)
 | false=>
  simp(disch:=omega)only[go_sem,h0]
  refine(Ab4 G _ c).mono ?_
  rintro _ H1 ⟨rfl,rfl⟩
  cases hd:Gu c with
  | true=>
   have L:Fb (c::r)=match Bx1 w with | some v=>(⟨3,0,[],v⟩,w.length) | none=>(Ap9,0):=by
    rw[Tx,hw,hle,if_neg (by simp),hd,if_pos rfl];cases Bx1 w<;>rfl
   simp(disch:=omega)only[go_sem,h0,I,E]
   refine(El1 G _ w).mono ?_
   rintro _ H1 ⟨rfl,rfl⟩
   cases hv:Bx1 w with
   | some v=>
    have J:Ba5 w=(v:Int):=by rw[Ba5,hv]
    have O: ¬(v:Int)<0:=by omega
    simp(disch:=omega)only[go_sem,J,O,DVal.cells]
    exact Fa.dropA D C (Fa.refl ⟨by rw[L,hv];rfl,rfl⟩)
   | none=>
    have J:Ba5 w= -1:=by rw[Ba5,hv]
    simp(disch:=omega)only[go_sem,J,DVal.cells]
    exact Fa.dropA D C (Fa.refl ⟨by rw[L,hv];rfl,rfl⟩)
  | false=>
   have U:=Dh9 (c::r)
   have S:(Uq (c::r):Int)<=((c::r).length:Int):=by omega
   simp(disch:=omega)only[go_sem]
   refine(El2 G _ (c::r) hs).mono ?_
   rintro _ H1 ⟨rfl,rfl⟩
   simp(disch:=omega)only[go_sem,h0,DVal.cells,S]
   exact Fa.dropA D C (Fa.refl ⟨by rw[Tx,hle,if_neg (by simp),hd,if_neg (by simp)];simp [Bm0,Cq],rfl⟩)
end
theorem Fx6 {c d:UInt8} {r C:List UInt8} (D:d≠45) (h:r=d::C):Qb (c::r)=false:=by
 subst h;unfold Qb;split
 ·rename_i e;simp at e;exact absurd e.2.1 D
 ·rfl
theorem Fx7 {c:UInt8} {r:List UInt8} (h:r= []):Qb (c::r)=false:=by
 subst h;unfold Qb;split
 ·rename_i e;simp at e
 ·rfl
set_option maxHeartbeats 4000000 in
theorem Ck2 (G:Nat->DVal) (H:Ac) (C:List UInt8) (hs:C.length<=1000000000):Ag Tryz.prog G 57 [.str C] H (Ax (.tuple [Bl (Ck C).1,dI (Ck C).2.1,dI (Ck C).2.2]) H):=by
 refine Ab Tryz.func57 Tryz.call57 rfl (by kernel_rfl) ?_
 by_cases hl:65536<C.length
 ·have ay:(65536:Int)<(C.length:Int):=by omega
  simp(disch:=omega)only[go_sem,ay,jH]
  refine Fa.ghost (Mw (H:=H) (Sub.refl H) [dI 0,dI 3] rfl) (Fa.refl ⟨?_,rfl⟩)
  rw[Ck,if_pos hl]
 have ay: ¬(65536:Int)<(C.length:Int):=by omega
 simp(disch:=omega)only[go_sem,ay]
 obtain⟨I,Y⟩: ∃I:Nat×Nat×List Tok->(Nat->DVal)->Ac->Prop,∀V env heap,I V env heap↔(env 0= .str C/\env 6=dI V.2.1/\env 7=dI V.1/\V.1<=C.length/\V.2.1<=V.1+1/\V.2.2.length<=8192/\Mc (C.drop V.1) V.2.1 V.2.2=Ck C/\Jw H 31 4 V.2.2.length (V.2.2.flatMap Cq) (env 5) heap):=⟨_,fun _ _ _=>Iff.rfl⟩
 refine Dr7.run I (fun V=>C.length-V.1) (0,1,[]) ((Y _ _ _).2 ?_) ?_
 ·simp(disch:=omega)only[go_sem]
  (repeat' apply And.intro)<;>(try first | rfl | assumption | omega)
  ·exact(Ct3 (by omega)).symm
  ·exact Jw.nil _ _ (Sub.refl _)
 ·rintro⟨k,E,ts⟩ env hp hi
  obtain⟨S,L,M,hk,bf,hts,hr,hv⟩:=(Y _ _ _).1 hi
  dsimp only at L M hk bf hts hr hv
  obtain⟨v,D⟩: ∃v,env 5=v:=⟨_,rfl⟩
  rw[D] at hv
  by_cases a8:k<C.length
  ·have ad:(k:Int)<(C.length:Int):=by omega
   have a0:(k:Int)<=(C.length:Int):=by omega
   obtain⟨c,hc⟩: ∃c,c=C[k]:=⟨_,rfl⟩
   have hg:C[k]? =some c:=by rw[hc];exact List.getElem?_eq_getElem a8
   have hd:C.drop k=c::C.drop (k+1):=by rw[hc];exact List.drop_eq_getElem_cons a8
   have a1:(C.drop k).take (C.length-k)=c::C.drop (k+1):=by rw[<-hd];exact List.take_of_length_le (by rw[List.length_drop];exact Nat.le_refl _)
   have ae:IntKind.i64.wrap ((k:Int)+1)=((k+1:Nat):Int):=by rw[IntKind.wrap_i64];omega
   have a9:IntKind.i64.wrap ((E:Int)+1)=((E+1:Nat):Int):=by rw[IntKind.wrap_i64];omega
   by_cases af:c=10
   ·have ab:(c.toNat:Int)=10:=by rw[af];rfl
    simp(disch:=omega)only[go_sem,S,D,L,M,ad,hg,ab,jD]
    refine⟨(k+1,E+1,ts),_,Rz.refl _,(Y _ _ _).2 ?_,by dsimp only;omega⟩
    simp(disch:=omega)only[go_sem,S,D,L,M,ae,a9]
    (repeat' apply And.intro)<;>(try first | rfl | assumption | omega)
    rw[<-hr,hd,af,Fu4]
   have ab: ¬(c.toNat:Int)=10:=Tv (d:=10) af
   by_cases ag:c=32
   ·have ah:(c.toNat:Int)=32:=by rw[ag];rfl
    simp(disch:=omega)only[go_sem,S,D,L,M,ad,hg,ab,ah,jD]
    refine⟨(k+1,E,ts),_,Rz.refl _,(Y _ _ _).2 ?_,by dsimp only;omega⟩
    simp(disch:=omega)only[go_sem,S,D,L,M,ae,a9]
    (repeat' apply And.intro)<;>(try first | rfl | assumption | omega)
    rw[<-hr,hd,ag,Fu5]
   have ah: ¬(c.toNat:Int)=32:=Tv (d:=32) ag
   by_cases ba:k+1<C.length
   ·have ai:((k+1:Nat):Int)<(C.length:Int):=by omega
    have ap:C.drop (k+1)=C[k+1]::C.drop (k+2):=List.drop_eq_getElem_cons ba
    have a2:C[k+1]? =some C[k+1]:=List.getElem?_eq_getElem ba
    by_cases aq:c=45
    ·have ar:(c.toNat:Int)=45:=by rw[aq];rfl
     by_cases au:C[k+1]=45
     ·have a3:(C[k+1].toNat:Int)=45:=by rw[au];rfl
      have bb:C.drop k=45::45::C.drop (k+2):=by rw[hd,ap,aq,au]
      obtain⟨h,t,bc,av,hok⟩:=Ez1 (C.drop (k+2)) E ts
      rw[<-bb] at bc av hok
      rw[hr] at av hok
      obtain⟨p1,p2,_⟩:=Ab3 bc
      have bg: ∃q,C.drop k=h++q/\(q= []\/ ∃q',q=10::q'):=by
       rcases p2 with⟨_,e⟩ | ⟨_,e⟩
       ·exact⟨[],by rw[e,jH], .inl rfl⟩
       ·exact⟨_,e, .inr ⟨_,rfl⟩⟩
      obtain⟨q,hq,bd⟩:=bg
      have bl:0<h.length:=by
       match h,hq with
       | [],hq=>
        rw[bb] at hq
        rcases bd with rfl | ⟨q',rfl⟩
        ·cases hq
        ·have:=(List.cons.inj hq).1;exact absurd this (by decide)
       | x::h,_=>simp
      have be:k+h.length+q.length=C.length:=by
       have:=congrArg List.length hq
       rw[List.length_drop,jC] at this;omega
      have bh: ∀j (hj:j<h.length),C[k+j]? =some h[j]:=fun j hj=>by
       rw[<-List.getElem?_drop,hq,List.getElem?_append_left hj,List.getElem?_eq_getElem hj]
      have bi:C[k+h.length]? =q[0]? :=by
       rw[<-List.getElem?_drop,hq,List.getElem?_append_right (Nat.le_refl _),Nat.sub_self]
      simp(disch:=omega)only[go_sem,S,D,L,M,ad,hg,ab,ah,ae,ai,a2,ar,a3,jD]
      obtain⟨J,hJ⟩: ∃J:Nat->(Nat->DVal)->Ac->Prop,∀j env heap,J j env heap↔(env 0= .str C/\env 5=v/\env 6=dI E/\env 7=dI ((k+j:Nat):Int)/\j<=h.length/\Qs (h.take j)=true/\heap=hp):=⟨_,fun _ _ _=>Iff.rfl⟩
      refine Dr7.run J (fun j=>h.length-j) 0 ((hJ _ _ _).2 ?_) ?_
      ·simp(disch:=omega)only[go_sem,S,D,L,M,Nat.add_zero]
       (repeat' apply And.intro)<;>(try first | rfl | assumption | omega)
      ·intro j env' bm bj
       obtain⟨Z,f5,f6,f7,hj,hpl,rfl⟩:=(hJ _ _ _).1 bj
       by_cases aw:j<h.length
       ·have ac:((k+j:Nat):Int)<(C.length:Int):=by omega
        have a4:=bh j aw
        have a5: ¬(h[j].toNat:Int)=10:=Tv (d:=10) fun e=>p1 (by rw[<-e];exact List.getElem_mem aw)
        have bk:IntKind.i64.wrap (((k+j:Nat):Int)+1)=((k+(j+1):Nat):Int):=by rw[IntKind.wrap_i64];omega
        have hb: ¬(32<=h[j].toNat/\h[j].toNat<=126)->Qs h=false:=fun x=>by
         rw[Qs,List.all_eq_false]
         refine⟨h[j],List.getElem_mem aw, ?_⟩
         simp only[jF,decide_eq_true_eq];exact x
        by_cases h1:h[j].toNat<32
        ·have ax:(h[j].toNat:Int)<32:=by omega
         simp(disch:=omega)only[go_sem,Z,f5,f6,f7,ac,a4,a5,ax,jD]
         refine Fa.ghost (Mw (H:=H) hv.sub [dI E,dI 20] rfl) (Fa.refl ⟨?_,rfl⟩)
         rw[av (hb (by omega))]
        ·have ax: ¬(h[j].toNat:Int)<32:=by omega
         by_cases h2:126<h[j].toNat
         ·have a6:(126:Int)<(h[j].toNat:Int):=by omega
          simp(disch:=omega)only[go_sem,Z,f5,f6,f7,ac,a4,a5,ax,a6,jD]
          refine Fa.ghost (Mw (H:=H) hv.sub [dI E,dI 20] rfl) (Fa.refl ⟨?_,rfl⟩)
          rw[av (hb (by omega))]
         ·have a6: ¬(126:Int)<(h[j].toNat:Int):=by omega
          simp(disch:=omega)only[go_sem,Z,f5,f6,f7,ac,a4,a5,ax,a6,jD]
          refine⟨j+1,_,Rz.refl _,(hJ _ _ _).2 ?_,by omega⟩
          simp(disch:=omega)only[go_sem,Z,f5,f6,f7,bk]
          (repeat' apply And.intro)<;>(try first | rfl | assumption | omega)
          rw[List.take_add_one,List.getElem?_eq_getElem aw,Ef9,hpl]
          simp [Qs];omega
       ·have:j=h.length:=by omega
        subst this
        rw[List.take_length] at hpl
        have a7:=hok hpl
        rw[List.drop_drop] at a7
        rcases bd with rfl | ⟨q',rfl⟩
        ·have ac: ¬((k+h.length:Nat):Int)<(C.length:Int):=by simp at be;omega
         simp(disch:=omega)only[go_sem,Z,f5,f6,f7,ac]
         refine⟨(k+h.length,E,ts),_,Rz.refl _,(Y _ _ _).2 ?_,by dsimp only;omega⟩
         simp(disch:=omega)only[go_sem,Z,f5,f6,f7]
         (repeat' apply And.intro)<;>(try first | rfl | assumption | omega)
         exact a7.symm
        ·have ac:((k+h.length:Nat):Int)<(C.length:Int):=by simp at be;omega
         simp(disch:=omega)only[go_sem,Z,f5,f6,f7,ac,bi,List.getElem?_cons_zero,jD]
         refine⟨(k+h.length,E,ts),_,Rz.refl _,(Y _ _ _).2 ?_,by dsimp only;omega⟩
         simp(disch:=omega)only[go_sem,Z,f5,f6,f7]
         (repeat' apply And.intro)<;>(try first | rfl | assumption | omega)
         exact a7.symm
     ·have a3: ¬(C[k+1].toNat:Int)=45:=Tv (d:=45) au
      ·have aj:Qb (c::C.drop (k+1))=false:=Fx6 au ap
       simp(disch:=omega)only[go_sem,S,D,L,M,ad,hg,ab,ah,ai,a2,ar,a3,jD,a1,a0,ae]
       refine(Br8 G _ c (C.drop (k+1)) (by rw[<-hd,List.length_drop];omega)).mono ?_
       rintro _ H1 ⟨rfl,rfl⟩
       have O:=Bl9 E ts af ag aj
       have hfl:=Aq0 (c::C.drop (k+1))
       rw[<-hd,List.length_drop] at hfl
       rw[<-hd,hr] at O
       rw[<-hd]
       generalize hf:Fb (C.drop k)=tn at O hfl
       obtain⟨T,n⟩:=tn
       dsimp only at O hfl
       simp(disch:=omega)only[go_sem,Bm0,DVal.cells,S,D,L,M]
       intro r8 U;dsimp only at U
       have ak:=hv.frame U (.cells (Cq { T with line:=(E:Int) }) 31)
       by_cases hn:n=0
       ·have W:(n:Int)=0:=by omega
        rw[if_pos hn] at O
        simp(disch:=omega)only[go_sem,S,D,L,M,W,Ao,Cr,Oa,Jh,jH]
        refine Fa.ghost (Mw (H:=H) (hv.new U _).sub [dI E,dI 20] rfl) (Fa.refl ⟨?_,rfl⟩)
        rw[O]
       ·have W: ¬(n:Int)=0:=by omega
        rw[if_neg hn] at O
        by_cases h8:ts.length=8192
        ·have X:(ts.length:Int)=8192:=by omega
         rw[if_pos h8] at O
         simp(disch:=omega)only[go_sem,S,D,L,M,W,hv.dLen,X,Ao,Cr,Oa,Jh,jH]
         refine Fa.ghost (Mw (H:=H) (hv.new U _).sub [dI E,dI 3] rfl) (Fa.refl ⟨?_,rfl⟩)
         rw[O]
        ·have X: ¬(ts.length:Int)=8192:=by omega
         rw[if_neg h8] at O
         have hsp:Cn (Cq T) 1 [dI (E:Int)]=Cq { T with line:=(E:Int) }:=rfl
         have al:Cd 1 [DVal.int IntKind.u8 0,DVal.int IntKind.i64 0,DVal.str [],DVal.int IntKind.i64 0]= [DVal.int IntKind.u8 0,DVal.int IntKind.i64 0,DVal.str [],DVal.int IntKind.i64 0]:=rfl
         have am:IntKind.i64.wrap ((k:Int)+(n:Int))=((k+n:Nat):Int):=by rw[IntKind.wrap_i64];omega
         simp(disch:=omega)only[go_sem,S,D,L,M,W,hv.dLen,X,Ao,Cr,Oa,Jh,jH,hsp]
         rw[al]
         simp(disch:=omega)only[go_sem,jA,jB,jE,jJ,jH,D]
         intro ns aa;dsimp only at aa
         simp(disch:=omega)only[go_sem,S,D,L,M,Ao,Cr,Oa,Jh,jH]
         refine Jw.append (m:=1) (ak.new aa _) rfl (by omega) fun v2 H3 ao=> ?_
         simp(disch:=omega)only[go_sem,S,D,L,M]
         refine⟨(k+n,E,ts++ [{ T with line:=(E:Int) }]),_,Rz.refl _,(Y _ _ _).2 ?_,by dsimp only;omega⟩
         simp(disch:=omega)only[go_sem,S,D,L,M,am]
         (repeat' apply And.intro)<;>(try first | rfl | assumption | omega)
         ·rw[jC];simp;omega
         ·rw[<-List.drop_drop,<-O]
         ·have:=ao.less ((Sub.refl H).up (hv.sub.lo U) _)
          rw[jC,List.flatMap_append]
          simpa using this
    ·have ar: ¬(c.toNat:Int)=45:=Tv (d:=45) aq
     ·have aj:Qb (c::C.drop (k+1))=false:=Gk6 _ aq
      simp(disch:=omega)only[go_sem,S,D,L,M,ad,hg,ab,ah,ai,a2,ar,jD,a1,a0,ae]
      refine(Br8 G _ c (C.drop (k+1)) (by rw[<-hd,List.length_drop];omega)).mono ?_
      rintro _ H1 ⟨rfl,rfl⟩
      have O:=Bl9 E ts af ag aj
      have hfl:=Aq0 (c::C.drop (k+1))
      rw[<-hd,List.length_drop] at hfl
      rw[<-hd,hr] at O
      rw[<-hd]
      generalize hf:Fb (C.drop k)=tn at O hfl
      obtain⟨T,n⟩:=tn
      dsimp only at O hfl
      simp(disch:=omega)only[go_sem,Bm0,DVal.cells,S,D,L,M]
      intro r8 U;dsimp only at U
      have ak:=hv.frame U (.cells (Cq { T with line:=(E:Int) }) 31)
      by_cases hn:n=0
      ·have W:(n:Int)=0:=by omega
       rw[if_pos hn] at O
       simp(disch:=omega)only[go_sem,S,D,L,M,W,Ao,Cr,Oa,Jh,jH]
       refine Fa.ghost (Mw (H:=H) (hv.new U _).sub [dI E,dI 20] rfl) (Fa.refl ⟨?_,rfl⟩)
       rw[O]
      ·have W: ¬(n:Int)=0:=by omega
       rw[if_neg hn] at O
       by_cases h8:ts.length=8192
       ·have X:(ts.length:Int)=8192:=by omega
        rw[if_pos h8] at O
        simp(disch:=omega)only[go_sem,S,D,L,M,W,hv.dLen,X,Ao,Cr,Oa,Jh,jH]
        refine Fa.ghost (Mw (H:=H) (hv.new U _).sub [dI E,dI 3] rfl) (Fa.refl ⟨?_,rfl⟩)
        rw[O]
       ·have X: ¬(ts.length:Int)=8192:=by omega
        rw[if_neg h8] at O
        have hsp:Cn (Cq T) 1 [dI (E:Int)]=Cq { T with line:=(E:Int) }:=rfl
        have al:Cd 1 [DVal.int IntKind.u8 0,DVal.int IntKind.i64 0,DVal.str [],DVal.int IntKind.i64 0]= [DVal.int IntKind.u8 0,DVal.int IntKind.i64 0,DVal.str [],DVal.int IntKind.i64 0]:=rfl
        have am:IntKind.i64.wrap ((k:Int)+(n:Int))=((k+n:Nat):Int):=by rw[IntKind.wrap_i64];omega
        simp(disch:=omega)only[go_sem,S,D,L,M,W,hv.dLen,X,Ao,Cr,Oa,Jh,jH,hsp]
        rw[al]
        simp(disch:=omega)only[go_sem,jA,jB,jE,jJ,jH,D]
        intro ns aa;dsimp only at aa
        simp(disch:=omega)only[go_sem,S,D,L,M,Ao,Cr,Oa,Jh,jH]
        refine Jw.append (m:=1) (ak.new aa _) rfl (by omega) fun v2 H3 ao=> ?_
        simp(disch:=omega)only[go_sem,S,D,L,M]
        refine⟨(k+n,E,ts++ [{ T with line:=(E:Int) }]),_,Rz.refl _,(Y _ _ _).2 ?_,by dsimp only;omega⟩
        simp(disch:=omega)only[go_sem,S,D,L,M,am]
        (repeat' apply And.intro)<;>(try first | rfl | assumption | omega)
        ·rw[jC];simp;omega
        ·rw[<-List.drop_drop,<-O]
        ·have:=ao.less ((Sub.refl H).up (hv.sub.lo U) _)
         rw[jC,List.flatMap_append]
         simpa using this
   ·have ai: ¬((k+1:Nat):Int)<(C.length:Int):=by omega
    have ap:C.drop (k+1)= []:=List.drop_eq_nil_of_le (by omega)
    ·have aj:Qb (c::C.drop (k+1))=false:=Fx7 ap
     simp(disch:=omega)only[go_sem,S,D,L,M,ad,hg,ab,ah,ai,jD,a1,a0,ae]
     refine(Br8 G _ c (C.drop (k+1)) (by rw[<-hd,List.length_drop];omega)).mono ?_
     rintro _ H1 ⟨rfl,rfl⟩
     have O:=Bl9 E ts af ag aj
     have hfl:=Aq0 (c::C.drop (k+1))
     rw[<-hd,List.length_drop] at hfl
     rw[<-hd,hr] at O
     rw[<-hd]
     generalize hf:Fb (C.drop k)=tn at O hfl
     obtain⟨T,n⟩:=tn
     dsimp only at O hfl
     simp(disch:=omega)only[go_sem,Bm0,DVal.cells,S,D,L,M]
     intro r8 U;dsimp only at U
     have ak:=hv.frame U (.cells (Cq { T with line:=(E:Int) }) 31)
     by_cases hn:n=0
     ·have W:(n:Int)=0:=by omega
      rw[if_pos hn] at O
      simp(disch:=omega)only[go_sem,S,D,L,M,W,Ao,Cr,Oa,Jh,jH]
      refine Fa.ghost (Mw (H:=H) (hv.new U _).sub [dI E,dI 20] rfl) (Fa.refl ⟨?_,rfl⟩)
      rw[O]
     ·have W: ¬(n:Int)=0:=by omega
      rw[if_neg hn] at O
      by_cases h8:ts.length=8192
      ·have X:(ts.length:Int)=8192:=by omega
       rw[if_pos h8] at O
       simp(disch:=omega)only[go_sem,S,D,L,M,W,hv.dLen,X,Ao,Cr,Oa,Jh,jH]
       refine Fa.ghost (Mw (H:=H) (hv.new U _).sub [dI E,dI 3] rfl) (Fa.refl ⟨?_,rfl⟩)
       rw[O]
      ·have X: ¬(ts.length:Int)=8192:=by omega
       rw[if_neg h8] at O
       have hsp:Cn (Cq T) 1 [dI (E:Int)]=Cq { T with line:=(E:Int) }:=rfl
       have al:Cd 1 [DVal.int IntKind.u8 0,DVal.int IntKind.i64 0,DVal.str [],DVal.int IntKind.i64 0]= [DVal.int IntKind.u8 0,DVal.int IntKind.i64 0,DVal.str [],DVal.int IntKind.i64 0]:=rfl
       have am:IntKind.i64.wrap ((k:Int)+(n:Int))=((k+n:Nat):Int):=by rw[IntKind.wrap_i64];omega
       simp(disch:=omega)only[go_sem,S,D,L,M,W,hv.dLen,X,Ao,Cr,Oa,Jh,jH,hsp]
       rw[al]
       simp(disch:=omega)only[go_sem,jA,jB,jE,jJ,jH,D]
       intro ns aa;dsimp only at aa
       simp(disch:=omega)only[go_sem,S,D,L,M,Ao,Cr,Oa,Jh,jH]
       refine Jw.append (m:=1) (ak.new aa _) rfl (by omega) fun v2 H3 ao=> ?_
       simp(disch:=omega)only[go_sem,S,D,L,M]
       refine⟨(k+n,E,ts++ [{ T with line:=(E:Int) }]),_,Rz.refl _,(Y _ _ _).2 ?_,by dsimp only;omega⟩
       simp(disch:=omega)only[go_sem,S,D,L,M,am]
       (repeat' apply And.intro)<;>(try first | rfl | assumption | omega)
       ·rw[jC];simp;omega
       ·rw[<-List.drop_drop,<-O]
       ·have:=ao.less ((Sub.refl H).up (hv.sub.lo U) _)
        rw[jC,List.flatMap_append]
        simpa using this
  ·have:k=C.length:=by omega
   subst this
   simp(disch:=omega)only[go_sem,S,D,L,M]
   refine Fa.ghost (Mb.tuple1' (pre:= []) hv.ghost rfl rfl) (Fa.refl ⟨?_,rfl⟩)
   rw[List.drop_length,Ey9] at hr
   rw[<-hr];rfl
structure Lin where
 depth:Int
 l:List Tok
 deriving DecidableEq,Inhabited
def Xb (x:Lin):List DVal:= [dI x.depth,Bl x.l]
theorem Uh (x:Lin):(Xb x).length=2:=rfl
def Qd (x:Lin):Bool:=Tw x.l&&decide (0<=x.depth)&&decide (x.depth<=80)
def Yk (x:Lin):Bool:=decide (256<2*x.depth+((Vh x.l).length:Int))
def Dm6 (x:Lin):List UInt8:=Ey7 x.depth.toNat x.l++ [10]
def Nm (ls:List Lin):List UInt8:=ls.flatMap Dm6
def Sc (ls:List Lin):List UInt8×Int:=if ls.all Qd then(if ls.any Yk || decide (65536<(Nm ls).length) then([],3) else(Nm ls,0)) else([],2)
section
end
section
variable {G:Nat->DVal} {H:Ac}
theorem Ck3 (G:Nat->DVal) (H:Ac) (s:List UInt8):Ag Tryz.prog G 315 [.str s] H (Ax (.bool (Cs7 s)) H):=by
 refine Ab Tryz.func315 Tryz.call315 rfl (by kernel_rfl) ?_;simp(disch:=omega)only[go_sem];refine(Bm2 G _).mono ?_;rintro _ H1 ⟨rfl,rfl⟩;simp(disch:=omega)only[go_sem];refine(Dt5 G _ Wq s (by decide)).mono ?_;rintro _ H1 ⟨rfl,rfl⟩;simp(disch:=omega)only[go_sem];exact Fa.refl ⟨by rw[Ez2],rfl⟩
end
section
variable {G:Nat->DVal} {H:Ac}
theorem Dm7 (G:Nat->DVal) (H:Ac) (t:Tok):Ag Tryz.prog G 300 [.agg (Cq t)] H (Ax (.bool (Zn t)) H):=by
 refine Ab Tryz.func300 Tryz.call300 rfl (by kernel_rfl) ?_;simp(disch:=omega)only[go_sem,DVal.cells];intro r hr;dsimp only at hr;by_cases k1:t.kind=1
 ·by_cases C:t.n=0
  ·simp(disch:=omega)only[go_sem,Ao,Pg,Vy,Ph,Sb,k1,C];refine(Bm3 G _ t.text).mono ?_;rintro _ H1 ⟨rfl,rfl⟩;simp(disch:=omega)only[go_sem];refine Fa.dropA r hr (Fa.refl ⟨?_,rfl⟩);simp [Zn,k1,C]
  ·simp(disch:=omega)only[go_sem,Ao,Pg,Vy,Ph,Sb,k1,C];refine Fa.dropA r hr (Fa.refl ⟨?_,rfl⟩);simp [Zn,k1,C]
 by_cases D:t.kind=2
 ·by_cases C:t.n=0
  ·simp(disch:=omega)only[go_sem,Ao,Pg,Vy,Ph,Sb,k1,D,C];refine(Ax3 G _ t.text).mono ?_;rintro _ H1 ⟨rfl,rfl⟩;simp(disch:=omega)only[go_sem];refine Fa.dropA r hr (Fa.refl ⟨?_,rfl⟩);simp [Zn,D,C]
  ·simp(disch:=omega)only[go_sem,Ao,Pg,Vy,Ph,Sb,k1,D,C];refine Fa.dropA r hr (Fa.refl ⟨?_,rfl⟩);simp [Zn,D,C]
 by_cases E:t.kind=4
 ·by_cases C:t.n=0
  ·simp(disch:=omega)only[go_sem,Ao,Pg,Vy,Ph,Sb,k1,D,E,C];refine(Ck3 G _ t.text).mono ?_;rintro _ H1 ⟨rfl,rfl⟩;simp(disch:=omega)only[go_sem];refine Fa.dropA r hr (Fa.refl ⟨?_,rfl⟩);simp [Zn,E,C]
  ·simp(disch:=omega)only[go_sem,Ao,Pg,Vy,Ph,Sb,k1,D,E,C];refine Fa.dropA r hr (Fa.refl ⟨?_,rfl⟩);simp [Zn,E,C]
 have hm:Zn t=(decide (t.kind=3)&&decide (t.text= [])&&decide (0<=t.n)&&decide (t.n<=2147483647)):=by
  rw[Zn,if_neg k1,if_neg D,if_neg E]
 rw[hm];by_cases I:t.kind=3
 ·by_cases J:t.text= []
  ·by_cases C:0<=t.n
   ·simp(disch:=omega)only[go_sem,Ao,Pg,Vy,Ph,Sb,k1,D,E,I,J,C];exact Fa.dropA r hr (Fa.refl ⟨by simp,rfl⟩)
   ·simp(disch:=omega)only[go_sem,Ao,Pg,Vy,Ph,Sb,k1,D,E,I,J,C];exact Fa.dropA r hr (Fa.refl ⟨by simp,rfl⟩)
  ·simp(disch:=omega)only[go_sem,Ao,Pg,Vy,Ph,Sb,k1,D,E,I,J];exact Fa.dropA r hr (Fa.refl ⟨by simp,rfl⟩)
 ·simp(disch:=omega)only[go_sem,Ao,Pg,Vy,Ph,Sb,k1,D,E,I];exact Fa.dropA r hr (Fa.refl ⟨by simp,rfl⟩)
end
section
variable {G:Nat->DVal} {H:Ac}
def Br9 (l:List Tok) (k:Nat):List UInt8:=Vh (l.take k)
theorem Bs0: ∀(l:List Tok) (t:Tok) (a:Option Tok),Rp a (l++ [t])=Rp a l++((match (match l.getLast? with | some x=>some x | none=>a) with | some x=>if Ab1 x t then [32] else [] | none=> [])++Pf t)
 | [],t,none=>by simp [Rp]
 | [],t,some a=>by simp [Rp]
 | x::l,t,a=>by
  have ih:=Bs0 l t (some x)
  have C:(match l.getLast? with | some y=>some y | none=>some x)=(x::l).getLast? :=by
   cases l with
   | nil=>rfl
   | cons y l=>rw[List.getLast?_cons_cons];cases h:(y::l).getLast? with
    | none=>simp at h
    | some z=>rfl
  rw[C] at ih
  cases hl:(x::l).getLast? with
  | none=>simp at hl
  | some z=>
   rw[hl] at ih
   cases a with
   | none=>
    show Pf x++Rp (some x) (l++ [t])=Pf x++Rp (some x) l++_
    rw[ih,jO]
   | some a=>
    show(if Ab1 a x then [32] else [])++(Pf x++Rp (some x) (l++ [t]))=(if Ab1 a x then [32] else [])++(Pf x++Rp (some x) l)++_
    rw[ih];simp [jO]
theorem Dm8 {l:List Tok} {k:Nat} (h:k<l.length):Br9 l (k+1)=Br9 l k++((if hk:0<k then(if Ab1 (l[k-1]'(by omega)) l[k] then [32] else []) else [])++Pf l[k]):=by
 rw[Br9,List.take_add_one,List.getElem?_eq_getElem h,Vh,Option.toList_some,Bs0];congr 2;by_cases hk:0<k
 ·rw[dif_pos hk];have:(l.take k).getLast? =some (l[k-1]'(by omega)):=by
   rw[List.getLast?_eq_getElem?,List.length_take,Nat.min_eq_left (by omega),List.getElem?_take,if_pos (by omega),List.getElem?_eq_getElem (by omega)]
  rw[this]
 ·have:k=0:=by omega
  subst this;simp
theorem El3 {l:List Tok} {k:Nat} (h:Tw (l.take k)=true) (hk:k<l.length) (hm:Zn l[k]=true):Tw (l.take (k+1))=true:=by
 rw[List.take_add_one,List.getElem?_eq_getElem hk,Tw,List.all_append];rw[Tw] at h;rw[h];simp [hm]
theorem El4 {l:List Tok} {k:Nat} (h:Tw (l.take k)=true):(Br9 l k).length<=33*k:=by
 have:=(Af1 _ none h).2;rw[Br9,Vh];rw[List.length_take] at this;omega
end
section
variable {G:Nat->DVal} {H:Ac}
theorem Ff4 {x:Lin} (h:Qd x=true) (hl:x.l.length<=100000):(Dm6 x).length<=3300161:=by
 simp only[Qd,jF,decide_eq_true_eq] at h;have:=(Af1 x.l none h.1.1).2;rw[Dm6,Ey7,jC,jC,List.length_replicate,jQ,Vh];omega
theorem Al7: ∀(ls:List Lin),ls.all Qd=true->(∀x∈ls,x.l.length<=100000)->(Nm ls).length<=3300161*ls.length
 | [],_,_=>by simp [Nm]
 | x::ls,h,hl=>by
  rw[List.all_cons,jF] at h;have h1:=Ff4 h.1 (hl x (by simp));have h2:=Al7 ls h.2 fun y C=>hl y (by simp [C]);rw[show Nm (x::ls)=Dm6 x++Nm ls from rfl,jC,jA];omega
theorem El5 {α:Type} {f:α->List UInt8} {l:List α} {k:Nat} (hk:k<l.length):(l.take (k+1)).flatMap f=(l.take k).flatMap f++f l[k]:=by
 rw[List.take_add_one,List.getElem?_eq_getElem hk,List.flatMap_append];simp
theorem El6 {α:Type} {p:α->Bool} {l:List α} {k:Nat} (h:(l.take k).all p=true) (hk:k<l.length) (hp:p l[k]=true):(l.take (k+1)).all p=true:=by
 rw[List.take_add_one,List.getElem?_eq_getElem hk,List.all_append,h];simp [hp]
theorem Ff5 {α:Type} {p:α->Bool} {l:List α} {k:Nat} (hk:k<l.length):(l.take (k+1)).any p=((l.take k).any p || p l[k]):=by
 rw[List.take_add_one,List.getElem?_eq_getElem hk,List.any_append];simp
end
def isR (t:Tok) (s:List UInt8):Bool:=decide (t.kind=4)&&decide (t.text=s)
def Nn (a b:Tok):Bool:=if isR b [44] || isR b [59] || isR b [41] || isR b [39] || isR a [40] || isR a [39] then true else isR a [46]&&!isR b [46]&&!isR b [46,46] || isR b [46]&&!isR a [46]&&!isR a [46,46]
theorem Ag3 (t:Tok) (c:UInt8):isS t [c]=isR t [c]:=by
 rw[isS,isR];congr 1;split
 ·rename_i d h
  rw[h,decide_eq_decide.2];simp
 ·rename_i h
  exact(decide_eq_false (fun e=>h c e)).symm
theorem As5 (t:Tok) (c d:UInt8) (l:List UInt8):isS t (c::d::l)=(isR t [c] || isS t (d::l)):=by
 rw[isS,isS,isR];cases decide (t.kind=4) with
 | false=>rfl
 | true=>
  simp only[jS];split
  ·rename_i x h
   rw[h,<-Bool.decide_or,decide_eq_decide.2];simp
  ·rename_i h
   rw[decide_eq_false (fun e=>h c e)];rfl
theorem Cy2 (a b:Tok):Ab1 a b=!Nn a b:=by
 rw[Ab1,Nn,As5,As5,As5,Ag3,As5,Ag3,Ag3,Ag3,Ds9,Ds9,Ag3,Ag3];rw[show(decide (b.kind=4)&&decide (b.text= [46,46]))=isR b [46,46] from rfl,show(decide (a.kind=4)&&decide (a.text= [46,46]))=isR a [46,46] from rfl];cases isR b [44]<;>cases isR b [59]<;>cases isR b [41]<;>cases isR b [39]<;>cases isR a [40]<;>cases isR a [39]<;>try rfl
 cases isR a [46]<;>cases isR b [46]<;>cases isR b [46,46]<;>cases isR a [46,46]<;>rfl
section
variable {G:Nat->DVal} {H:Ac}
theorem Ia (G:Nat->DVal) (H:Ac) (t:Tok) (s:List UInt8):Ag Tryz.prog G 316 [.agg (Cq t), .str s] H (Ax (.bool (isR t s)) H):=by
 refine Ab Tryz.func316 Tryz.call316 rfl (by kernel_rfl) ?_;simp(disch:=omega)only[go_sem,DVal.cells];intro r hr;dsimp only at hr;by_cases C:t.kind=4
 ·simp(disch:=omega)only[go_sem,Ao,Pg,Ph,C];refine Fa.dropA r hr (Fa.refl ⟨?_,rfl⟩);rw[isR,decide_eq_true C,jS]
 ·simp(disch:=omega)only[go_sem,Ao,Pg,Ph,C];refine Fa.dropA r hr (Fa.refl ⟨?_,rfl⟩);rw[isR,decide_eq_false C];rfl
theorem Cy3 (G:Nat->DVal) (H:Ac) (a b:Tok):Ag Tryz.prog G 301 [.agg (Cq a), .agg (Cq b)] H (Ax (.bool (Nn a b)) H):=by
 refine Ab Tryz.func301 Tryz.call301 rfl (by kernel_rfl) ?_;simp(disch:=omega)only[go_sem,DVal.cells];intro J I;dsimp only at I;simp(disch:=omega)only[go_sem,DVal.cells];intro L E;dsimp only at E;obtain⟨C,D,M⟩:=Ba.1 E;simp(disch:=omega)only[go_sem,Ao,Cr,D,C];refine(Ia G _ b [44]).mono ?_;rintro _ H1 ⟨rfl,rfl⟩;cases h1:isR b [44]
 case true=>
  simp(disch:=omega)only[go_sem,Ao,Cr,D,C];exact Fa.sub (show Sub H _ from(by repeat (first | exact Sub.refl _ | assumption | refine Sub.up ?_ (by assumption) _))) (Fa.refl ⟨by rw[Nn,h1];rfl,rfl⟩)
 simp(disch:=omega)only[go_sem,Ao,Cr,D,C];refine(Ia G _ b [59]).mono ?_;rintro _ H1 ⟨rfl,rfl⟩;cases h2:isR b [59]
 case true=>
  simp(disch:=omega)only[go_sem,Ao,Cr,D,C];exact Fa.sub (show Sub H _ from(by repeat (first | exact Sub.refl _ | assumption | refine Sub.up ?_ (by assumption) _))) (Fa.refl ⟨by rw[Nn,h1,h2];rfl,rfl⟩)
 simp(disch:=omega)only[go_sem,Ao,Cr,D,C];refine(Ia G _ b [41]).mono ?_;rintro _ H1 ⟨rfl,rfl⟩;cases h3:isR b [41]
 case true=>
  simp(disch:=omega)only[go_sem,Ao,Cr,D,C];exact Fa.sub (show Sub H _ from(by repeat (first | exact Sub.refl _ | assumption | refine Sub.up ?_ (by assumption) _))) (Fa.refl ⟨by rw[Nn,h1,h2,h3];rfl,rfl⟩)
 simp(disch:=omega)only[go_sem,Ao,Cr,D,C];refine(Ia G _ b [39]).mono ?_;rintro _ H1 ⟨rfl,rfl⟩;cases h4:isR b [39]
 case true=>
  simp(disch:=omega)only[go_sem,Ao,Cr,D,C];exact Fa.sub (show Sub H _ from(by repeat (first | exact Sub.refl _ | assumption | refine Sub.up ?_ (by assumption) _))) (Fa.refl ⟨by rw[Nn,h1,h2,h3,h4];rfl,rfl⟩)
 simp(disch:=omega)only[go_sem,Ao,Cr,D,C];refine(Ia G _ a [40]).mono ?_;rintro _ H1 ⟨rfl,rfl⟩;cases h5:isR a [40]
 case true=>
  simp(disch:=omega)only[go_sem,Ao,Cr,D,C];exact Fa.sub (show Sub H _ from(by repeat (first | exact Sub.refl _ | assumption | refine Sub.up ?_ (by assumption) _))) (Fa.refl ⟨by rw[Nn,h1,h2,h3,h4,h5];rfl,rfl⟩)
 simp(disch:=omega)only[go_sem,Ao,Cr,D,C];refine(Ia G _ a [39]).mono ?_;rintro _ H1 ⟨rfl,rfl⟩;cases h6:isR a [39]
 case true=>
  simp(disch:=omega)only[go_sem,Ao,Cr,D,C];exact Fa.sub (show Sub H _ from(by repeat (first | exact Sub.refl _ | assumption | refine Sub.up ?_ (by assumption) _))) (Fa.refl ⟨by rw[Nn,h1,h2,h3,h4,h5,h6];rfl,rfl⟩)
 simp(disch:=omega)only[go_sem,Ao,Cr,D,C];refine(Ia G _ a [46]).mono ?_;rintro _ H1 ⟨rfl,rfl⟩;cases h7:isR a [46]
 case true=>
  simp(disch:=omega)only[go_sem,Ao,Cr,D,C];refine(Ia G _ b [46]).mono ?_;rintro _ H1 ⟨rfl,rfl⟩;cases h8:isR b [46]
  case true=>
   simp(disch:=omega)only[go_sem,Ao,Cr,D,C];refine(Ia G _ b [46]).mono ?_;rintro _ H1 ⟨rfl,rfl⟩;cases h9:isR b [46]
   case false=>rw[h8] at h9;cases h9
   simp(disch:=omega)only[go_sem,Ao,Cr,D,C];refine(Ia G _ a [46]).mono ?_;rintro _ H1 ⟨rfl,rfl⟩;cases h10:isR a [46]
   case false=>rw[h7] at h10;cases h10
   simp(disch:=omega)only[go_sem,Ao,Cr,D,C];exact Fa.sub (show Sub H _ from(by repeat (first | exact Sub.refl _ | assumption | refine Sub.up ?_ (by assumption) _))) (Fa.refl ⟨by rw[Nn,h1,h2,h3,h4,h5,h6,h7,h8];rfl,rfl⟩)
  simp(disch:=omega)only[go_sem,Ao,Cr,D,C];refine(Ia G _ b [46,46]).mono ?_;rintro _ H1 ⟨rfl,rfl⟩;cases h9:isR b [46,46]
  case false=>
   simp(disch:=omega)only[go_sem,Ao,Cr,D,C];exact Fa.sub (show Sub H _ from(by repeat (first | exact Sub.refl _ | assumption | refine Sub.up ?_ (by assumption) _))) (Fa.refl ⟨by rw[Nn,h1,h2,h3,h4,h5,h6,h7,h8,h9];rfl,rfl⟩)
  simp(disch:=omega)only[go_sem,Ao,Cr,D,C];refine(Ia G _ b [46]).mono ?_;rintro _ H1 ⟨rfl,rfl⟩;cases h10:isR b [46]
  case true=>rw[h8] at h10;cases h10
  simp(disch:=omega)only[go_sem,Ao,Cr,D,C];exact Fa.sub (show Sub H _ from(by repeat (first | exact Sub.refl _ | assumption | refine Sub.up ?_ (by assumption) _))) (Fa.refl ⟨by rw[Nn,h1,h2,h3,h4,h5,h6,h7,h8,h9];rfl,rfl⟩)
 simp(disch:=omega)only[go_sem,Ao,Cr,D,C];refine(Ia G _ b [46]).mono ?_;rintro _ H1 ⟨rfl,rfl⟩;cases h8:isR b [46]
 case false=>
  simp(disch:=omega)only[go_sem,Ao,Cr,D,C];exact Fa.sub (show Sub H _ from(by repeat (first | exact Sub.refl _ | assumption | refine Sub.up ?_ (by assumption) _))) (Fa.refl ⟨by rw[Nn,h1,h2,h3,h4,h5,h6,h7,h8];rfl,rfl⟩)
 simp(disch:=omega)only[go_sem,Ao,Cr,D,C];refine(Ia G _ a [46]).mono ?_;rintro _ H1 ⟨rfl,rfl⟩;cases h9:isR a [46]
 case true=>rw[h7] at h9;cases h9
 simp(disch:=omega)only[go_sem,Ao,Cr,D,C];refine(Ia G _ a [46,46]).mono ?_;rintro _ H1 ⟨rfl,rfl⟩;cases h10:isR a [46,46]
 case true=>
  simp(disch:=omega)only[go_sem,Ao,Cr,D,C];exact Fa.sub (show Sub H _ from(by repeat (first | exact Sub.refl _ | assumption | refine Sub.up ?_ (by assumption) _))) (Fa.refl ⟨by rw[Nn,h1,h2,h3,h4,h5,h6,h7,h8,h10];rfl,rfl⟩)
 simp(disch:=omega)only[go_sem,Ao,Cr,D,C];exact Fa.sub (show Sub H _ from(by repeat (first | exact Sub.refl _ | assumption | refine Sub.up ?_ (by assumption) _))) (Fa.refl ⟨by rw[Nn,h1,h2,h3,h4,h5,h6,h7,h8,h10];rfl,rfl⟩)
theorem El7 (G:Nat->DVal): ∀(n:Nat) (H:Ac),n<=2147483647->Ag Tryz.prog G 317 [dI n] H (Ax (.str (Lib.decDigits n)) H):=by
 intro n
 induction n using Nat.strongRecOn with
 | ind n ih=>
  intro H hn;have C:Int.tmod (n:Int) 10=((n%10:Nat):Int):=by rw[Int.tmod_eq_emod_of_nonneg (by omega)];omega
  have D:Int.tdiv (n:Int) 10=((n/10:Nat):Int):=by rw[Int.tdiv_eq_ediv_of_nonneg (by omega)];omega
  have w1:IntKind.i64.wrap ((n%10:Nat):Int)=((n%10:Nat):Int):=by rw[IntKind.wrap_i64];omega
  have w2:IntKind.i64.wrap (48+((n%10:Nat):Int))=((48+n%10:Nat):Int):=by rw[IntKind.wrap_i64];omega
  have w3:IntKind.u8.wrap ((48+n%10:Nat):Int)=((48+n%10:Nat):Int):=by rw[IntKind.wrap_u8];omega
  have E:IntKind.i64.wrap ((n/10:Nat):Int)=((n/10:Nat):Int):=by rw[IntKind.wrap_i64];omega
  refine Ab Tryz.func317 Tryz.call317 rfl (by kernel_rfl) ?_;simp(disch:=omega)only[go_sem,C,w1,w2,w3];intro r hr;dsimp only at hr;have ho:(some [DVal.int IntKind.u8 ((48+n%10:Nat):Int)]).bind Zs=some [UInt8.ofNat (48+n%10)]:=rfl;simp(disch:=omega)only[go_sem];rw[ho];by_cases h:n<10
  ·have h': ¬(10:Int)<=(n:Int):=by omega
   simp(disch:=omega)only[go_sem,h'];refine Fa.dropA r hr (Fa.refl ⟨?_,rfl⟩);rw[(Lib.decDigits.eq_def n).trans (dif_pos h),Nat.mod_eq_of_lt h]
  ·have h':(10:Int)<=(n:Int):=by omega
   simp(disch:=omega)only[go_sem,h',D,E];refine(ih (n/10) (by omega) _ (by omega)).mono ?_;rintro _ H1 ⟨rfl,rfl⟩;simp(disch:=omega)only[go_sem];refine⟨by have:=Dt0 (n:=n/10) (by omega);omega,Fa.dropA r hr (Fa.refl ⟨?_,rfl⟩)⟩;rw[(Lib.decDigits.eq_def n).trans (dif_neg h)]
theorem Al8 (G:Nat->DVal) (H:Ac) (t:Tok) (h:Zn t=true):Ag Tryz.prog G 302 [.agg (Cq t)] H (Ax (.str (Pf t)) H):=by
 refine Ab Tryz.func302 Tryz.call302 rfl (by kernel_rfl) ?_;simp(disch:=omega)only[go_sem,DVal.cells];intro r hr;dsimp only at hr;by_cases C:t.kind=3
 ·obtain⟨_,hx,D,E⟩:t.kind=3/\t.text= []/\0<=t.n/\t.n<=2147483647:=by
   rcases Bz8 h with h | h | h | h
   ·omega
   ·omega
   ·omega
   ·exact h
  obtain⟨n,hn⟩: ∃n:Nat,t.n=(n:Int):=⟨t.n.toNat,by omega⟩;simp(disch:=omega)only[go_sem,Ao,Pg,Ph,Sb,C,hn];refine(El7 G n _ (by omega)).mono ?_;rintro _ H1 ⟨rfl,rfl⟩;simp(disch:=omega)only[go_sem];refine Fa.dropA r hr (Fa.refl ⟨?_,rfl⟩);rw[Pf,if_pos C,hx,jH,hn,Cs9 (by omega)];rfl
 ·simp(disch:=omega)only[go_sem,Ao,Pg,Ph,Sb,C];refine Fa.dropA r hr (Fa.refl ⟨?_,rfl⟩);rw[Pf,if_neg C];rfl
theorem Dm9 (G:Nat->DVal) (H:Ac) (l:List Tok) (hl:l.length<=1000000000):Ag Tryz.prog G 266 [Bl l] H (Ax (.bool (Tw l)) H):=by
 refine Ab Tryz.func266 Tryz.call266 rfl (by kernel_rfl) ?_;simp(disch:=omega)only[go_sem,Bl];obtain⟨I,E⟩: ∃I:Nat->(Nat->DVal)->Ac->Prop,∀k env heap,I k env heap↔(env 0= .vslice (l.flatMap Cq) l.length/\env 3=dI k/\k<=l.length/\Tw (l.take k)=true/\heap=H):=⟨_,fun _ _ _=>Iff.rfl⟩;refine Dr7.run I (fun k=>l.length-k) 0 ((E _ _ _).2 ?_) ?_
 ·simp(disch:=omega)only[go_sem];(repeat' apply And.intro)<;>(try first | rfl | assumption | omega)
 ·intro k env heap hi;obtain⟨C,D,hk,hf,rfl⟩:=(E _ _ _).1 hi;by_cases J:k<l.length
  ·have L:(k:Int)<(l.length:Int):=by omega
   have M:=Co Ao l k J;have hfl:=Aw Ao l;have O:IntKind.i64.wrap ((k:Int)+1)=((k+1:Nat):Int):=by rw[IntKind.wrap_i64];omega
   simp(disch:=omega)only[go_sem,C,D,L,M,hfl,jD];refine(Dm7 G _ l[k]).mono ?_;rintro _ H1 ⟨rfl,rfl⟩;cases hm:Zn l[k] with
   | true=>
    simp(disch:=omega)only[go_sem,C,D];refine⟨k+1,_,Rz.refl _,(E _ _ _).2 ?_,by omega⟩;simp(disch:=omega)only[go_sem,C,D,O];(repeat' apply And.intro)<;>(try first | rfl | assumption | omega);exact El3 hf J hm
   | false=>
    simp(disch:=omega)only[go_sem,C,D];refine Fa.refl ⟨?_,rfl⟩;have:Tw l=false:=by
     rw[Tw,List.all_eq_false];exact⟨l[k],List.getElem_mem J,by rw[hm];simp⟩
    rw[this]
  ·have:k=l.length:=by omega
   subst this;rw[List.take_length] at hf;simp(disch:=omega)only[go_sem,C,D];exact Fa.refl ⟨by rw[hf],rfl⟩
theorem Fx8 {l:List Tok} (h:Tw l=true) {k:Nat} (hk:k<l.length):Zn l[k]=true:=List.all_eq_true.1 h _ (List.getElem_mem hk)
theorem Ck4 (G:Nat->DVal) (H:Ac) (l:List Tok) (hl:l.length<=1000000000) (hf:Tw l=true):Ag Tryz.prog G 267 [Bl l] H (Ax (.str (Vh l)) H):=by
 refine Ab Tryz.func267 Tryz.call267 rfl (by kernel_rfl) ?_;simp(disch:=omega)only[go_sem,Bl];obtain⟨I,L⟩: ∃I:Nat->(Nat->DVal)->Ac->Prop,∀k env heap,I k env heap↔(env 0= .vslice (l.flatMap Cq) l.length/\env 3= .str (Br9 l k)/\env 4=dI k/\k<=l.length/\heap=H):=⟨_,fun _ _ _=>Iff.rfl⟩;refine Dr7.run I (fun k=>l.length-k) 0 ((L _ _ _).2 ?_) ?_
 ·simp(disch:=omega)only[go_sem];(repeat' apply And.intro)<;>(try first | rfl | assumption | omega)
 ·intro k env heap hi;obtain⟨C,D,E,hk,rfl⟩:=(L _ _ _).1 hi;by_cases S:k<l.length
  ·have M:(k:Int)<(l.length:Int):=by omega
   have O:=Co Ao l k S;have hfl:=Aw Ao l;have hm:=Fx8 hf S;have J:=Dm8 S;have aa:=El4 (l:=l) (k:=k) (List.all_eq_true.2 fun t ht=>List.all_eq_true.1 hf t (List.mem_of_mem_take ht));have ab:=(Ca0 hm).2.2;have U:IntKind.i64.wrap ((k:Int)+1)=((k+1:Nat):Int):=by rw[IntKind.wrap_i64];omega
   simp(disch:=omega)only[go_sem,C,D,E,M];refine Ak (by kernel_rfl) (.take 0 (.take 1 (.take 2 (.take 3 (.take 4 (.take 5 (.take 6 (.take 7 (.take 8 (.take 9 (.take 10 (.take 11 (.go 12 [] (.take 13 (.take 14 .done))))))))))))))) (by kernel_rfl) ?_;by_cases h0:0<k
   ·have V:(0:Int)<(k:Int):=by omega
    have W:k-1<l.length:=by omega
    have X:=Co Ao l (k-1) W;have Y:IntKind.i64.wrap ((k:Int)-1)=((k-1:Nat):Int):=by rw[IntKind.wrap_i64];omega
    have Z:((k-1:Nat):Int)<(l.length:Int):=by omega
    rw[dif_pos h0,Cy2] at J;simp(disch:=omega)only[go_sem,C,D,E,V,Y,X,O,hfl,Z,M,jD];refine(Cy3 G _ l[k-1] l[k]).mono ?_;rintro _ H1 ⟨rfl,rfl⟩;cases hc:Nn l[k-1] l[k] with
    | true=>
     rw[hc,if_neg (by simp),jG] at J;simp(disch:=omega)only[go_sem,C,D,E,O,hfl,M,jD];refine(Al8 G _ l[k] hm).mono ?_;rintro _ H1 ⟨rfl,rfl⟩;simp(disch:=omega)only[go_sem,C,D,E];refine⟨k+1,_,Rz.refl _,(L _ _ _).2 ?_,by omega⟩;simp(disch:=omega)only[go_sem,C,D,E,U];(repeat' apply And.intro)<;>(try first | rfl | assumption | omega);rw[J]
    | false=>
     rw[hc,if_pos (by simp)] at J;simp(disch:=omega)only[go_sem,C,D,E,O,hfl,M,jD];refine(Al8 G _ l[k] hm).mono ?_;rintro _ H1 ⟨rfl,rfl⟩;simp(disch:=omega)only[go_sem,C,D,E];refine⟨by rw[jC,jQ];omega,k+1,_,Rz.refl _,(L _ _ _).2 ?_,by omega⟩;simp(disch:=omega)only[go_sem,C,D,E,U];(repeat' apply And.intro)<;>(try first | rfl | assumption | omega);rw[J,jO]
   ·have V: ¬(0:Int)<(k:Int):=by omega
    rw[dif_neg h0,jG] at J;simp(disch:=omega)only[go_sem,C,D,E,V,O,hfl,M,jD];refine(Al8 G _ l[k] hm).mono ?_;rintro _ H1 ⟨rfl,rfl⟩;simp(disch:=omega)only[go_sem,C,D,E];refine⟨k+1,_,Rz.refl _,(L _ _ _).2 ?_,by omega⟩;simp(disch:=omega)only[go_sem,C,D,E,U];(repeat' apply And.intro)<;>(try first | rfl | assumption | omega);rw[J]
  ·have:k=l.length:=by omega
   subst this;simp(disch:=omega)only[go_sem,C,D,E];refine Fa.refl ⟨?_,rfl⟩;rw[Br9,List.take_length]
end
def Ge5 (ls:List Lin):DVal:= .vslice (ls.flatMap Xb) ls.length
theorem Al9 {ls:List Lin} (h:ls.all Qd=false):Sc ls=([],2):=by rw[Sc,h];rfl
theorem Dn0 {ls:List Lin} (h:ls.all Qd=true) (h2:ls.any Yk=true):Sc ls=([],3):=by rw[Sc,h,h2];rfl
theorem Dn1 {ls:List Lin} (h:ls.all Qd=true) (h2:65536<(Nm ls).length):Sc ls=([],3):=by rw[Sc,h,decide_eq_true h2,Bool.or_true];rfl
theorem El8 {ls:List Lin} (h:ls.all Qd=true) (h1:ls.any Yk=false) (h2: ¬65536<(Nm ls).length):Sc ls=(Nm ls,0):=by rw[Sc,h,h1,decide_eq_false h2];rfl
theorem Dn2 {ls:List Lin} {k:Nat} (hk:k<ls.length) (h:Qd ls[k]=false):ls.all Qd=false:=by
 rw[List.all_eq_false];exact⟨ls[k],List.getElem_mem hk,by rw[h];simp⟩
section
variable {G:Nat->DVal} {H:Ac}
set_option maxHeartbeats 4000000 in
theorem Cy4 (G:Nat->DVal) (H:Ac) (ls:List Lin) (hl:ls.length<=100000) (Z: ∀x∈ls,x.l.length<=100000):Ag Tryz.prog G 189 [Ge5 ls] H (Ax (.tuple [.str (Sc ls).1,dI (Sc ls).2]) H):=by
 refine Ab Tryz.func189 Tryz.call189 rfl (by kernel_rfl) ?_;simp(disch:=omega)only[go_sem,Ge5];obtain⟨I,hI⟩: ∃I:Nat->(Nat->DVal)->Ac->Prop,∀k env heap,I k env heap↔(env 0= .vslice (ls.flatMap Xb) ls.length/\env 4=dI k/\k<=ls.length/\(ls.take k).all Qd=true/\heap=H):=⟨_,fun _ _ _=>Iff.rfl⟩;refine Dr7.run I (fun k=>ls.length-k) 0 ((hI _ _ _).2 ?_) ?_
 ·simp(disch:=omega)only[go_sem];(repeat' apply And.intro)<;>(try first | rfl | assumption | omega)
 ·intro k env hp hi;obtain⟨C,M,hk,hf,rfl⟩:=(hI _ _ _).1 hi;have hfl:=Aw Uh ls;by_cases D:k<ls.length
  ·have O:(k:Int)<(ls.length:Int):=by omega
   have S:(ls.flatMap Xb)[k*2]? =some (dI ls[k].depth):=Hw Uh ls k D 0 (by omega);have V:(ls.flatMap Xb)[k*2+1]? =some (Bl ls[k].l):=Hw Uh ls k D 1 (by omega);have ah:IntKind.i64.wrap ((k:Int)+1)=((k+1:Nat):Int):=by rw[IntKind.wrap_i64];omega
   have hx:=Z ls[k] (List.getElem_mem D);by_cases W:ls[k].depth<0
   ·simp(disch:=omega)only[go_sem,C,M,O,hfl,S,V,W,jD];refine Fa.refl ⟨?_,rfl⟩;rw[Al9 (Dn2 D (by rw[Qd,decide_eq_false (show¬0<=ls[k].depth by omega),Bool.and_false,jT]))]
   ·by_cases aa:80<ls[k].depth
    ·simp(disch:=omega)only[go_sem,C,M,O,hfl,S,V,W,aa,jD];refine Fa.refl ⟨?_,rfl⟩;rw[Al9 (Dn2 D (by rw[Qd,decide_eq_false (show¬ls[k].depth<=80 by omega),Bool.and_false]))]
    ·simp(disch:=omega)only[go_sem,C,M,O,hfl,S,V,W,aa,jD];refine(Dm9 G _ ls[k].l (by omega)).mono ?_;rintro _ H1 ⟨rfl,rfl⟩;cases hj:Tw ls[k].l with
     | false=>
      simp(disch:=omega)only[go_sem,C,M];refine Fa.refl ⟨?_,rfl⟩;rw[Al9 (Dn2 D (by rw[Qd,hj];rfl))]
     | true=>
      have hok:Qd ls[k]=true:=by rw[Qd,hj,decide_eq_true (show 0<=ls[k].depth by omega),decide_eq_true (show ls[k].depth<=80 by omega)];rfl
      simp(disch:=omega)only[go_sem,C,M];refine⟨k+1,_,Rz.refl _,(hI _ _ _).2 ?_,by omega⟩;simp(disch:=omega)only[go_sem,C,M,ah];(repeat' apply And.intro)<;>(try first | rfl | assumption | omega);exact El6 hf D hok
  ·have:k=ls.length:=by omega
   subst this;rw[List.take_length] at hf;simp(disch:=omega)only[go_sem,C,M];obtain⟨J,hJ⟩: ∃J:Nat->(Nat->DVal)->Ac->Prop,∀m env heap,J m env heap↔(env 0= .vslice (ls.flatMap Xb) ls.length/\env 5= .str (Nm (ls.take m))/\env 6=dI m/\m<=ls.length/\(ls.take m).any Yk=false/\heap=hp):=⟨_,fun _ _ _=>Iff.rfl⟩;refine Dr7.run J (fun m=>ls.length-m) 0 ((hJ _ _ _).2 ?_) ?_
   ·simp(disch:=omega)only[go_sem,C];(repeat' apply And.intro)<;>(try first | rfl | assumption | omega)
   ·intro m env hq hi;obtain⟨C,E,L,hm,ac,rfl⟩:=(hJ _ _ _).1 hi;by_cases D:m<ls.length
    ·have O:(m:Int)<(ls.length:Int):=by omega
     have S:(ls.flatMap Xb)[m*2]? =some (dI ls[m].depth):=Hw Uh ls m D 0 (by omega);have V:(ls.flatMap Xb)[m*2+1]? =some (Bl ls[m].l):=Hw Uh ls m D 1 (by omega);have ai:IntKind.i64.wrap ((m:Int)+1)=((m+1:Nat):Int):=by rw[IntKind.wrap_i64];omega
     have hok:Qd ls[m]=true:=List.all_eq_true.1 hf _ (List.getElem_mem D);have hx:=Z ls[m] (List.getElem_mem D);have ae:=hok;simp only[Qd,jF,decide_eq_true_eq] at ae;obtain⟨⟨af,W⟩,aa⟩:=ae;obtain⟨d,hd⟩: ∃d:Nat,ls[m].depth=d:=⟨ls[m].depth.toNat,by omega⟩;rw[hd] at S W aa;have aq:d<=80:=by omega
     have ar:(Vh ls[m].l).length<=3300000:=by
      have:=(Af1 ls[m].l none af).2;rw[Vh];omega
     have ag:=Al7 (ls.take m) (List.all_eq_true.2 fun x hx=>List.all_eq_true.1 hf x (List.mem_of_mem_take hx)) fun x hx=>Z x (List.mem_of_mem_take hx);rw[List.length_take,Nat.min_eq_left hm] at ag;have aj:=Ff5 (p:=Yk) D;have ak:Nm (ls.take (m+1))=Nm (ls.take m)++Dm6 ls[m]:=El5 D;have al:Dm6 ls[m]=List.replicate (2*d) 32++Vh ls[m].l++ [10]:=by rw[Dm6,Ey7,hd];rfl
     have hlo:Yk ls[m]=decide (256<2*(d:Int)+((Vh ls[m].l).length:Int)):=by rw[Yk,hd]
     simp(disch:=omega)only[go_sem,C,E,L,O];obtain⟨Q,hQ⟩: ∃Q:Nat->(Nat->DVal)->Ac->Prop,∀j env heap,Q j env heap↔(env 0= .vslice (ls.flatMap Xb) ls.length/\env 5= .str (Nm (ls.take m))/\env 6=dI m/\env 7= .str (List.replicate (2*j) 32)/\env 8=dI j/\j<=d/\heap=hq):=⟨_,fun _ _ _=>Iff.rfl⟩;refine Dr7.run Q (fun j=>d-j) 0 ((hQ _ _ _).2 ?_) ?_
     ·simp(disch:=omega)only[go_sem,C,E,L];(repeat' apply And.intro)<;>(try first | rfl | assumption | omega)
     ·intro j env heap hi;obtain⟨C,E,L,X,Y,hj,rfl⟩:=(hQ _ _ _).1 hi;have ab:(List.replicate (2*j) (32:UInt8)).length=2*j:=List.length_replicate;by_cases au:j<d
      ·have am:(j:Int)<(d:Int):=by omega
       have ao:IntKind.i64.wrap ((j:Int)+1)=((j+1:Nat):Int):=by rw[IntKind.wrap_i64];omega
       have ap:List.replicate (2*j) (32:UInt8)++ [32,32]=List.replicate (2*(j+1)) 32:=by
        rw[show 2*(j+1)=2*j+2 by omega,<-List.replicate_append_replicate];rfl
       simp(disch:=omega)only[go_sem,C,E,L,X,Y,O,hfl,S,V,am,ab,jD];refine⟨j+1,_,Rz.refl _,(hQ _ _ _).2 ?_,by omega⟩;simp(disch:=omega)only[go_sem,C,E,L,X,Y,ao,ap];(repeat' apply And.intro)<;>(try first | rfl | assumption | omega)
      ·have:j=d:=by omega
       subst this;simp(disch:=omega)only[go_sem,C,E,L,X,Y,O,hfl,S,V,ab,jD];refine(Ck4 G _ ls[m].l (by omega) af).mono ?_;rintro _ H1 ⟨rfl,rfl⟩;by_cases ad:256<2*j+(Vh ls[m].l).length
       ·have U:(256:Int)<((2*j+(Vh ls[m].l).length:Nat):Int):=by omega
        simp(disch:=omega)only[go_sem,C,E,L,X,Y,ab,jC,U];refine Fa.refl ⟨?_,rfl⟩;rw[Dn0 hf (List.any_eq_true.2 ⟨ls[m],List.getElem_mem D,by rw[hlo];exact decide_eq_true (by omega)⟩)]
       ·have U: ¬(256:Int)<((2*j+(Vh ls[m].l).length:Nat):Int):=by omega
        simp(disch:=omega)only[go_sem,C,E,L,X,Y,ab,jC,U];refine⟨m+1,_,Rz.refl _,(hJ _ _ _).2 ?_,by omega⟩;simp(disch:=omega)only[go_sem,C,E,L,ai];(repeat' apply And.intro)<;>(try first | rfl | assumption | omega)
        ·rw[ak,al];simp [jO]
        ·rw[aj,ac,hlo];exact decide_eq_false (by omega)
    ·have:m=ls.length:=by omega
     subst this;rw[List.take_length] at ac E;have ag:=Al7 ls hf Z;by_cases ad:65536<(Nm ls).length
     ·have U:(65536:Int)<((Nm ls).length:Int):=by omega
      simp(disch:=omega)only[go_sem,C,E,L,U];exact Fa.refl ⟨by rw[Dn1 hf ad],rfl⟩
     ·have U: ¬(65536:Int)<((Nm ls).length:Int):=by omega
      simp(disch:=omega)only[go_sem,C,E,L,U];exact Fa.refl ⟨by rw[El8 hf ac ad],rfl⟩
end
end Go.Dl
-- A1
namespace Go.Dl
open Go
set_option maxRecDepth 10000
structure Ind where
 name:Ex
 lo:Ex
 hi:Ex
 value:Ex
structure Dis where
 name:Ex
 lo:Ex
 hi:Ex
structure Par where
 names:List (List UInt8)
 mode:Int
 type:Ex
 e:Ex
 line:Int
structure Asp where
 name:List UInt8
 e:Ex
structure Cmp where
 names:List (List UInt8)
 sub:Ind
 e:Ex
 line:Int
structure Arm where
 c:List Ch
 comps:List Cmp
structure Typ where
 kind:Int
 names:List (List UInt8)
 lo:Ex
 hi:Ex
 sub:Ind
 disc:Dis
 comps:List Cmp
 var:List UInt8
 arms:List Arm
 limited:Bool
def Ut:Ind:=⟨ex0,ex0,ex0,ex0⟩
def Rt:Dis:=⟨ex0,ex0,ex0⟩
def Ed:Typ:=⟨0,[],ex0,ex0,Ut,Rt,[],[],[],false⟩
def noE (e:Ex):Bool:=Fw e ex0
def Zc:Nat->Ex->Bool
 | 0,_=>false
 | n+1,e=>if e.kind=4 then Zc n (e.l.getD 0 ex0) else decide (e.kind=3)
def Ib (e:Ex):Bool:=Ci e&&Zc (Hx e) e
def En (s:Ind):Bool:=
 Ib s.name&&(if noE s.value then noE s.lo&&noE s.hi || Ci s.lo&&Ci s.hi else noE s.lo&&noE s.hi&&Ci s.value)
def Fh (d:Dis):Bool:=
 if noE d.lo&&noE d.hi then Ib d.name || decide (d.name.kind=6)&&Ci d.name else Ci d.lo&&Ci d.hi&&(noE d.name || Ib d.name)
def Il (l:List (List UInt8)) (most:Nat):Bool:=l.all Nv&&decide (1<=l.length)&&decide (l.length<=most)
def Ic (e:Ex):Bool:=noE e || Ci e
def Kb (p:Par):Bool:=Il p.names 8&&Ib p.type&&Ic p.e&&decide (1<=p.mode)&&decide (p.mode<=3)&&(decide (p.mode=1) || noE p.e)
def As6 (l:List Par):Nat:=(l.map fun p=>p.names.length).sum
def Jq (l:List Par):Bool:=l.all Kb&&decide (As6 l<=8)
def Kc (c:Cmp):Bool:=Il c.names 8&&En c.sub&&Ic c.e
def Hs (l:List Cmp):Nat:=(l.map fun c=>c.names.length).sum
def Jr (a:Arm):Bool:=a.comps.all Kc&&Kq a.c
def Ui (l:List Arm):Nat:=(l.map fun a=>Hs a.comps).sum
def Lu (t:Typ):Bool:=
 t.comps.all Kc&&decide ((t.var= [])↔(t.arms.length=0))&&decide (t.arms.length<=16)&&(decide (t.var= []) || Nv t.var)&&t.arms.all Jr&&decide (Hs t.comps+Ui t.arms<=32)
def Zd (s:Ind):Bool:=noE s.name&&noE s.lo&&noE s.hi&&noE s.value
def Xc (d:Dis):Bool:=noE d.name&&noE d.lo&&noE d.hi
def Ze (t:Typ):Bool:=decide (t.comps.length=0)&&decide (t.var= [])&&decide (t.arms.length=0)
def Xd (t:Typ):Bool:=noE t.lo&&noE t.hi
def Vp (t:Typ):Bool:=decide (t.names.length=0)
def Du (t:Typ):Bool:=
 if t.kind=1 then Il t.names 64&&Xd t&&Zd t.sub&&Xc t.disc&&Ze t&&!t.limited
 else if t.kind=2 then Vp t&&(Ci t.lo&&Ci t.hi)&&Zd t.sub&&Xc t.disc&&Ze t&&!t.limited
 else if t.kind=3\/t.kind=6 then Vp t&&Xd t&&En t.sub&&Xc t.disc&&Ze t&&!t.limited
 else if t.kind=4 then Vp t&&Xd t&&En t.sub&&Fh t.disc&&Ze t&&!t.limited
 else if t.kind=5 then Vp t&&Xd t&&Zd t.sub&&Xc t.disc&&Lu t&&!t.limited
 else decide (t.kind=7)&&Vp t&&Xd t&&Zd t.sub&&Xc t.disc&&Ze t
def My (a b:Ind):Bool:=Fw a.name b.name&&Fw a.lo b.lo&&Fw a.hi b.hi&&Fw a.value b.value
def Mz (a b:Dis):Bool:=Fw a.name b.name&&Fw a.lo b.lo&&Fw a.hi b.hi
def Ru {α:Type} (f:α->α->Bool):List α->List α->Bool
 | [],[]=>true
 | x::l,y::m=>f x y&&Ru f l m
 | _,_=>false
def Lv (a b:Par):Bool:=decide (a.names=b.names)&&decide (a.mode=b.mode)&&Fw a.type b.type&&Fw a.e b.e
def Na (a b:Cmp):Bool:=decide (a.names=b.names)&&My a.sub b.sub&&Fw a.e b.e
def Rk (a b:Arm):Bool:=Kx a.c b.c&&Ru Na a.comps b.comps
def Yl (a b:Typ):Bool:=
 decide (a.kind=b.kind)&&decide (a.names=b.names)&&Fw a.lo b.lo&&Fw a.hi b.hi&&My a.sub b.sub&&Mz a.disc b.disc&&Ru Na a.comps b.comps&&decide (a.var=b.var)&&decide (a.limited=b.limited)&&Ru Rk a.arms b.arms
def Eo:List UInt8:= [114,97,110,103,101]
def Sd:List UInt8:= [58]
def Od:List UInt8:= [58,61]
def Fy:List UInt8:= [59]
def As7:List UInt8:= [111,117,116]
def Kd:List UInt8:= [99,97,115,101]
def wIs:List UInt8:= [105,115]
def Pq:List UInt8:= [119,104,101,110]
def Pz:List UInt8:= [101,110,100]
def Cu:List UInt8:= [114,101,99,111,114,100]
def Am0:List UInt8:= [110,101,119]
def Lo:List UInt8:= [97,114,114,97,121]
def wOf:List UInt8:= [111,102]
def Lw:List UInt8:= [97,99,99,101,115,115]
def Fp:List UInt8:= [112,114,105,118,97,116,101]
def Ko:List UInt8:= [108,105,109,105,116,101,100]
def Dj (a b:Ex):List Tok:=Ar a 2++(Ah Ef::Ar b 2)
def In (s:Ind):List Tok:=Ai s.name++(if noE s.value then(if noE s.lo then [] else Ah Eo::Dj s.lo s.hi) else Ah Bf::(Ai s.value++ [Ah Bv]))
def Lp (d:Dis):List Tok:=if noE d.lo then Ai d.name else if noE d.name then Dj d.lo d.hi else Ai d.name++(Ah Eo::Dj d.lo d.hi)
def Cw (l:List (List UInt8)):List Tok:=Dm Ee (l.map fun s=> [Dw s])
def Ny (e:Ex):List Tok:=if noE e then [] else Ah Od::Ai e
def Qe (m:Int):List Tok:=if m=2 then [Ah As7] else if m=3 then [Ah wIn,Ah As7] else []
def Nf (p:Par):List Tok:=Cw p.names++(Ah Sd::(Qe p.mode++(Ai p.type++Ny p.e)))
def Mo (l:List Par):List Tok:=Dm Fy (l.map Nf)
def Uj (c:Cmp):List Tok:=Cw c.names++(Ah Sd::(In c.sub++(Ny c.e++ [Ah Fy])))
def Qf (n:Int):Int:=IntKind.i64.wrap n
def Pr (l:List Cmp) (d:Int):List Lin:=if l.isEmpty then [⟨d,[Ah Fm,Ah Fy]⟩] else l.map fun c=>⟨d,Uj c⟩
def Ac9 (d:Int) (a:Arm):List Lin:=⟨Qf (d+2),Ah Pq::((Mn a.c).1++ [Ah By])⟩::Pr a.comps (Qf (d+3))
def Bs1 (t:Typ) (d:Int):List Lin:=
 ⟨d,[Ah Cu]⟩::((if t.comps.isEmpty then [] else Pr t.comps (Qf (d+1)))++
  ((if t.var= [] then [] else⟨Qf (d+1),[Ah Kd,Dw t.var,Ah wIs]⟩::(t.arms.flatMap (Ac9 d)++ [⟨Qf (d+1),[Ah Pz,Ah Kd,Ah Fy]⟩]))++ [⟨d,[Ah Pz,Ah Cu]⟩]))
def Ie (t:Typ) (d:Int):List Lin:=
 if t.kind=1 then [⟨d,Ah Bf::(Cw t.names++ [Ah Bv])⟩]
 else if t.kind=2 then [⟨d,Ah Eo::Dj t.lo t.hi⟩]
 else if t.kind=3 then [⟨d,Ah Am0::In t.sub⟩]
 else if t.kind=4 then [⟨d,Ah Lo::Ah Bf::(Lp t.disc++(Ah Bv::Ah wOf::In t.sub))⟩]
 else if t.kind=6 then [⟨d,Ah Lw::In t.sub⟩]
 else if t.kind=7 then [⟨d,(if t.limited then [Ah Ko] else [])++ [Ah Fp]⟩]
 else if t.comps.isEmpty&&decide (t.var= []) then [⟨d,[Ah Fm,Ah Cu]⟩]
 else Bs1 t d
def Ig (l:List Lin):List Tok:=l.flatMap Lin.l
end Go.Dl
-- V6
namespace Go.Dl
open Go Go.Proofs
set_option maxRecDepth 100000
theorem Ag.monoR {P:Program} {G:Nat->DVal} {f:FuncId} {args:List DVal} {H C:Ac} {v:DVal} {R:DEnd->Ac->Prop} (h:Ag P G f args H (Ax v C)) (k:R (.ret v) C):Ag P G f args H R:=h.mono (by rintro _ _ ⟨rfl,rfl⟩;exact k)
section
end
def Dv (s:Ind):List DVal:=dEx s.name++(dEx s.lo++(dEx s.hi++dEx s.value))
def Dy (d:Dis):List DVal:=dEx d.name++(dEx d.lo++dEx d.hi)
def Gt (p:Par):List DVal:=dW p.names:: .int .u8 p.mode::(dEx p.type++(dEx p.e++ [dI p.line]))
def Ba6 (a:Asp):List DVal:= .str a.name::dEx a.e
def Hu (c:Cmp):List DVal:=dW c.names::(Dv c.sub++(dEx c.e++ [dI c.line]))
def Gm (l:List Par):DVal:= .vslice (l.flatMap Gt) l.length
def Cy5 (l:List Asp):DVal:= .vslice (l.flatMap Ba6) l.length
def Cv (l:List Cmp):DVal:= .vslice (l.flatMap Hu) l.length
def La (a:Arm):List DVal:= [dCl a.c,Cv a.comps]
def Ey (l:List Arm):DVal:= .vslice (l.flatMap La) l.length
def Cl (t:Typ):List DVal:= .int .u8 t.kind::dW t.names::(dEx t.lo++(dEx t.hi++(Dv t.sub++(Dy t.disc++ [Cv t.comps, .str t.var,Ey t.arms, .bool t.limited]))))
theorem An (s:Ind):(Dv s).length=36:=by simp [Dv,Ad]
theorem Au (s:Dis):(Dy s).length=27:=by simp [Dy,Ad]
theorem Bx (s:Par):(Gt s).length=21:=by simp [Gt,Ad]
theorem Bs2 (s:Asp):(Ba6 s).length=10:=by simp [Ba6,Ad]
theorem Ca (s:Cmp):(Hu s).length=47:=by simp [Hu,Ad,An]
theorem Ct (s:Arm):(La s).length=2:=rfl
theorem Bt (s:Typ):(Cl s).length=87:=by simp [Cl,Ad,An,Au]
theorem Ej (s:Ind):((Dv s).all fun x=>x.one)=true:=by simp [Dv,List.all_append,Bo]
theorem Ek (s:Dis):((Dy s).all fun x=>x.one)=true:=by simp [Dy,List.all_append,Bo]
theorem Ff6 (s:Par):((Gt s).all fun x=>x.one)=true:=by simp only[Gt,List.all_cons,List.all_append,Bo,Ej,Ek,List.all_nil,Bool.and_true,jS];rfl
theorem Ff7 (s:Asp):((Ba6 s).all fun x=>x.one)=true:=by simp only[Ba6,List.all_cons,List.all_append,Bo,Ej,Ek,List.all_nil,Bool.and_true,jS];rfl
theorem Ff8 (s:Cmp):((Hu s).all fun x=>x.one)=true:=by simp only[Hu,List.all_cons,List.all_append,Bo,Ej,Ek,List.all_nil,Bool.and_true,jS];rfl
theorem Ff9 (s:Arm):((La s).all fun x=>x.one)=true:=by simp only[La,List.all_cons,List.all_append,Bo,Ej,Ek,List.all_nil,Bool.and_true,jS];rfl
theorem Fg0 (s:Typ):((Cl s).all fun x=>x.one)=true:=by simp only[Cl,List.all_cons,List.all_append,Bo,Ej,Ek,List.all_nil,Bool.and_true,jS];rfl
theorem Gm8 (s:Dis):(Dy s).take 27=Dy s:=by rw[<-Au s,List.take_length]
theorem Gm9 (s:Par):(Gt s).take 21=Gt s:=by rw[<-Bx s,List.take_length]
theorem Gn0 (s:Asp):(Ba6 s).take 10=Ba6 s:=by rw[<-Bs2 s,List.take_length]
theorem Gn1 (s:Cmp):(Hu s).take 47=Hu s:=by rw[<-Ca s,List.take_length]
theorem Gn2 (s:Arm):(La s).take 2=La s:=by rw[<-Ct s,List.take_length]
theorem Gn3 (s:Typ):(Cl s).take 87=Cl s:=by rw[<-Bt s,List.take_length]
attribute [go_sem] Gm8 Gm9 Gn0 Gn1 Gn2 Gn3 An Au Bx Bs2 Ca Ct Bt Ej Ek Ff6 Ff7 Ff8 Ff9 Fg0
def Dp (n:Nat) (e:Ex):Prop:=Fo e<=n/\okE e
def Be0 (n:Nat) (l:List (List UInt8)):Prop:=l.length<=n/\ ∀s∈l,s.length<=9223372036854775807
def Be1 (n:Nat) (s:Ind):Prop:=Dp n s.name/\Dp n s.lo/\Dp n s.hi/\Dp n s.value
def Ai2 (n:Nat) (s:Dis):Prop:=Dp n s.name/\Dp n s.lo/\Dp n s.hi
def Si (n:Nat) (p:Par):Prop:=Be0 n p.names/\Dp n p.type/\Dp n p.e
def Sj (n:Nat) (c:Cmp):Prop:=Be0 n c.names/\Be1 n c.sub/\Dp n c.e
def Ks {α:Type} (f:Nat->α->Prop) (n:Nat) (l:List α):Prop:=l.length<=n/\ ∀x∈l,f n x
def Ck5 (n:Nat) (l:List Ch):Prop:=Jk l<=n/\Wu l
def Be2 (n:Nat) (a:Arm):Prop:=Ck5 n a.c/\Ks Sj n a.comps
def Oy (n:Nat) (t:Typ):Prop:=Be0 n t.names/\Dp n t.lo/\Dp n t.hi/\Be1 n t.sub/\Ai2 n t.disc/\Ks Sj n t.comps/\(t.var.length<=9223372036854775807/\0<=t.kind/\t.kind<=255)/\Ks Be2 n t.arms
section
end
theorem Gy7 {e:Ex} (h:Dp 1048576 e):Fo e<=1099511627776:=by have:=h.1;omega
theorem Dp.fitx {e:Ex} (h:Dp 1048576 e):Fit e:=⟨by have:=h.1;omega,h.2⟩
theorem Fg1 {K:Ac}:Mh K (.agg [.int .u8 0, .int .u8 0, .int .i64 0, .str [], .nilSlice, .nilSlice, .int .i64 0, .int .i64 0, .int .i64 0]) K (.agg (dEx ex0)):=
 Mh.agg (Mh.ex (k:=0) (o:=0) (n:=0) (s:= []) (li:=0) (en:=0) (t:=0) (Sub.refl K) (.exs0 (Sub.refl K)) (.as0 (Sub.refl K)))
theorem Dn3 (G:Nat->DVal) (H:Ac) (e:Ex) (he:Dp 1048576 e):Ag Tryz.prog G 212 ([]++ [.agg (dEx e)]++ []) H (Ax (.bool (!noE e)) H):=by
 refine Ab Tryz.func212 Tryz.call212 rfl (by kernel_rfl) ?_;simp(disch:=omega)only[go_sem,DVal.cells,jG,jH];intro r hr;dsimp only at hr;simp(disch:=omega)only[go_sem];refine((Lf.cons (Mh.keep (Sub.refl _) _) (Lf.cons Fg1 .nil)).call (Sub.refl _) (Hv G _ e ex0 (Gy7 he))).mono ?_;rintro _ H1 ⟨rfl,rfl⟩;simp(disch:=omega)only[go_sem];exact Fa.dropA r hr (Fa.refl ⟨rfl,rfl⟩)
theorem Cc9 (G:Nat->DVal) (H:Ac) (l:List Ex) (hl:l.length<=1099511627776) (hb: ∀x∈l,Dp 1048576 x):
  Ag Tryz.prog G 112 [dXs l] H (Ax (.bool (l.all noE)) H):=by
 refine Ab Tryz.func112 Tryz.call112 rfl (by kernel_rfl) ?_;simp(disch:=omega)only[go_sem,dXs];refine(Ak3 G _ (fun e=>!noE e) l 212 [] [] hl fun x hx=>Dn3 G _ x (hb x hx)).mono ?_;rintro _ H1 ⟨rfl,rfl⟩;rw[Yb];simp(disch:=omega)only[go_sem];exact Fa.refl ⟨by simp,rfl⟩
section
variable {G:Nat->DVal} (hG:GX G)
include hG
theorem Cy6 (H:Ac) (e:Ex) (he:Dp 1048576 e):Ag Tryz.prog G 209 ([]++ [.agg (dEx e)]++ []) H (Ax (.bool (!Ci e)) H):=by
 refine Ab Tryz.func209 Tryz.call209 rfl (by kernel_rfl) ?_;simp(disch:=omega)only[go_sem,DVal.cells,jG,jH];intro r hr;dsimp only at hr;simp(disch:=omega)only[go_sem];refine(Ab7 hG _ e he.fitx).mono ?_;rintro _ H1 ⟨rfl,rfl⟩;simp(disch:=omega)only[go_sem];exact Fa.dropA r hr (Fa.refl ⟨rfl,rfl⟩)
theorem Bs3 (H:Ac) (l:List Ex) (hl:l.length<=1099511627776) (hb: ∀x∈l,Dp 1048576 x):
  Ag Tryz.prog G 102 [dXs l] H (Ax (.bool (l.all Ci)) H):=by
 refine Ab Tryz.func102 Tryz.call102 rfl (by kernel_rfl) ?_;simp(disch:=omega)only[go_sem,dXs];refine(Ak3 G _ (fun e=>!Ci e) l 209 [] [] hl fun x hx=>Cy6 hG _ x (hb x hx)).mono ?_;rintro _ H1 ⟨rfl,rfl⟩;rw[Yb];simp(disch:=omega)only[go_sem];exact Fa.refl ⟨by simp,rfl⟩
end
theorem Qg (e:Ex) (l:List DVal):(dEx e++l).take 9=dEx e:=List.take_left' (Ad e)
theorem Dz (e:Ex) (l:List DVal) (k:Nat):(dEx e++l).drop (9+k)=l.drop k:=by
 rw[<-List.drop_drop,List.drop_left' (Ad e)]
theorem Gu9 (e:Ex):(dEx e).take 9=dEx e:=by rw[<-Ad e,List.take_length]
section
variable (s:Ind) (d:Dis) (p:Par) (a:Asp) (c:Cmp) (m:Arm) (t:Typ)
theorem Da:(Dv s).take 9=dEx s.name:=by rw[Dv,Qg]
theorem Db:((Dv s).drop 9).take 9=dEx s.lo:=by rw[Dv,Dz _ _ 0,jJ,Qg]
theorem Dc:((Dv s).drop 18).take 9=dEx s.hi:=by rw[Dv,Dz _ _ 9,Dz _ _ 0,jJ,Qg]
theorem Dd:((Dv s).drop 27).take 9=dEx s.value:=by rw[Dv,Dz _ _ 18,Dz _ _ 9,Dz _ _ 0,jJ,Gu9]
theorem Ke:(Dy d).take 9=dEx d.name:=by rw[Dy,Qg]
theorem Kf:((Dy d).drop 9).take 9=dEx d.lo:=by rw[Dy,Dz _ _ 0,jJ,Qg]
theorem Kg:((Dy d).drop 18).take 9=dEx d.hi:=by rw[Dy,Dz _ _ 9,Dz _ _ 0,jJ,Gu9]
theorem Ih:(Gt p)[0]? =some (dW p.names):=rfl
theorem Ii:(Gt p)[1]? =some (.int .u8 p.mode):=rfl
theorem Ij:((Gt p).drop 2).take 9=dEx p.type:=by rw[Gt,jE,jE,jJ,Qg]
theorem Fi:((Gt p).drop 11).take 9=dEx p.e:=by rw[Gt,jE,jE,Dz _ _ 0,jJ,Qg]
theorem Iq:(Hu c)[0]? =some (dW c.names):=rfl
theorem Ir:((Hu c).drop 1).take 36=Dv c.sub:=by rw[Hu,jE,jJ,List.take_left' (An _)]
theorem Fv:((Hu c).drop 37).take 9=dEx c.e:=by
 rw[Hu,jE,List.drop_left' (An _),Qg]
theorem Qh:(La m)[0]? =some (dCl m.c):=rfl
theorem Qi:(La m)[1]? =some (Cv m.comps):=rfl
theorem Mp:(Cl t)[0]? =some (.int .u8 t.kind):=rfl
theorem Ng:(Cl t)[1]? =some (dW t.names):=rfl
theorem Nh:((Cl t).drop 2).take 9=dEx t.lo:=by rw[Cl,jE,jE,jJ,Qg]
theorem Iv:((Cl t).drop 11).take 9=dEx t.hi:=by rw[Cl,jE,jE,Dz _ _ 0,jJ,Qg]
theorem Iw:((Cl t).drop 20).take 36=Dv t.sub:=by rw[Cl,jE,jE,Dz _ _ 9,Dz _ _ 0,jJ,List.take_left' (An _)]
theorem Ix:((Cl t).drop 56).take 27=Dy t.disc:=by
 rw[Cl,jE,jE,Dz _ _ 45,Dz _ _ 36,List.drop_left' (An _),List.take_left' (Au _)]
theorem As8 (k:Nat):(Cl t)[83+k]? = [Cv t.comps, .str t.var,Ey t.arms, .bool t.limited][k]? :=by
 have h1:Cl t=(.int .u8 t.kind::dW t.names::(dEx t.lo++(dEx t.hi++(Dv t.sub++Dy t.disc))))++ [Cv t.comps, .str t.var,Ey t.arms, .bool t.limited]:=by simp [Cl]
 rw[h1,List.getElem?_append_right (by simp [Ad,An,Au])];congr 1;simp [Ad,An,Au]
theorem Iy:(Cl t)[83]? =some (Cv t.comps):=As8 t 0
theorem Iz:(Cl t)[84]? =some (.str t.var):=As8 t 1
theorem Ja:(Cl t)[85]? =some (Ey t.arms):=As8 t 2
theorem Jb:(Cl t)[86]? =some (.bool t.limited):=As8 t 3
end
section
variable (G:Nat->DVal) (H:Ac)
theorem Zf {e:Ex} {n:Nat} (h:Dp n e) (C:n<=1048576):Fo e<=1099511627776:=by have:=h.1;omega
theorem Ym (a b:Ind) (ha:Be1 1048576 a):Ag Tryz.prog G 37 [.agg (Dv a), .agg (Dv b)] H (Ax (.bool (My a b)) H):=by
 obtain⟨Y,Z,f2,f3⟩:=ha;refine Ab Tryz.func37 Tryz.call37 rfl (by kernel_rfl) ?_;simp(disch:=omega)only[go_sem,DVal.cells,jG,jH];intro L O;dsimp only at O;obtain⟨E,I⟩: ∃K',K'=upd H L (some (.cells (Dv a) 56)):=⟨_,rfl⟩;rw[<-I];have S:E L=some (.cells (Dv a) 56):=by rw[I];exact Aa _ _ _
 have U:Sub H E:=by rw[I];exact(Sub.refl _).new O _
 simp(disch:=omega)only[go_sem,DVal.cells,jG,jH];intro V W;dsimp only at W;obtain⟨K,J⟩: ∃K',K'=upd E V (some (.cells (Dv b) 56)):=⟨_,rfl⟩;rw[<-J];have X:K V=some (.cells (Dv b) 56):=by rw[J];exact Aa _ _ _
 have M:Sub E K:=by rw[J];exact(Sub.refl _).new W _
 have C:K L=some (.cells (Dv a) 56):=M _ _ S;have D:=X;have t:Sub H K:=U.trans M;clear M U X S J I;simp(disch:=omega)only[go_sem,C,D,An,Da,Db,Dc,Dd];refine Ag.monoR (Hv G K a.name b.name (Zf Y (by omega))) ?_;cases h1:Fw a.name b.name
 ·simp(disch:=omega)only[go_sem,C,D,An,Da,Db,Dc,Dd];exact Fa.sub t (.refl ⟨by simp [My, *],rfl⟩)
 simp(disch:=omega)only[go_sem,C,D,An,Da,Db,Dc,Dd];refine Ag.monoR (Hv G K a.lo b.lo (Zf Z (by omega))) ?_;cases h2:Fw a.lo b.lo
 ·simp(disch:=omega)only[go_sem,C,D,An,Da,Db,Dc,Dd];exact Fa.sub t (.refl ⟨by simp [My, *],rfl⟩)
 simp(disch:=omega)only[go_sem,C,D,An,Da,Db,Dc,Dd];refine Ag.monoR (Hv G K a.hi b.hi (Zf f2 (by omega))) ?_;cases h3:Fw a.hi b.hi
 ·simp(disch:=omega)only[go_sem,C,D,An,Da,Db,Dc,Dd];exact Fa.sub t (.refl ⟨by simp [My, *],rfl⟩)
 simp(disch:=omega)only[go_sem,C,D,An,Da,Db,Dc,Dd];refine Ag.monoR (Hv G K a.value b.value (Zf f3 (by omega))) ?_;cases h4:Fw a.value b.value
 ·simp(disch:=omega)only[go_sem,C,D,An,Da,Db,Dc,Dd];exact Fa.sub t (.refl ⟨by simp [My, *],rfl⟩)
 simp(disch:=omega)only[go_sem,C,D,An,Da,Db,Dc,Dd];exact Fa.sub t (.refl ⟨by simp [My, *],rfl⟩)
theorem Yn (a b:Dis) (ha:Ai2 1048576 a):Ag Tryz.prog G 33 [.agg (Dy a), .agg (Dy b)] H (Ax (.bool (Mz a b)) H):=by
 obtain⟨Y,Z,f2⟩:=ha;refine Ab Tryz.func33 Tryz.call33 rfl (by kernel_rfl) ?_;simp(disch:=omega)only[go_sem,DVal.cells,jG,jH];intro L O;dsimp only at O;obtain⟨E,I⟩: ∃K',K'=upd H L (some (.cells (Dy a) 58)):=⟨_,rfl⟩;rw[<-I];have S:E L=some (.cells (Dy a) 58):=by rw[I];exact Aa _ _ _
 have U:Sub H E:=by rw[I];exact(Sub.refl _).new O _
 simp(disch:=omega)only[go_sem,DVal.cells,jG,jH];intro V W;dsimp only at W;obtain⟨K,J⟩: ∃K',K'=upd E V (some (.cells (Dy b) 58)):=⟨_,rfl⟩;rw[<-J];have X:K V=some (.cells (Dy b) 58):=by rw[J];exact Aa _ _ _
 have M:Sub E K:=by rw[J];exact(Sub.refl _).new W _
 have C:K L=some (.cells (Dy a) 58):=M _ _ S;have D:=X;have t:Sub H K:=U.trans M;clear M U X S J I;simp(disch:=omega)only[go_sem,C,D,Au,Ke,Kf,Kg];refine Ag.monoR (Hv G K a.name b.name (Zf Y (by omega))) ?_;cases h1:Fw a.name b.name
 ·simp(disch:=omega)only[go_sem,C,D,Au,Ke,Kf,Kg];exact Fa.sub t (.refl ⟨by simp [Mz, *],rfl⟩)
 simp(disch:=omega)only[go_sem,C,D,Au,Ke,Kf,Kg];refine Ag.monoR (Hv G K a.lo b.lo (Zf Z (by omega))) ?_;cases h2:Fw a.lo b.lo
 ·simp(disch:=omega)only[go_sem,C,D,Au,Ke,Kf,Kg];exact Fa.sub t (.refl ⟨by simp [Mz, *],rfl⟩)
 simp(disch:=omega)only[go_sem,C,D,Au,Ke,Kf,Kg];refine Ag.monoR (Hv G K a.hi b.hi (Zf f2 (by omega))) ?_;cases h3:Fw a.hi b.hi
 ·simp(disch:=omega)only[go_sem,C,D,Au,Ke,Kf,Kg];exact Fa.sub t (.refl ⟨by simp [Mz, *],rfl⟩)
 simp(disch:=omega)only[go_sem,C,D,Au,Ke,Kf,Kg];exact Fa.sub t (.refl ⟨by simp [Mz, *],rfl⟩)
theorem Bx8 {α:Type} {a b:List α} {i:Nat} (ha:i<a.length) (hb:i<b.length) (h:a.take i=b.take i) (e:a[i]=b[i]):a.take (i+1)=b.take (i+1):=by
 rw[List.take_add_one,List.take_add_one,List.getElem?_eq_getElem ha,List.getElem?_eq_getElem hb,h,e]
theorem Ad0 (a b:List (List UInt8)) (ha:a.length<=1099511627776) (hb:b.length<=1099511627776):Ag Tryz.prog G 113 [dW a,dW b] H (Ax (.bool (decide (a=b))) H):=by
 refine Ab Tryz.func113 Tryz.call113 rfl (by kernel_rfl) ?_;by_cases hl:a.length=b.length
 ·simp(disch:=omega)only[go_sem,hl,dW];obtain⟨I,E⟩: ∃I:Nat->(Nat->DVal)->Ac->Prop,∀i env heap,I i env heap↔(H=heap/\env 0= .vslice (a.map .str) a.length/\env 1= .vslice (b.map .str) b.length/\env 12=dI b.length/\env 13=dI i/\i<=a.length/\a.take i=b.take i):=⟨_,fun _ _ _=>Iff.rfl⟩;refine Dr7.run I (fun i=>a.length-i) 0 ((E _ _ _).2 ?_) ?_
  ·simp(disch:=omega)only[go_sem];simp [hl]
  ·intro i env heap hi;obtain⟨rfl,h0,h1,C,D,hi,ht⟩:=(E _ _ _).1 hi;by_cases J:i<a.length
   ·have L:i<b.length:=by omega
    by_cases hx:a[i]=b[i]
    ·simp(disch:=omega)only[go_sem,h0,h1,C,D,hx];refine Ak (by kernel_rfl) pL12 (by kernel_rfl) ?_;simp(disch:=omega)only[go_sem,h0,h1,C,D,hx];refine⟨i+1,_,Rz.refl _,(E _ _ _).2 ?_,by omega⟩;simp(disch:=omega)only[go_sem,h0,h1,C,D];(repeat' apply And.intro)<;>(try first | rfl | assumption | omega);exact Bx8 J L ht hx
    ·simp(disch:=omega)only[go_sem,h0,h1,C,D,hx];refine Ak (by kernel_rfl) pL12 (by kernel_rfl) ?_;simp(disch:=omega)only[go_sem,h0,h1,C,D,hx];refine Fa.refl ⟨?_,rfl⟩;rw[decide_eq_false (fun e=>hx (by subst e;rfl))]
   ·simp(disch:=omega)only[go_sem,h0,h1,C,D];refine Fa.refl ⟨?_,rfl⟩;have:a=b:=by
     rw[List.take_of_length_le (by omega),List.take_of_length_le (by omega)] at ht;exact ht
    rw[decide_eq_true this]
 ·simp(disch:=omega)only[go_sem,hl,dW];refine Fa.refl ⟨?_,rfl⟩;rw[decide_eq_false (fun e=>hl (by rw[e]))]
end
theorem El9 {d:Nat} {x:Ex} (h:Fd d x=true) (C:x.kind=4): ∃y ys,x.l=y::ys:=by
 have hf:=(Jp h).1;unfold Bg at hf;rw[if_neg (by omega),if_neg (by omega),if_neg (by omega),if_pos (.inl C)] at hf;cases hl:x.l with
 | nil=>simp [Kk,hl] at hf
 | cons y ys=>exact⟨y,ys,rfl⟩
theorem Gn4:True:=trivial
section
variable {G:Nat->DVal} (hG:GX G)
include hG
theorem Qy (H:Ac) (e:Ex) (he:Dp 1048576 e):Ag Tryz.prog G 89 [.agg (dEx e)] H (Ax (.bool (Ib e)) H):=by
 refine Ab Tryz.func89 Tryz.call89 rfl (by kernel_rfl) ?_;simp(disch:=omega)only[go_sem,DVal.cells];intro r hr;dsimp only at hr;simp(disch:=omega)only[go_sem];have h1:=he.1;refine(Ab7 hG _ e he.fitx).mono ?_;rintro _ H1 ⟨rfl,rfl⟩;cases hm:Ci e
 ·simp(disch:=omega)only[go_sem];exact Fa.dropA r hr (Fa.refl ⟨by simp [Ib,hm],rfl⟩)
 ·simp(disch:=omega)only[go_sem];have hv:Fd 1 e=true:=by unfold Ci at hm;simp only[jF] at hm;exact hm.1
  have J:Ib e=Zc (Hx e) e:=by rw[Ib,hm,jS]
  rw[J];obtain⟨I,E⟩: ∃I:Ex×Nat->(Nat->DVal)->Ac->Prop,∀C env heap,I C env heap↔(env 1= .optr r 0/\heap=upd H r (some (.cells (dEx C.1) 27))/\Hx C.1<=C.2/\Zc C.2 C.1=Zc (Hx e) e/\ ∃d,Fd d C.1=true):=⟨_,fun _ _ _=>Iff.rfl⟩;refine Dr7.run I (fun C=>C.2) (e,Hx e) ((E _ _ _).2 ?_) ?_
  ·simp(disch:=omega)only[go_sem];exact⟨1,hv⟩
  ·rintro⟨x,n⟩ env heap hi;obtain⟨e1,rfl,hn,hk,d,hd⟩:=(E _ _ _).1 hi;dsimp only at hn hk hd;have hg:upd H r (some (.cells (dEx x) 27)) r=some (.cells (dEx x) 27):=Aa _ _ _;have V:0<Hx x:=by rw[Tb];omega
   obtain⟨n,rfl⟩: ∃m,n=m+1:=⟨n-1,by omega⟩;rw[Zc] at hk;by_cases h4:x.kind=4
   ·obtain⟨y,ys,D⟩:=El9 hd h4;rw[if_pos h4,D] at hk;have hys:y∈parts x:=by rw[parts,D];simp
    have W:=Bc5 hys;have L:=(Jp hd).2 y hys;have M:(x.l.flatMap dEx).take 9=dEx y:=by rw[D,List.flatMap_cons,Qg]
    have O:9<=(x.l.flatMap dEx).length:=by rw[D,List.flatMap_cons,jC,Ad];omega
    have S:(0:Int)<(x.l.length:Int):=by rw[D,jA];omega
    have U:0<(x.l.flatMap dEx).length:=by omega
    simp(disch:=omega)only[go_sem,e1,hg,h4,M,O,S,U,Ad,Bo];refine⟨(y,n),_,Rz.refl _,(E _ _ _).2 ?_,by omega⟩;simp(disch:=omega)only[go_sem,e1];(repeat' apply And.intro)<;>(try first | rfl | assumption | omega);exact⟨d+1,L⟩
   ·rw[if_neg h4] at hk;simp(disch:=omega)only[go_sem,e1,hg,h4];exact Fa.dropA r hr (Fa.refl ⟨by rw[<-hk],rfl⟩)
end
theorem Gn5 (G:Nat->DVal) (H:Ac) (p:(List UInt8)->Bool) (l:List (List UInt8)) (g:FuncId) (xs D:List DVal) (hl:l.length<=1099511627776)
  (hp: ∀x∈l,Ag Tryz.prog G g (xs++ [.str x]++D) H (Ax (.bool (p x)) H)):
  Ag Tryz.prog G 276 [.vslice (l.map .str) l.length, .func (.func g) xs D] H (Ax (dI (Bl3 p l)) H):=by
 refine Ab Tryz.func276 Tryz.call276 rfl (by kernel_rfl) ?_;simp(disch:=omega)only[go_sem];refine Dr7.run (fun(i:Nat) env heap=>heap=H/\env 0= .vslice (l.map .str) l.length/\env 1= .func (.func g) xs D/\env 7=dI l.length/\env 8=dI i/\i<=l.length/\ ∀x∈l.take i,p x=false) (fun i=>l.length-i) 0 ?_ ?_
 ·simp(disch:=omega)only[go_sem];simp
 ·rintro i env heap ⟨rfl,h0,h1,h7,h8,hi,hn⟩;by_cases C:i<l.length
  ·skip
   simp(disch:=omega)only[go_sem,h0,h1,h7,h8,C];have hc:=hp l[i] (List.getElem_mem C)
   skip
   refine hc.mono ?_;rintro _ H ⟨rfl,rfl⟩;cases hx:p l[i] with
   | true=>
    simp(disch:=omega)only[go_sem,h0,h1,h7,h8];exact Fa.refl ⟨by rw[Ap5 C hx hn],rfl⟩
   | false=>
    simp(disch:=omega)only[go_sem,h0,h1,h7,h8];refine⟨i+1,_,Rz.refl _, ?_,by omega⟩;simp(disch:=omega)only[go_sem,h0,h1,h7,h8];(repeat' apply And.intro)<;>(try first | rfl | assumption | omega);exact On C hn hx
  ·simp(disch:=omega)only[go_sem,h0,h1,h7,h8];have:i=l.length:=by omega
   subst this;rw[List.take_length] at hn;exact Fa.refl ⟨by rw[Ap6 hn],rfl⟩
theorem Em0 (G:Nat->DVal) (H:Ac) (p:List UInt8->Bool) (l:List (List UInt8)) (g:FuncId) (xs C:List DVal) (hl:l.length<=1099511627776)
  (hp: ∀x∈l,Ag Tryz.prog G g (xs++ [.str x]++C) H (Ax (.bool (p x)) H)):
  Ag Tryz.prog G 207 [.vslice (l.map .str) l.length, .func (.func g) xs C] H (Ax (.bool (l.any p)) H):=by
 refine Ab Tryz.func207 Tryz.call207 rfl (by kernel_rfl) ?_;simp(disch:=omega)only[go_sem];refine(Gn5 G H p l g xs C hl hp).mono ?_;rintro _ H ⟨rfl,rfl⟩;simp(disch:=omega)only[go_sem];exact Fa.refl ⟨by rw[Aa9],rfl⟩
section
variable {G:Nat->DVal} (hG:GX G)
include hG
theorem Cy7 (H:Ac) (s:List UInt8) (hs:s.length<=9223372036854775807):Ag Tryz.prog G 208 ([]++ [.str s]++ []) H (Ax (.bool (!Nv s)) H):=by
 refine Ab Tryz.func208 Tryz.call208 rfl (by kernel_rfl) ?_;simp(disch:=omega)only[go_sem,jG,jH];refine(Ak1 hG _ s hs).mono ?_;rintro _ H1 ⟨rfl,rfl⟩;simp(disch:=omega)only[go_sem];exact Fa.refl ⟨rfl,rfl⟩
theorem Am1 (H:Ac) (l:List (List UInt8)) (m:Nat) (hl:Be0 1048576 l):Ag Tryz.prog G 100 [dW l,dI m] H (Ax (.bool (Il l m)) H):=by
 have E:=hl.1;refine Ab Tryz.func100 Tryz.call100 rfl (by kernel_rfl) ?_;simp(disch:=omega)only[go_sem,dW];by_cases h0:0<l.length
 ·have C:(0:Int)<(l.length:Int):=by omega
  by_cases h1:l.length<=m
  ·have D:(l.length:Int)<=(m:Int):=by omega
   simp(disch:=omega)only[go_sem,C,D];refine(Em0 G _ (fun e=>!Nv e) l 208 [] [] (by omega) fun x hx=>Cy7 hG _ x (hl.2 x hx)).mono ?_;rintro _ H1 ⟨rfl,rfl⟩;rw[Yb];simp(disch:=omega)only[go_sem];exact Fa.refl ⟨by simp [Il,h1];omega,rfl⟩
  ·have D: ¬(l.length:Int)<=(m:Int):=by omega
   simp(disch:=omega)only[go_sem,C,D];exact Fa.refl ⟨by simp [Il,h1],rfl⟩
 ·have C: ¬(0:Int)<(l.length:Int):=by omega
  simp(disch:=omega)only[go_sem,C];exact Fa.refl ⟨by simp [Il];omega,rfl⟩
end
theorem Sk (d:Dis):(Dy d)[0]? =some (.int .u8 d.name.kind):=by
 obtain⟨⟨k,o,n,s,l,a,li,en,t⟩,lo,hi⟩:=d;simp [Dy,Xz,Ex.kind]
theorem Jy (G:Nat->DVal) (H:Ac) (l:List Ex) (r:Nat) (C:H r=some (.cells (l.flatMap dEx) 27)) (hl:l.length<=1099511627776) (hb: ∀x∈l,Dp 1048576 x):
  Ag Tryz.prog G 112 [.oslice 9 r 0 l.length l.length] H (Ax (.bool (l.all noE)) H):=
 Lf.lent (H:=h0) (Lf.cons (Mh.cells (fun _ _ h=>by cases h) rfl C (Aw Ad l) (.keep (fun _ _ h=>by cases h) _)) .nil) (Cc9 G h0 l hl hb) rfl
structure Hid (p:Prop):Prop where
 h:p
theorem Gn6 {α β:Type} {t:α} {v:β} {q:α->β->Prop} {R:Prop} (a:q t v->R) (b:q t v):R:=a b
section
variable {G:Nat->DVal} (hG:GX G)
include hG
theorem Oz (H:Ac) (l:List Ex) (r:Nat) (C:H r=some (.cells (l.flatMap dEx) 27)) (hl:l.length<=1099511627776) (hb: ∀x∈l,Dp 1048576 x):
  Ag Tryz.prog G 102 [.oslice 9 r 0 l.length l.length] H (Ax (.bool (l.all Ci)) H):=
 Lf.lent (H:=h0) (Lf.cons (Mh.cells (fun _ _ h=>by cases h) rfl C (Aw Ad l) (.keep (fun _ _ h=>by cases h) _)) .nil) (Bs3 hG h0 l hl hb) rfl
set_option maxHeartbeats 40000000 in
theorem Rv (H:Ac) (s:Ind) (hs:Be1 1048576 s):Ag Tryz.prog G 104 [.agg (Dv s)] H (Ax (.bool (En s)) H):=by
 obtain⟨f0,f1,f2,f3⟩:=hs;have p2: ∀x∈ [s.lo,s.hi],Dp 1048576 x:=by intro x hx;simp at hx;rcases hx with rfl | rfl<;>assumption
 have p1: ∀x∈ [s.value],Dp 1048576 x:=by intro x hx;simp at hx;subst hx;assumption
 have e2: [s.lo,s.hi].all noE=(noE s.lo&&noE s.hi):=by simp
 have e1: [s.value].all noE=noE s.value:=by simp
 have d2: [s.lo,s.hi].all Ci=(Ci s.lo&&Ci s.hi):=by simp
 have d1: [s.value].all Ci=Ci s.value:=by simp
 have q2: [s.lo,s.hi].flatMap dEx=dEx s.lo++dEx s.hi:=by simp
 have q1: [s.value].flatMap dEx=dEx s.value:=by simp
 refine Ab Tryz.func104 Tryz.call104 rfl (by kernel_rfl) ?_;simp(disch:=omega)only[go_sem,DVal.cells];intro M al;dsimp only at al;obtain⟨K,hK⟩: ∃K',K'=upd H M (some (.cells (Dv s) 56)):=⟨_,rfl⟩;rw[<-hK];have ab:K M=some (.cells (Dv s) 56):=by rw[hK];exact Aa _ _ _
 have sK:Sub H K:=by rw[hK];exact(Sub.refl _).new al _
 simp(disch:=omega)only[go_sem,ab,An,Da,Db,Dc,Dd,Al (Ad _),Bd (Ad _) (Ad _)];refine Ak (by kernel_rfl) (.take 0 (.take 1 (.take 2 (.take 3 (.take 7 (.take 8 (.alt (.go 9 [3,1] (.go 4 [8] (.go 5 [8] (.take 6 (.go 10 [] (.take 11 (.take 12 (.take 13 .done)))))))) (.go 4 [8] (.alt (.go 9 [3,1] (.go 5 [8] (.take 6 (.go 10 [] (.take 11 (.take 12 (.take 13 .done))))))) (.go 5 [8] (.take 6 (.go 9 [3,1] (.go 10 [] (.take 11 (.take 12 (.take 13 .done)))))))))))))))) (by kernel_rfl) ?_;simp(disch:=omega)only[go_sem,ab,An,Da,Db,Dc,Dd,Al (Ad _),Bd (Ad _) (Ad _)];apply Gn6 (q:=fun(T:DK) (V:DExit->DS->Prop)=>Hid (∀E C,Sub H C->C M=some (.cells (Dv s) 56)->E 1= .optr M 0->E 3= .bool (!(noE s.lo&&noE s.hi))->E 4= .bool (!noE s.value)->Ag Tryz.prog G 89 [.agg (dEx s.name)] C (Av9 (some 19) T V E)))
 case a=>
  intro tail;refine⟨?_, ?_⟩
  ·intro J aa;dsimp only at aa;obtain⟨I,ac⟩: ∃K',K'=upd K J (some (.cells (dEx s.value) 27)):=⟨_,rfl⟩;rw[<-ac];have ag:I J=some (.cells (dEx s.value) 27):=by rw[ac];exact Aa _ _ _
   have af:Sub K I:=by rw[ac];exact(Sub.refl _).new aa _
   have L:I M=some (.cells (Dv s) 56):=af _ _ ab;simp(disch:=omega)only[go_sem,L,An,Da,Db,Dc,Dd,Al (Ad _),Bd (Ad _) (Ad _)];refine⟨⟨ab.symm,ab.symm⟩, ?_⟩;intro Y ah;dsimp only at ah;obtain⟨C,O⟩: ∃K',K'=upd I Y (some (.cells (dEx s.lo++dEx s.hi) 27)):=⟨_,rfl⟩;rw[<-O];have ai:C Y=some (.cells (dEx s.lo++dEx s.hi) 27):=by rw[O];exact Aa _ _ _
   have X:Sub I C:=by rw[O];exact(Sub.refl _).new ah _
   have D:C M=some (.cells (Dv s) 56):=X _ _ L;have ap:C J=some (.cells (dEx s.value) 27):=X _ _ ag;have t:Sub H C:=sK.trans (af.trans X);simp(disch:=omega)only[go_sem,D,An,Da,Db,Dc,Dd,Al (Ad _),Bd (Ad _) (Ad _)];refine⟨L.symm, ?_⟩;refine Ag.monoR (Jy G C [s.lo,s.hi] Y (by rw[q2];exact ai) (by simp) p2) ?_;rw[e2];simp(disch:=omega)only[go_sem,D,An,Da,Db,Dc,Dd,Al (Ad _),Bd (Ad _) (Ad _)];refine Ag.monoR (Jy G C [s.value] J (by rw[q1];exact ap) (by simp) p1) ?_;rw[e1];simp(disch:=omega)only[go_sem,D,An,Da,Db,Dc,Dd,Al (Ad _),Bd (Ad _) (Ad _)];apply tail.h
   ·exact t
   ·exact D
   ·first | rfl | simp(disch:=omega)only[go_sem]
   ·first | rfl | simp(disch:=omega)only[go_sem]
   ·first | rfl | simp(disch:=omega)only[go_sem]
  ·intro Y ah;dsimp only at ah;obtain⟨I,ac⟩: ∃K',K'=upd K Y (some (.cells (dEx s.lo++dEx s.hi) 27)):=⟨_,rfl⟩;rw[<-ac];have ai:I Y=some (.cells (dEx s.lo++dEx s.hi) 27):=by rw[ac];exact Aa _ _ _
   have af:Sub K I:=by rw[ac];exact(Sub.refl _).new ah _
   have L:I M=some (.cells (Dv s) 56):=af _ _ ab;simp(disch:=omega)only[go_sem,L,An,Da,Db,Dc,Dd,Al (Ad _),Bd (Ad _) (Ad _)];refine⟨ab.symm, ?_, ?_⟩
   ·intro J aa;dsimp only at aa;obtain⟨C,O⟩: ∃K',K'=upd I J (some (.cells (dEx s.value) 27)):=⟨_,rfl⟩;rw[<-O];have ag:C J=some (.cells (dEx s.value) 27):=by rw[O];exact Aa _ _ _
    have X:Sub I C:=by rw[O];exact(Sub.refl _).new aa _
    have D:C M=some (.cells (Dv s) 56):=X _ _ L;have g9:C Y=some (.cells (dEx s.lo++dEx s.hi) 27):=X _ _ ai;have t:Sub H C:=sK.trans (af.trans X);simp(disch:=omega)only[go_sem,D,An,Da,Db,Dc,Dd,Al (Ad _),Bd (Ad _) (Ad _)];refine⟨⟨L.symm,L.symm⟩, ?_⟩;refine Ag.monoR (Jy G C [s.lo,s.hi] Y (by rw[q2];exact g9) (by simp) p2) ?_;rw[e2];simp(disch:=omega)only[go_sem,D,An,Da,Db,Dc,Dd,Al (Ad _),Bd (Ad _) (Ad _)];refine Ag.monoR (Jy G C [s.value] J (by rw[q1];exact ag) (by simp) p1) ?_;rw[e1];simp(disch:=omega)only[go_sem,D,An,Da,Db,Dc,Dd,Al (Ad _),Bd (Ad _) (Ad _)];apply tail.h
    ·exact t
    ·exact D
    ·first | rfl | simp(disch:=omega)only[go_sem]
    ·first | rfl | simp(disch:=omega)only[go_sem]
    ·first | rfl | simp(disch:=omega)only[go_sem]
   ·refine Ag.monoR (Jy G I [s.lo,s.hi] Y (by rw[q2];exact ai) (by simp) p2) ?_;rw[e2];simp(disch:=omega)only[go_sem,L,An,Da,Db,Dc,Dd,Al (Ad _),Bd (Ad _) (Ad _)];intro J aa;dsimp only at aa;obtain⟨C,O⟩: ∃K',K'=upd I J (some (.cells (dEx s.value) 27)):=⟨_,rfl⟩;rw[<-O];have ag:C J=some (.cells (dEx s.value) 27):=by rw[O];exact Aa _ _ _
    have X:Sub I C:=by rw[O];exact(Sub.refl _).new aa _
    have D:C M=some (.cells (Dv s) 56):=X _ _ L;have t:Sub H C:=sK.trans (af.trans X);simp(disch:=omega)only[go_sem,D,An,Da,Db,Dc,Dd,Al (Ad _),Bd (Ad _) (Ad _)];refine⟨⟨L.symm,L.symm⟩, ?_⟩;refine Ag.monoR (Jy G C [s.value] J (by rw[q1];exact ag) (by simp) p1) ?_;rw[e1];simp(disch:=omega)only[go_sem,D,An,Da,Db,Dc,Dd,Al (Ad _),Bd (Ad _) (Ad _)];apply tail.h
    ·exact t
    ·exact D
    ·first | rfl | simp(disch:=omega)only[go_sem]
    ·first | rfl | simp(disch:=omega)only[go_sem]
    ·first | rfl | simp(disch:=omega)only[go_sem]
 case b=>
  refine⟨fun E C t D S U W=> ?_⟩;refine Ag.monoR (Qy hG C s.name f0) ?_;cases h3:Ib s.name
  ·simp(disch:=omega)only[go_sem,S,U,W,D,An,Da,Db,Dc,Dd,Al (Ad _),Bd (Ad _) (Ad _)];exact Fa.sub t (.refl ⟨by simp [En, *],rfl⟩)
  ·cases h1:(noE s.lo&&noE s.hi)<;>cases h2:noE s.value
   ·simp(disch:=omega)only[go_sem,S,U,W,h1,h2,Bool.not_true,Bool.not_false,D,An,Da,Db,Dc,Dd,Al (Ad _),Bd (Ad _) (Ad _)];exact Fa.sub t (.refl ⟨by rw[En,h3,h2,h1];simp,rfl⟩)
   ·simp(disch:=omega)only[go_sem,S,U,W,h1,h2,Bool.not_true,Bool.not_false,D,An,Da,Db,Dc,Dd,Al (Ad _),Bd (Ad _) (Ad _)];intro aj am;dsimp only at am;obtain⟨Z,ad⟩: ∃K',K'=upd C aj (some (.cells (dEx s.lo++dEx s.hi) 27)):=⟨_,rfl⟩;rw[<-ad];have aq:Z aj=some (.cells (dEx s.lo++dEx s.hi) 27):=by rw[ad];exact Aa _ _ _
    have ae:Sub C Z:=by rw[ad];exact(Sub.refl _).new am _
    have g4:Z M=some (.cells (Dv s) 56):=ae _ _ D;simp(disch:=omega)only[go_sem,S,U,W,h1,h2,Bool.not_true,Bool.not_false,g4,An,Da,Db,Dc,Dd,Al (Ad _),Bd (Ad _) (Ad _)];refine Ag.monoR (Oz hG Z [s.lo,s.hi] aj (by rw[q2];exact aq) (by simp) p2) ?_;rw[d2];cases h5:(Ci s.lo&&Ci s.hi)
    ·simp(disch:=omega)only[go_sem,S,U,W,h1,h2,Bool.not_true,Bool.not_false,g4,An,Da,Db,Dc,Dd,Al (Ad _),Bd (Ad _) (Ad _)];exact Fa.sub (t.trans ae) (.refl ⟨by rw[En,h3,h2,h1,h5];simp,rfl⟩)
    ·simp(disch:=omega)only[go_sem,S,U,W,h1,h2,Bool.not_true,Bool.not_false,g4,An,Da,Db,Dc,Dd,Al (Ad _),Bd (Ad _) (Ad _)];exact Fa.sub (t.trans ae) (.refl ⟨by rw[En,h3,h2,h1,h5];simp,rfl⟩)
   ·simp(disch:=omega)only[go_sem,S,U,W,h1,h2,Bool.not_true,Bool.not_false,D,An,Da,Db,Dc,Dd,Al (Ad _),Bd (Ad _) (Ad _)];intro ak ao;dsimp only at ao;obtain⟨Z,ad⟩: ∃K',K'=upd C ak (some (.cells (dEx s.value) 27)):=⟨_,rfl⟩;rw[<-ad];have ar:Z ak=some (.cells (dEx s.value) 27):=by rw[ad];exact Aa _ _ _
    have ae:Sub C Z:=by rw[ad];exact(Sub.refl _).new ao _
    have g4:Z M=some (.cells (Dv s) 56):=ae _ _ D;simp(disch:=omega)only[go_sem,S,U,W,h1,h2,Bool.not_true,Bool.not_false,g4,An,Da,Db,Dc,Dd,Al (Ad _),Bd (Ad _) (Ad _)];refine Ag.monoR (Oz hG Z [s.value] ak (by rw[q1];exact ar) (by simp) p1) ?_;rw[d1];cases h5:Ci s.value
    ·simp(disch:=omega)only[go_sem,S,U,W,h1,h2,Bool.not_true,Bool.not_false,g4,An,Da,Db,Dc,Dd,Al (Ad _),Bd (Ad _) (Ad _)];exact Fa.sub (t.trans ae) (.refl ⟨by rw[En,h3,h2,h1,h5];simp,rfl⟩)
    ·simp(disch:=omega)only[go_sem,S,U,W,h1,h2,Bool.not_true,Bool.not_false,g4,An,Da,Db,Dc,Dd,Al (Ad _),Bd (Ad _) (Ad _)];exact Fa.sub (t.trans ae) (.refl ⟨by rw[En,h3,h2,h1,h5];simp,rfl⟩)
   ·simp(disch:=omega)only[go_sem,S,U,W,h1,h2,Bool.not_true,Bool.not_false,D,An,Da,Db,Dc,Dd,Al (Ad _),Bd (Ad _) (Ad _)];exact Fa.sub t (.refl ⟨by rw[En,h3,h2,h1];simp,rfl⟩)
end
section
variable {G:Nat->DVal} (hG:GX G)
include hG
set_option maxHeartbeats 40000000 in
theorem Vq (H:Ac) (d:Dis) (hd:Ai2 1048576 d):Ag Tryz.prog G 32 [.agg (Dy d)] H (Ax (.bool (Fh d)) H):=by
 obtain⟨f0,f1,f2⟩:=hd;have p2: ∀x∈ [d.lo,d.hi],Dp 1048576 x:=by intro x hx;simp at hx;rcases hx with rfl | rfl<;>assumption
 have p1: ∀x∈ [d.name],Dp 1048576 x:=by intro x hx;simp at hx;subst hx;assumption
 have e2: [d.lo,d.hi].all noE=(noE d.lo&&noE d.hi):=by simp
 have e1: [d.name].all noE=noE d.name:=by simp
 have d2: [d.lo,d.hi].all Ci=(Ci d.lo&&Ci d.hi):=by simp
 have d1: [d.name].all Ci=Ci d.name:=by simp
 have q2: [d.lo,d.hi].flatMap dEx=dEx d.lo++dEx d.hi:=by simp
 have q1: [d.name].flatMap dEx=dEx d.name:=by simp
 refine Ab Tryz.func32 Tryz.call32 rfl (by kernel_rfl) ?_;simp(disch:=omega)only[go_sem,DVal.cells];intro L ad;dsimp only at ad;obtain⟨K,W⟩: ∃K',K'=upd H L (some (.cells (Dy d) 58)):=⟨_,rfl⟩;rw[<-W];have ae:K L=some (.cells (Dy d) 58):=by rw[W];exact Aa _ _ _
 have sK:Sub H K:=by rw[W];exact(Sub.refl _).new ad _
 simp(disch:=omega)only[go_sem,ae,Au,Ke,Kf,Kg,Sk,Al (Ad _),Bd (Ad _) (Ad _)];intro X af;dsimp only at af;obtain⟨D,Y⟩: ∃K',K'=upd K X (some (.cells (dEx d.lo++dEx d.hi) 27)):=⟨_,rfl⟩;rw[<-Y];have al:D X=some (.cells (dEx d.lo++dEx d.hi) 27):=by rw[Y];exact Aa _ _ _
 have ag:Sub K D:=by rw[Y];exact(Sub.refl _).new af _
 have E:D L=some (.cells (Dy d) 58):=ag _ _ ae;have S:Sub H D:=sK.trans ag;simp(disch:=omega)only[go_sem,E,Au,Ke,Kf,Kg,Sk,Al (Ad _),Bd (Ad _) (Ad _)];refine Ag.monoR (Jy G D [d.lo,d.hi] X (by rw[q2];exact al) (by simp) p2) ?_;rw[e2];cases h1:(noE d.lo&&noE d.hi)
 ·simp(disch:=omega)only[go_sem,E,Au,Ke,Kf,Kg,Sk,Al (Ad _),Bd (Ad _) (Ad _)];intro Z ah;dsimp only at ah;obtain⟨C,I⟩: ∃K',K'=upd D Z (some (.cells (dEx d.lo++dEx d.hi) 27)):=⟨_,rfl⟩;rw[<-I];have am:C Z=some (.cells (dEx d.lo++dEx d.hi) 27):=by rw[I];exact Aa _ _ _
  have O:Sub D C:=by rw[I];exact(Sub.refl _).new ah _
  have J:C L=some (.cells (Dy d) 58):=O _ _ E;have U:Sub H C:=S.trans O;simp(disch:=omega)only[go_sem,J,Au,Ke,Kf,Kg,Sk,Al (Ad _),Bd (Ad _) (Ad _)];refine Ag.monoR (Oz hG C [d.lo,d.hi] Z (by rw[q2];exact am) (by simp) p2) ?_;rw[d2];cases h2:(Ci d.lo&&Ci d.hi)
  ·simp(disch:=omega)only[go_sem,J,Au,Ke,Kf,Kg,Sk,Al (Ad _),Bd (Ad _) (Ad _)];exact Fa.sub U (.refl ⟨by rw[Fh,h1,h2];simp,rfl⟩)
  ·simp(disch:=omega)only[go_sem,J,Au,Ke,Kf,Kg,Sk,Al (Ad _),Bd (Ad _) (Ad _)];intro aa ai;dsimp only at ai;obtain⟨M,ab⟩: ∃K',K'=upd C aa (some (.cells (dEx d.name) 27)):=⟨_,rfl⟩;rw[<-ab];have ao:M aa=some (.cells (dEx d.name) 27):=by rw[ab];exact Aa _ _ _
   have aj:Sub C M:=by rw[ab];exact(Sub.refl _).new ai _
   have V:M L=some (.cells (Dy d) 58):=aj _ _ J;have t4:Sub H M:=U.trans aj;simp(disch:=omega)only[go_sem,V,Au,Ke,Kf,Kg,Sk,Al (Ad _),Bd (Ad _) (Ad _)];refine Ag.monoR (Jy G M [d.name] aa (by rw[q1];exact ao) (by simp) p1) ?_;rw[e1];cases h3:noE d.name
   ·simp(disch:=omega)only[go_sem,V,Au,Ke,Kf,Kg,Sk,Al (Ad _),Bd (Ad _) (Ad _)];refine Ag.monoR (Qy hG M d.name f0) ?_;simp(disch:=omega)only[go_sem,V,Au,Ke,Kf,Kg,Sk,Al (Ad _),Bd (Ad _) (Ad _)];exact Fa.sub t4 (.refl ⟨by rw[Fh,h1,h2,h3];simp,rfl⟩)
   ·simp(disch:=omega)only[go_sem,V,Au,Ke,Kf,Kg,Sk,Al (Ad _),Bd (Ad _) (Ad _)];exact Fa.sub t4 (.refl ⟨by rw[Fh,h1,h2,h3];simp,rfl⟩)
 ·simp(disch:=omega)only[go_sem,E,Au,Ke,Kf,Kg,Sk,Al (Ad _),Bd (Ad _) (Ad _)];refine Ag.monoR (Qy hG D d.name f0) ?_;cases h2:Ib d.name
  ·by_cases h4:d.name.kind=6
   ·simp(disch:=omega)only[go_sem,E,h4,Au,Ke,Kf,Kg,Sk,Al (Ad _)];intro ac ak;dsimp only at ak;obtain⟨C,I⟩: ∃K',K'=upd D ac (some (.cells (dEx d.name) 27)):=⟨_,rfl⟩;rw[<-I];have ap:C ac=some (.cells (dEx d.name) 27):=by rw[I];exact Aa _ _ _
    have O:Sub D C:=by rw[I];exact(Sub.refl _).new ak _
    have J:C L=some (.cells (Dy d) 58):=O _ _ E;have U:Sub H C:=S.trans O;simp(disch:=omega)only[go_sem,J,Au,Ke,Kf,Kg,Sk,Al (Ad _),Bd (Ad _) (Ad _)];refine Ag.monoR (Oz hG C [d.name] ac (by rw[q1];exact ap) (by simp) p1) ?_;rw[d1];simp(disch:=omega)only[go_sem,J,Au,Ke,Kf,Kg,Sk,Al (Ad _),Bd (Ad _) (Ad _)];exact Fa.sub U (.refl ⟨by rw[Fh,h1,h2];simp [h4],rfl⟩)
   ·simp(disch:=omega)only[go_sem,E,h4,Au,Ke,Kf,Kg,Sk,Al (Ad _)];exact Fa.sub S (.refl ⟨by rw[Fh,h1,h2];simp [h4],rfl⟩)
  ·simp(disch:=omega)only[go_sem,E,Au,Ke,Kf,Kg,Sk,Al (Ad _),Bd (Ad _) (Ad _)];exact Fa.sub S (.refl ⟨by rw[Fh,h1,h2];simp,rfl⟩)
end
theorem Gn7 (G:Nat->DVal) (H:Ac) (l:List Par) (p:Par->Bool) (C:Par->List (List UInt8)) (S U:FuncId) (hl:l.length<=1048576) (Z: ∀x∈l,(C x).length<=1048576)
  (h1: ∀x∈l,∀K,Ag Tryz.prog G S ([]++ [.agg (Gt x)]++ []) K (Ax (dW (C x)) K)) (h2: ∀x∈l,∀K,Ag Tryz.prog G U ([]++ [.agg (Gt x)]++ []) K (Ax (.bool (p x)) K)):
  Ag Tryz.prog G 124 [.vslice (l.flatMap Gt) l.length, .func (.func S) [] [], .func (.func U) [] []] H (Ax (.tuple [dI (if l.all p then((l.map fun x=>(C x).length).sum:Nat) else 0), .bool (l.all p)]) H):=by
 refine Ab Tryz.func124 Tryz.call124 rfl (by kernel_rfl) ?_;simp(disch:=omega)only[go_sem];obtain⟨I,V⟩: ∃I:Nat->(Nat->DVal)->Ac->Prop,∀i env heap,I i env heap↔(heap=H/\env 1= .func (.func S) [] []/\env 2= .func (.func U) [] []/\env 10= .vslice (l.flatMap Gt) l.length/\env 11=dI l.length/\env 12=dI i/\env 6=dI (((l.take i).map fun x=>(C x).length).sum:Nat)/\i<=l.length/\((l.take i).map fun x=>(C x).length).sum<=i*1048576/\ ∀x∈l.take i,p x=true):=⟨_,fun _ _ _=>Iff.rfl⟩;refine Dr7.run I (fun i=>l.length-i) 0 ((V _ _ _).2 ?_) ?_
 ·simp(disch:=omega)only[go_sem];simp
 ·intro i env heap hi;obtain⟨rfl,e1,E,J,L,M,D,hi,hs,hp⟩:=(V _ _ _).1 hi;by_cases O:i<l.length
  ·have W:(i:Int)<(l.length:Int):=by omega
   have aa:=Co Bx l i O;have ab:IntKind.i64.wrap ((i:Int)+1)=((i+1:Nat):Int):=by rw[IntKind.wrap_i64];omega
   simp(disch:=omega)only[go_sem,e1,E,J,L,M,D,W,aa,Aw Bx];intro r hr;dsimp only at hr;simp(disch:=omega)only[go_sem,e1,E,J,L,M,D];have mx:=List.getElem_mem O;have hst:((l.take (i+1)).map fun x=>(C x).length).sum=((l.take i).map fun x=>(C x).length).sum+(C l[i]).length:=by
    rw[List.take_add_one,List.getElem?_eq_getElem O,List.map_append,List.sum_append];congr 1
   have ad:=Z l[i] mx;refine Ag.monoR (by simpa using h2 l[i] mx _) ?_;cases hx:p l[i]
   ·simp(disch:=omega)only[go_sem,e1,E,J,L,M,D];have X:l.all p=false:=by
     rw[List.all_eq_false];exact⟨l[i],mx,by simp [hx]⟩
    exact Fa.dropA r hr (Fa.refl ⟨by rw[X];rfl,rfl⟩)
   ·simp(disch:=omega)only[go_sem,e1,E,J,L,M,D];refine Ag.monoR (by simpa using h1 l[i] mx _) ?_;have ac:IntKind.i64.wrap ((((l.take i).map fun x=>(C x).length).sum:Nat)+((C l[i]).length:Int))=((((l.take (i+1)).map fun x=>(C x).length).sum:Nat):Int):=by
     rw[hst,IntKind.wrap_i64];omega
    simp(disch:=omega)only[go_sem,e1,E,J,L,M,D,dW];refine⟨i+1,_,Rz.drop _ r,(V _ _ _).2 ?_,by omega⟩;simp(disch:=omega)only[go_sem,e1,E,J,L,M,D,ac,ab];(repeat' apply And.intro)<;>(try first | rfl | assumption | omega)
    ·exact Aa8 hr
    ·rw[hst];rfl
    ·intro x Y;rw[List.take_add_one,List.getElem?_eq_getElem O] at Y;rcases List.mem_append.1 Y with h | h
     ·exact hp x h
     ·simp at h;subst h;exact hx
  ·have:i=l.length:=by omega
   subst this;rw[List.take_length] at hp D;have X:l.all p=true:=by rw[List.all_eq_true];exact hp
   have W: ¬(l.length:Int)<(l.length:Int):=by omega
   simp(disch:=omega)only[go_sem,e1,E,J,L,M,D,W];exact Fa.refl ⟨by rw[X];rfl,rfl⟩
theorem Fg2 (G:Nat->DVal) (H:Ac) (p:Par):Ag Tryz.prog G 125 ([]++ [.agg (Gt p)]++ []) H (Ax (dW p.names) H):=by
 refine Ab Tryz.func125 Tryz.call125 rfl (by kernel_rfl) ?_;simp(disch:=omega)only[go_sem,DVal.cells,jG,jH];intro D E;dsimp only at E;obtain⟨K,C⟩: ∃K',K'=upd H D (some (.cells (Gt p) 136)):=⟨_,rfl⟩;rw[<-C];have I:K D=some (.cells (Gt p) 136):=by rw[C];exact Aa _ _ _
 have J:Sub H K:=by rw[C];exact(Sub.refl _).new E _
 simp(disch:=omega)only[go_sem,I,Bx,Ih,Ii,Ij,Fi,Al (Ad _)];exact Fa.sub J (.refl ⟨rfl,rfl⟩)
section
variable {G:Nat->DVal} (hG:GX G)
include hG
set_option maxHeartbeats 40000000 in
theorem Dn4 (H:Ac) (p:Par) (hp:Si 1048576 p):Ag Tryz.prog G 126 ([]++ [.agg (Gt p)]++ []) H (Ax (.bool (Kb p)) H):=by
 obtain⟨f0,f1,f2⟩:=hp;have Z: ∀x∈ [p.e],Dp 1048576 x:=by intro x hx;simp at hx;subst hx;assumption
 have e1: [p.e].all noE=noE p.e:=by simp
 have d1: [p.e].all Ci=Ci p.e:=by simp
 have q1: [p.e].flatMap dEx=dEx p.e:=by simp
 refine Ab Tryz.func126 Tryz.call126 rfl (by kernel_rfl) ?_;simp(disch:=omega)only[go_sem,DVal.cells,jG,jH];intro O aa;dsimp only at aa;obtain⟨K,U⟩: ∃K',K'=upd H O (some (.cells (Gt p) 136)):=⟨_,rfl⟩;rw[<-U];have S:K O=some (.cells (Gt p) 136):=by rw[U];exact Aa _ _ _
 have sK:Sub H K:=by rw[U];exact(Sub.refl _).new aa _
 simp(disch:=omega)only[go_sem,S,Bx,Ih,Ii,Ij,Fi,Al (Ad _)];refine Ak (by kernel_rfl) (.take 0 (.take 1 (.take 2 (.take 3 (.take 4 (.go 5 [1] (.go 6 [1] (.take 7 (.take 8 (.take 9 .done)))))))))) (by kernel_rfl) ?_;simp(disch:=omega)only[go_sem,S,Bx,Ih,Ii,Ij,Fi,Al (Ad _)];intro V ab;dsimp only at ab;obtain⟨E,W⟩: ∃K',K'=upd K V (some (.cells (dEx p.e) 27)):=⟨_,rfl⟩;rw[<-W];have af:E V=some (.cells (dEx p.e) 27):=by rw[W];exact Aa _ _ _
 have ac:Sub K E:=by rw[W];exact(Sub.refl _).new ab _
 have C:E O=some (.cells (Gt p) 136):=ac _ _ S;have D:Sub H E:=sK.trans ac;simp(disch:=omega)only[go_sem,C,Bx,Ih,Ii,Ij,Fi,Al (Ad _)];refine⟨S.symm, ?_⟩;refine Ag.monoR (Jy G E [p.e] V (by rw[q1];exact af) (by simp) Z) ?_;rw[e1];simp(disch:=omega)only[go_sem,C,Bx,Ih,Ii,Ij,Fi,Al (Ad _)];refine Ag.monoR (Am1 hG E p.names 8 f0) ?_;cases h1:Il p.names 8
 ·simp(disch:=omega)only[go_sem,C,Bx,Ih,Ii,Ij,Fi,Al (Ad _)];exact Fa.sub D (.refl ⟨by rw[Kb,h1];simp,rfl⟩)
 simp(disch:=omega)only[go_sem,C,Bx,Ih,Ii,Ij,Fi,Al (Ad _)];refine Ag.monoR (Qy hG E p.type f1) ?_;cases h2:Ib p.type
 ·simp(disch:=omega)only[go_sem,C,Bx,Ih,Ii,Ij,Fi,Al (Ad _)];exact Fa.sub D (.refl ⟨by rw[Kb,h1,h2];simp,rfl⟩)
 cases h3:noE p.e
 ·by_cases I:p.mode=1
  ·simp(disch:=omega)only[go_sem,C,I,Bx,Ih,Ii,Ij,Fi,Al (Ad _)];intro X ad;dsimp only at ad;obtain⟨M,Y⟩: ∃K',K'=upd E X (some (.cells (dEx p.e) 27)):=⟨_,rfl⟩;rw[<-Y];have ag:M X=some (.cells (dEx p.e) 27):=by rw[Y];exact Aa _ _ _
   have ae:Sub E M:=by rw[Y];exact(Sub.refl _).new ad _
   have g3:M O=some (.cells (Gt p) 136):=ae _ _ C;have t3:Sub H M:=D.trans ae;simp(disch:=omega)only[go_sem,g3,Bx,Ih,Ii,Ij,Fi,Al (Ad _)];refine Ag.monoR (Oz hG M [p.e] X (by rw[q1];exact ag) (by simp) Z) ?_;rw[d1];simp(disch:=omega)only[go_sem,g3,Bx,Ih,Ii,Ij,Fi,Al (Ad _)];exact Fa.sub t3 (.refl ⟨by rw[Kb,h1,h2,Ic,h3];simp [I],rfl⟩)
  ·by_cases J:p.mode=2
   ·simp(disch:=omega)only[go_sem,C,J,Bx,Ih,Ii,Ij,Fi,Al (Ad _)];exact Fa.sub D (.refl ⟨by rw[Kb,h1,h2,Ic,h3];simp [J],rfl⟩)
   ·by_cases L:p.mode=3
    ·simp(disch:=omega)only[go_sem,C,L,Bx,Ih,Ii,Ij,Fi,Al (Ad _)];exact Fa.sub D (.refl ⟨by rw[Kb,h1,h2,Ic,h3];simp [L],rfl⟩)
    ·simp(disch:=omega)only[go_sem,C,I,J,L,Bx,Ih,Ii,Ij,Fi,Al (Ad _)];exact Fa.sub D (.refl ⟨by rw[Kb,h1,h2,Ic,h3];simp [I],rfl⟩)
 ·by_cases I:p.mode=1
  ·simp(disch:=omega)only[go_sem,C,I,Bx,Ih,Ii,Ij,Fi,Al (Ad _)];exact Fa.sub D (.refl ⟨by rw[Kb,h1,h2,Ic,h3];simp [I],rfl⟩)
  ·by_cases J:p.mode=2
   ·simp(disch:=omega)only[go_sem,C,J,Bx,Ih,Ii,Ij,Fi,Al (Ad _)];exact Fa.sub D (.refl ⟨by rw[Kb,h1,h2,Ic,h3];simp [J],rfl⟩)
   ·by_cases L:p.mode=3
    ·simp(disch:=omega)only[go_sem,C,L,Bx,Ih,Ii,Ij,Fi,Al (Ad _)];exact Fa.sub D (.refl ⟨by rw[Kb,h1,h2,Ic,h3];simp [L],rfl⟩)
    ·simp(disch:=omega)only[go_sem,C,I,J,L,Bx,Ih,Ii,Ij,Fi,Al (Ad _)];exact Fa.sub D (.refl ⟨by rw[Kb,h1,h2,Ic,h3];simp [I];omega,rfl⟩)
theorem Ps (H:Ac) (l:List Par) (hl:Ks Si 1048576 l):Ag Tryz.prog G 28 [Gm l] H (Ax (.bool (Jq l)) H):=by
 refine Ab Tryz.func28 Tryz.call28 rfl (by kernel_rfl) ?_;simp(disch:=omega)only[go_sem,Gm];refine Ag.monoR (Gn7 G H l Kb (fun p=>p.names) 125 126 hl.1 (fun x hx=>(hl.2 x hx).1.1) (fun x hx K=>Fg2 G K x) (fun x hx K=>Dn4 hG K x (hl.2 x hx))) ?_;cases h:l.all Kb
 ·simp(disch:=omega)only[go_sem];exact Fa.refl ⟨by rw[Jq,h];rfl,rfl⟩
 ·simp(disch:=omega)only[go_sem];exact Fa.refl ⟨by rw[Jq,h,As6];simp;omega,rfl⟩
end
theorem Gn8 (G:Nat->DVal) (H:Ac) (l:List Cmp) (p:Cmp->Bool) (C:Cmp->List (List UInt8)) (S U:FuncId) (hl:l.length<=1048576) (Z: ∀x∈l,(C x).length<=1048576)
  (h1: ∀x∈l,∀K,Ag Tryz.prog G S ([]++ [.agg (Hu x)]++ []) K (Ax (dW (C x)) K)) (h2: ∀x∈l,∀K,Ag Tryz.prog G U ([]++ [.agg (Hu x)]++ []) K (Ax (.bool (p x)) K)):
  Ag Tryz.prog G 277 [.vslice (l.flatMap Hu) l.length, .func (.func S) [] [], .func (.func U) [] []] H (Ax (.tuple [dI (if l.all p then((l.map fun x=>(C x).length).sum:Nat) else 0), .bool (l.all p)]) H):=by
 refine Ab Tryz.func277 Tryz.call277 rfl (by kernel_rfl) ?_;simp(disch:=omega)only[go_sem];obtain⟨I,V⟩: ∃I:Nat->(Nat->DVal)->Ac->Prop,∀i env heap,I i env heap↔(heap=H/\env 1= .func (.func S) [] []/\env 2= .func (.func U) [] []/\env 10= .vslice (l.flatMap Hu) l.length/\env 11=dI l.length/\env 12=dI i/\env 6=dI (((l.take i).map fun x=>(C x).length).sum:Nat)/\i<=l.length/\((l.take i).map fun x=>(C x).length).sum<=i*1048576/\ ∀x∈l.take i,p x=true):=⟨_,fun _ _ _=>Iff.rfl⟩;refine Dr7.run I (fun i=>l.length-i) 0 ((V _ _ _).2 ?_) ?_
 ·simp(disch:=omega)only[go_sem];simp
 ·intro i env heap hi;obtain⟨rfl,e1,E,J,L,M,D,hi,hs,hp⟩:=(V _ _ _).1 hi;by_cases O:i<l.length
  ·have W:(i:Int)<(l.length:Int):=by omega
   have aa:=Co Ca l i O;have ab:IntKind.i64.wrap ((i:Int)+1)=((i+1:Nat):Int):=by rw[IntKind.wrap_i64];omega
   simp(disch:=omega)only[go_sem,e1,E,J,L,M,D,W,aa,Aw Ca];intro r hr;dsimp only at hr;simp(disch:=omega)only[go_sem,e1,E,J,L,M,D];have mx:=List.getElem_mem O;have hst:((l.take (i+1)).map fun x=>(C x).length).sum=((l.take i).map fun x=>(C x).length).sum+(C l[i]).length:=by
    rw[List.take_add_one,List.getElem?_eq_getElem O,List.map_append,List.sum_append];congr 1
   have ad:=Z l[i] mx;refine Ag.monoR (by simpa using h2 l[i] mx _) ?_;cases hx:p l[i]
   ·simp(disch:=omega)only[go_sem,e1,E,J,L,M,D];have X:l.all p=false:=by
     rw[List.all_eq_false];exact⟨l[i],mx,by simp [hx]⟩
    exact Fa.dropA r hr (Fa.refl ⟨by rw[X];rfl,rfl⟩)
   ·simp(disch:=omega)only[go_sem,e1,E,J,L,M,D];refine Ag.monoR (by simpa using h1 l[i] mx _) ?_;have ac:IntKind.i64.wrap ((((l.take i).map fun x=>(C x).length).sum:Nat)+((C l[i]).length:Int))=((((l.take (i+1)).map fun x=>(C x).length).sum:Nat):Int):=by
     rw[hst,IntKind.wrap_i64];omega
    simp(disch:=omega)only[go_sem,e1,E,J,L,M,D,dW];refine⟨i+1,_,Rz.drop _ r,(V _ _ _).2 ?_,by omega⟩;simp(disch:=omega)only[go_sem,e1,E,J,L,M,D,ac,ab];(repeat' apply And.intro)<;>(try first | rfl | assumption | omega)
    ·exact Aa8 hr
    ·rw[hst];rfl
    ·intro x Y;rw[List.take_add_one,List.getElem?_eq_getElem O] at Y;rcases List.mem_append.1 Y with h | h
     ·exact hp x h
     ·simp at h;subst h;exact hx
  ·have:i=l.length:=by omega
   subst this;rw[List.take_length] at hp D;have X:l.all p=true:=by rw[List.all_eq_true];exact hp
   have W: ¬(l.length:Int)<(l.length:Int):=by omega
   simp(disch:=omega)only[go_sem,e1,E,J,L,M,D,W];exact Fa.refl ⟨by rw[X];rfl,rfl⟩
theorem Fg3 (G:Nat->DVal) (H:Ac) (p:Cmp):Ag Tryz.prog G 278 ([]++ [.agg (Hu p)]++ []) H (Ax (dW p.names) H):=by
 refine Ab Tryz.func278 Tryz.call278 rfl (by kernel_rfl) ?_;simp(disch:=omega)only[go_sem,DVal.cells,jG,jH];intro D E;dsimp only at E;obtain⟨K,C⟩: ∃K',K'=upd H D (some (.cells (Hu p) 202)):=⟨_,rfl⟩;rw[<-C];have I:K D=some (.cells (Hu p) 202):=by rw[C];exact Aa _ _ _
 have J:Sub H K:=by rw[C];exact(Sub.refl _).new E _
 simp(disch:=omega)only[go_sem,I,Ca,Iq,Ir,Fv,Al (Ad _)];exact Fa.sub J (.refl ⟨rfl,rfl⟩)
section
variable {G:Nat->DVal} (hG:GX G)
include hG
set_option maxHeartbeats 40000000 in
theorem Dn5 (H:Ac) (c:Cmp) (hc:Sj 1048576 c):Ag Tryz.prog G 279 ([]++ [.agg (Hu c)]++ []) H (Ax (.bool (Kc c)) H):=by
 obtain⟨f0,f1,f2⟩:=hc;have W: ∀x∈ [c.e],Dp 1048576 x:=by intro x hx;simp at hx;subst hx;assumption
 have e1: [c.e].all noE=noE c.e:=by simp
 have d1: [c.e].all Ci=Ci c.e:=by simp
 have X: [c.e].flatMap dEx=dEx c.e:=by simp
 refine Ab Tryz.func279 Tryz.call279 rfl (by kernel_rfl) ?_;simp(disch:=omega)only[go_sem,DVal.cells,jG,jH];intro E Y;dsimp only at Y;obtain⟨K,L⟩: ∃K',K'=upd H E (some (.cells (Hu c) 202)):=⟨_,rfl⟩;rw[<-L];have D:K E=some (.cells (Hu c) 202):=by rw[L];exact Aa _ _ _
 have M:Sub H K:=by rw[L];exact(Sub.refl _).new Y _
 simp(disch:=omega)only[go_sem,D,Ca,Iq,Ir,Fv,Al (Ad _)];refine Ag.monoR (Am1 hG K c.names 8 f0) ?_;cases h1:Il c.names 8
 ·simp(disch:=omega)only[go_sem,D,Ca,Iq,Ir,Fv,Al (Ad _)];exact Fa.sub M (.refl ⟨by rw[Kc,h1];simp,rfl⟩)
 simp(disch:=omega)only[go_sem,D,Ca,Iq,Ir,Fv,Al (Ad _)];refine Ag.monoR (Rv hG K c.sub f1) ?_;cases h2:En c.sub
 ·simp(disch:=omega)only[go_sem,D,Ca,Iq,Ir,Fv,Al (Ad _)];exact Fa.sub M (.refl ⟨by rw[Kc,h1,h2];simp,rfl⟩)
 simp(disch:=omega)only[go_sem,D,Ca,Iq,Ir,Fv,Al (Ad _)];intro O Z;dsimp only at Z;obtain⟨C,S⟩: ∃K',K'=upd K O (some (.cells (dEx c.e) 27)):=⟨_,rfl⟩;rw[<-S];have ad:C O=some (.cells (dEx c.e) 27):=by rw[S];exact Aa _ _ _
 have aa:Sub K C:=by rw[S];exact(Sub.refl _).new Z _
 have I:C E=some (.cells (Hu c) 202):=aa _ _ D;have t2:Sub H C:=M.trans aa;simp(disch:=omega)only[go_sem,I,Ca,Iq,Ir,Fv,Al (Ad _)];refine Ag.monoR (Jy G C [c.e] O (by rw[X];exact ad) (by simp) W) ?_;rw[e1];cases h3:noE c.e
 ·simp(disch:=omega)only[go_sem,I,Ca,Iq,Ir,Fv,Al (Ad _)];intro U ab;dsimp only at ab;obtain⟨J,V⟩: ∃K',K'=upd C U (some (.cells (dEx c.e) 27)):=⟨_,rfl⟩;rw[<-V];have ae:J U=some (.cells (dEx c.e) 27):=by rw[V];exact Aa _ _ _
  have ac:Sub C J:=by rw[V];exact(Sub.refl _).new ab _
  have g3:J E=some (.cells (Hu c) 202):=ac _ _ I;simp(disch:=omega)only[go_sem,g3,Ca,Iq,Ir,Fv,Al (Ad _)];refine Ag.monoR (Oz hG J [c.e] U (by rw[X];exact ae) (by simp) W) ?_;rw[d1];simp(disch:=omega)only[go_sem,g3,Ca,Iq,Ir,Fv,Al (Ad _)];exact Fa.sub (t2.trans ac) (.refl ⟨by rw[Kc,h1,h2,Ic,h3];simp,rfl⟩)
 ·simp(disch:=omega)only[go_sem,I,Ca,Iq,Ir,Fv,Al (Ad _)];exact Fa.sub t2 (.refl ⟨by rw[Kc,h1,h2,Ic,h3];simp,rfl⟩)
theorem Am2 (H:Ac) (l:List Cmp) (hl:Ks Sj 1048576 l):Ag Tryz.prog G 210 [Cv l] H (Ax (.tuple [dI (if l.all Kc then(Hs l:Nat) else 0), .bool (l.all Kc)]) H):=by
 refine Ab Tryz.func210 Tryz.call210 rfl (by kernel_rfl) ?_;simp(disch:=omega)only[go_sem,Cv];refine Ag.monoR (Gn8 G H l Kc (fun p=>p.names) 278 279 hl.1 (fun x hx=>(hl.2 x hx).1.1) (fun x hx K=>Fg3 G K x) (fun x hx K=>Dn5 hG K x (hl.2 x hx))) ?_;simp(disch:=omega)only[go_sem];exact Fa.refl ⟨by rw[Hs],rfl⟩
end
theorem Bh2 {α:Type} {p:α->Bool} {l:List α} {x:α} (h:x∈l) (hx:p x=false):l.all p=false:=by
 rw[List.all_eq_false];exact⟨x,h,by simp [hx]⟩
theorem Cd0 {α:Type} {p:α->Bool} {l:List α} {k:Nat} (D:k<l.length) (h: ∀x∈l.take k,p x=true) (hx:p l[k]=true): ∀x∈l.take (k+1),p x=true:=by
 intro x C;rw[List.take_add_one,List.getElem?_eq_getElem D] at C;rcases List.mem_append.1 C with a | a
 ·exact h x a
 ·simp at a;subst a;exact hx
theorem Cy8 {α:Type} {p:α->Bool} {l:List α} (h: ∀x∈l.take l.length,p x=true):l.all p=true:=by
 rw[List.take_length] at h;rw[List.all_eq_true];exact h
section
end
end Go.Dl
