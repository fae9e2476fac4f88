/- The data level and the contracts of the functions that are reached (part 9). -/
import Derived.Test.YtddbdpcgikmiaaaGreatDoorPih
set_option linter.unusedSimpArgs false
set_option linter.unusedVariables false
set_option linter.unusedSectionVars false
set_option maxHeartbeats 400000000
-- Sc
namespace Go.Dl
open Go Go.Proofs Go.RowKit
set_option maxRecDepth 100000
def Bd7 (w:List UInt8):Int:=match Cc4 w with|some v=>(v:Int)|none=> -1
theorem Eu2 {w:List UInt8} (h: ¬w.length<=10):Bd7 w= -1:=by rw[Bd7,Cc4,if_neg (λx=>h x.1)]
theorem Fp5 {w:List UInt8} (h:w.all Gx=false):Bd7 w= -1:=by rw[Bd7,Cc4,if_neg (λx=>by rw[h] at x;cases x.2.1)]
theorem Fp6 {w:List UInt8} (h: ¬Vz w<=2147483647):Bd7 w= -1:=by rw[Bd7,Cc4,if_neg (λx=>h x.2.2)]
theorem Gh6 {w:List UInt8} (h1:w.length<=10) (h2:w.all Gx=true) (h3:Vz w<=2147483647):Bd7 w=(Vz w:Int):=by rw[Bd7,Cc4,if_pos ⟨h1,h2,h3⟩]
theorem Eu3 (s:List UInt8):s.take (Fm s).length=Fm s:=(List.prefix_iff_eq_take.1 (List.takeWhile_prefix _)).symm
def Av8 (s w:List UInt8):Bool:=decide (w.length<=s.length)&&decide (s.take w.length=w)
theorem Fp7 {k:Nat} {w:List UInt8} (h:Wu[k]? =some w):(k<7/\ ∃p∈Ws,w= [p.1,p.2])\/(7<=k/\ ∃a∈At4,w= [a]):=by
 have e:Wu=Ws.map (λp=> [p.1,p.2])++At4.map (λa=> [a]):=by decide
 rw[e,List.getElem?_append] at h;split at h
 ·rename_i hk
  rw[List.getElem?_map,Option.map_eq_some_iff] at h;obtain⟨p,hp,rfl⟩:=h;exact .inl ⟨hk,p,List.mem_of_getElem? hp,rfl⟩
 ·rename_i hk
  rw[List.getElem?_map,Option.map_eq_some_iff] at h;obtain⟨a,ha,rfl⟩:=h;exact .inr ⟨by simpa [Ws] using hk,a,List.mem_of_getElem? ha,rfl⟩
theorem De9 {k:Nat} (hk:7<=k): ∀p∈Ws,[p.1,p.2]∈Wu.take k:=λp hp=>by
 have h7: ∀p∈Ws,[p.1,p.2]∈Wu.take 7:=by decide+kernel
 exact(List.take_sublist_take_left (l:=Wu) hk).subset (h7 p hp)
theorem Hf7 {a b:UInt8} {r:List UInt8}:Av8 (a::b::r) [a,b]=true:=by
 rw[Av8,jF,decide_eq_true_eq,decide_eq_true_eq];exact⟨by simp,rfl⟩
theorem Gh7 {s w:List UInt8} {k:Nat} (hk:Wu[k]? =some w) (hp:Av8 s w=true) (y: ∀u∈Wu.take k,Av8 s u=false):Ur s=w.length:=by
 rw[Av8,jF,decide_eq_true_eq,decide_eq_true_eq] at hp;obtain⟨h1,h2⟩:=hp;rcases Fp7 hk with⟨_,p,hp,rfl⟩|⟨h7,a,ha,rfl⟩
 ·match s,h1,h2 with
  |a::b::r,_,h2=>
   have e: [a,b]= [p.1,p.2]:=h2;cases e;show(if(p.1,p.2)∈Ws then 2 else _)=2;rw[if_pos hp]
 ·match s,h1,h2 with
  |x::r,_,h2=>
   have e: [x]= [a]:=h2;cases e;rw[Cg0 a r (λb r' e hm=>by
    subst e;have:=y _ (De9 h7 _ hm);rw[Hf7] at this;cases this),if_pos ha];rfl
theorem Fp8 {s:List UInt8} (y: ∀u∈Wu,Av8 s u=false):Ur s=0:=by
 match s with
 | []=>rfl
 |x::r=>
  rw[Cg0 x r (λb r' e hm=>by
   subst e;have:=y _ (List.mem_of_mem_take (De9 (Nat.le_refl 7) _ hm));rw[Hf7] at this;cases this),if_neg]
  intro hx;have h1: ∀a∈At4,[a]∈Wu:=by decide+kernel
  have:=y _ (h1 x hx);simp [Av8] at this
section
variable {G:Nat->DVal} {H:Ab}
theorem Df0 (G:Nat->DVal) (H:Ab) (s:List UInt8) (hs:s.length<=1000000000):Ad Tryz.prog G 244 [.str s] H (Am (dI (Fm s).length) H):=by
 refine dci Tryz.func244 Tryz.call244 ?_;simp only[go_sem];obtain⟨I,C⟩: ∃I:Nat->(Nat->DVal)->Ab->Prop,∀k env heap,I k env heap↔(env 0= .str s/\env 3=dI k/\k<=s.length/\(s.take k).all Fe=true/\heap=H):=⟨_,λ_ _ _=>Iff.rfl⟩;refine Ea9.run I (λk=>s.length-k) 0 ((C _ _ _).2 ?_) ?_
 ·simp only[go_sem];(repeat' apply And.intro)<;>(try first|rfl|assumption|omega)
 ·intro k env heap hi;obtain⟨D,y,hk,hw,rfl⟩:=(C _ _ _).1 hi;by_cases E:k<s.length
  ·(have J:(k:Int)<(s.length:Int):=by omega);have hg:s[k]? =some s[k]:=List.getElem?_eq_getElem E;(have L:IntKind.i64.wrap ((k:Int)+1)=((k+1:Nat):Int):=by rw[IntKind.wrap_i64];omega);simp(disch:=omega)only[go_sem,D,y,J,hg,jD];refine(Br4 G _ s[k]).mono ?_;rintro _ H1 ⟨rfl,rfl⟩;cases hb:Fe s[k] with
   |true=>
    simp only[go_sem,y];refine⟨k+1,_,Rn.refl _,(C _ _ _).2 ?_,by omega⟩;simp only[go_sem,D,L];(repeat' apply And.intro)<;>(try first|rfl|assumption|omega);rw[List.take_add_one,hg,List.all_append,hw];simpa using hb
   |false=>
    simp only[go_sem,y];exact Dj.refl ⟨by rw[Ec6 hw hg hb,List.length_take,Nat.min_eq_left (by omega)],rfl⟩
  ·(have:k=s.length:=by omega);subst this;simp(disch:=omega)only[go_sem,D,y];rw[List.take_length] at hw;exact Dj.refl ⟨by rw[At7 s hw],rfl⟩
theorem Eu4 (G:Nat->DVal) (H:Ab) (w:List UInt8):Ad Tryz.prog G 246 [.str w] H (Am (dI (Bd7 w)) H):=by
 refine dci Tryz.func246 Tryz.call246 ?_;by_cases hl:w.length<=10
 ·have E: ¬(10:Int)<(w.length:Int):=by omega
  simp only[go_sem,E];obtain⟨I,J⟩: ∃I:Nat->(Nat->DVal)->Ab->Prop,∀k env heap,I k env heap↔(env 0= .str w/\env 3=dI (Vz (w.take k))/\env 4=dI k/\k<=w.length/\(w.take k).all Gx=true/\Vz (w.take k)<10^k/\heap=H):=⟨_,λ_ _ _=>Iff.rfl⟩;refine Ea9.run I (λk=>w.length-k) 0 ((J _ _ _).2 ?_) ?_
  ·simp only[go_sem];(repeat' apply And.intro)<;>(try first|rfl|assumption|omega);decide
  ·intro k env heap hi;obtain⟨y,C,D,hk,hw,hv,rfl⟩:=(J _ _ _).1 hi;have U:10^k<=10^10:=Nat.pow_le_pow_right (by omega) (by omega);have X:Vz (w.take k)<10000000000:=Nat.lt_of_lt_of_le hv U;by_cases M:k<w.length
   ·(have V:(k:Int)<(w.length:Int):=by omega);have hg:w[k]? =some w[k]:=List.getElem?_eq_getElem M;(have Y:IntKind.i64.wrap ((k:Int)+1)=((k+1:Nat):Int):=by rw[IntKind.wrap_i64];omega);simp(disch:=omega)only[go_sem,y,D,V,hg,jD];refine(Ad9 G _ w[k]).mono ?_;rintro _ H1 ⟨rfl,rfl⟩;cases hb:Gx w[k] with
    |true=>
     have hd:=(Eq0 w[k]).1 hb;(have O:w.take (k+1)=w.take k++ [w[k]]:=by rw[List.take_add_one,hg];rfl);(have S:Vz (w.take (k+1))=10*Vz (w.take k)+(w[k].toNat-48):=by rw[O,Ep8]);(have Z:(w.take (k+1)).all Gx=true:=by rw[O,List.all_append,hw];simpa using hb);(have aa:Vz (w.take (k+1))<10^(k+1):=by rw[S,Nat.pow_succ];omega);(have w1:IntKind.i64.wrap (10*(Vz (w.take k):Int))=10*(Vz (w.take k):Int):=by rw[IntKind.wrap_i64];omega);(have w2:IntKind.u8.wrap ((w[k].toNat:Int)-48)=(w[k].toNat:Int)-48:=by rw[IntKind.wrap_u8];omega);(have w3:IntKind.i64.wrap ((w[k].toNat:Int)-48)=(w[k].toNat:Int)-48:=by rw[IntKind.wrap_i64];omega);(have W:IntKind.i64.wrap (10*(Vz (w.take k):Int)+((w[k].toNat:Int)-48))=(Vz (w.take (k+1)):Int):=by rw[IntKind.wrap_i64,S];omega);simp(disch:=omega)only[go_sem,y,C,D,hg,jD,w1,w2,w3,W];refine⟨k+1,_,Rn.refl _,(J _ _ _).2 ?_,by omega⟩;simp only[go_sem,y];(repeat' apply And.intro)<;>(try first|rfl|assumption|omega)
    |false=>
     simp only[go_sem];refine Dj.refl ⟨?_,rfl⟩;rw[Fp5 (List.all_eq_false.2 ⟨w[k],List.getElem_mem M,by rw[hb];simp⟩)]
   ·(have:k=w.length:=by omega);subst this;rw[List.take_length] at hw hv C;by_cases hb:2147483647<Vz w
    ·(have L:(2147483647:Int)<(Vz w:Int):=by omega);simp(disch:=omega)only[go_sem,y,C,D,L];exact Dj.refl ⟨by rw[Fp6 (by omega)],rfl⟩
    ·(have L: ¬(2147483647:Int)<(Vz w:Int):=by omega);simp(disch:=omega)only[go_sem,y,C,D,L];exact Dj.refl ⟨by rw[Gh6 hl hw (by omega)],rfl⟩
 ·have E:(10:Int)<(w.length:Int):=by omega
  simp only[go_sem,E];exact Dj.refl ⟨by rw[Eu2 hl],rfl⟩
theorem Eu5 (G:Nat->DVal) (H:Ab) (s:List UInt8) (hs:s.length<=1000000000):Ad Tryz.prog G 247 [.str s] H (Am (dI (Ur s)) H):=by
 refine dci Tryz.func247 Tryz.call247 ?_;simp only[go_sem];refine(Br5 G _).mono ?_;rintro _ H1 ⟨rfl,rfl⟩;simp only[go_sem,Al1];obtain⟨l,hl⟩: ∃l,l=Wu:=⟨_,rfl⟩;rw[<-hl];have V:l.length=22:=by rw[hl];rfl
 obtain⟨I,L⟩: ∃I:Nat->(Nat->DVal)->Ab->Prop,∀k env heap,I k env heap↔(env 0= .str s/\env 3= .vslice (l.map .str) l.length/\env 4=dI k/\k<=l.length/\(∀u∈l.take k,Av8 s u=false)/\heap=H1):=⟨_,λ_ _ _=>Iff.rfl⟩;refine Ea9.run I (λk=>l.length-k) 0 ((L _ _ _).2 ?_) ?_
 ·simp only[go_sem];(repeat' apply And.intro)<;>(try first|rfl|assumption|omega);intro u hu;simp at hu
 ·intro k env heap hi;obtain⟨D,C,E,hk,J,rfl⟩:=(L _ _ _).1 hi;by_cases y:k<l.length
  ·(have O:(k:Int)<(l.length:Int):=by omega);(have hg:(l.map DVal.str)[k]? =some (.str l[k]):=by rw[List.getElem?_map,List.getElem?_eq_getElem y];rfl);(have U:IntKind.i64.wrap ((k:Int)+1)=((k+1:Nat):Int):=by rw[IntKind.wrap_i64];omega);have S:Av8 s l[k]=(decide (l[k].length<=s.length)&&decide (s.take l[k].length=l[k])):=rfl;simp(disch:=omega)only[go_sem,C,E,O,y,hg,jD];refine An (.take 0 (.take 1 (.take 2 (.take 3 (.take 4 (.take 5 (.take 6 (.take 7 (.take 8 (.take 9 (.take 10 (.take 11 (.take 12 (.take 13 .done)))))))))))))) ?_;by_cases h1:l[k].length<=s.length
   ·(have M:(l[k].length:Int)<=(s.length:Int):=by omega);by_cases h2:s.take l[k].length=l[k]
    ·(have hh:Av8 s l[k]=true:=by rw[S,decide_eq_true h1,decide_eq_true h2];rfl);simp(disch:=omega)only[go_sem,D,C,E,O,y,hg,M,jD];refine Dj.refl ⟨?_,rfl⟩;rw[Gh7 (k:=k) (w:=l[k]) (by rw[<-hl];exact List.getElem?_eq_getElem y) hh (by rw[<-hl];exact J)]
    ·(have hh:Av8 s l[k]=false:=by rw[S,decide_eq_false h2,Bool.and_false]);simp(disch:=omega)only[go_sem,D,C,E,O,y,hg,M,jD];refine⟨k+1,_,Rn.refl _,(L _ _ _).2 ?_,by omega⟩;simp only[go_sem,D,C];(repeat' apply And.intro)<;>(try first|rfl|assumption|omega);exact Jm (p:=λx=>Av8 s x=false) y J hh
   ·(have M: ¬(l[k].length:Int)<=(s.length:Int):=by omega);(have hh:Av8 s l[k]=false:=by rw[S,decide_eq_false h1,jT]);simp only[go_sem,D,E,M];refine⟨k+1,_,Rn.refl _,(L _ _ _).2 ?_,by omega⟩;simp only[go_sem,D,C,U];(repeat' apply And.intro)<;>(try first|rfl|assumption|omega);exact Jm (p:=λx=>Av8 s x=false) y J hh
  ·(have:k=l.length:=by omega);subst this;simp(disch:=omega)only[go_sem,C,E];rw[List.take_length] at J;refine Dj.refl ⟨?_,rfl⟩;rw[Fp8 (by rw[<-hl];exact J)];rfl
theorem Bw6 (G:Nat->DVal) (H:Ab) (c:UInt8) (r:List UInt8) (hs:(c::r).length<=1000000000):Ad Tryz.prog G 163 [.str (c::r)] H (Am (Br3 (Fh (c::r))) H):=by
 have h0:(c::r)[0]? =some c:=rfl;have J:=Ec1 (c::r);have D:(c::r).take ((Fm (c::r)).length-0)=Fm (c::r):=Eu3 (c::r);have L:((Fm (c::r)).length:Int)<=((c::r).length:Int):=by omega
 refine dci Tryz.func163 Tryz.call163 ?_;simp only[go_sem];intro C y;dsimp only at y;simp only[go_sem];refine(Df0 G _ (c::r) hs).mono ?_;rintro _ H1 ⟨rfl,rfl⟩;simp(disch:=omega)only[go_sem,h0];refine(Yp G _ c).mono ?_;rintro _ H1 ⟨rfl,rfl⟩;generalize hw:Fm (c::r)=w at J D L;cases hle:Gl c with
 |true=>
  simp(disch:=omega)only[go_sem,D];refine(Ba5 G _ w).mono ?_;rintro _ H1 ⟨rfl,rfl⟩;cases hk:Uq w with
  |true=>
   simp only[go_sem,DVal.cells];exact Dj.dropA C y (Dj.refl ⟨by rw[Tr,hw,hle,if_pos rfl,hk,if_pos rfl];rfl,rfl⟩)
  |false=>
   simp only[go_sem];refine(Qb G _ w).mono ?_;rintro _ H1 ⟨rfl,rfl⟩;cases hn:Iv w with
   |true=>
    simp only[go_sem,DVal.cells];exact Dj.dropA C y (Dj.refl ⟨by rw[Tr,hw,hle,if_pos rfl,hk,if_neg (by simp),hn,if_pos rfl];rfl,rfl⟩)
   |false=>
    simp only[go_sem,DVal.cells];exact Dj.dropA C y (Dj.refl ⟨by rw[Tr,hw,hle,if_pos rfl,hk,if_neg (by simp),hn,if_neg (by simp)];rfl,rfl⟩)
 |false=>
  simp(disch:=omega)only[go_sem,h0];refine(Ad9 G _ c).mono ?_;rintro _ H1 ⟨rfl,rfl⟩;cases hd:Gx c with
  |true=>
   have I:Fh (c::r)=match Cc4 w with|some v=>(⟨3,0,[],v⟩,w.length)|none=>(At5,0):=by
    rw[Tr,hw,hle,if_neg (by simp),hd,if_pos rfl];cases Cc4 w<;>rfl
   simp(disch:=omega)only[go_sem,D];refine(Eu4 G _ w).mono ?_;rintro _ H1 ⟨rfl,rfl⟩;cases hv:Cc4 w with
   |some v=>
    (have E:Bd7 w=(v:Int):=by rw[Bd7,hv]);(have M: ¬(v:Int)<0:=by omega);simp only[go_sem,E,M,DVal.cells];exact Dj.dropA C y (Dj.refl ⟨by rw[I,hv];rfl,rfl⟩)
   |none=>
    (have E:Bd7 w= -1:=by rw[Bd7,hv]);simp(disch:=omega)only[go_sem,E,DVal.cells];exact Dj.dropA C y (Dj.refl ⟨by rw[I,hv];rfl,rfl⟩)
  |false=>
   have O:=Dp4 (c::r);(have S:(Ur (c::r):Int)<=((c::r).length:Int):=by omega);simp only[go_sem];refine(Eu5 G _ (c::r) hs).mono ?_;rintro _ H1 ⟨rfl,rfl⟩;simp(disch:=omega)only[go_sem,DVal.cells];exact Dj.dropA C y (Dj.refl ⟨by rw[Tr,hle,if_neg (by simp),hd,if_neg (by simp)];simp [Br3,Cu],rfl⟩)
end
theorem Gh8 {c d:UInt8} {r y:List UInt8} (C:d≠45) (h:r=d::y):Po (c::r)=false:=by
 subst h;unfold Po;split
 ·rename_i e;simp at e;exact absurd e.2.1 C
 ·rfl
theorem Gh9 {c:UInt8} {r:List UInt8} (h:r= []):Po (c::r)=false:=by
 subst h;unfold Po;split
 ·rename_i e;simp at e
 ·rfl
theorem Cr0 (G:Nat->DVal) (H:Ab) (y:List UInt8) (hs:y.length<=1000000000):Ad Tryz.prog G 57 [.str y] H (Am (.tuple [Be (Cc y).1,dI (Cc y).2.1,dI (Cc y).2.2]) H):=by
 refine dci Tryz.func57 Tryz.call57 ?_;by_cases hl:65536<y.length
 ·have ay:(65536:Int)<(y.length:Int):=by omega
  simp only[go_sem,ay];refine Dj.ghost (Mg (H:=H) (Sub.refl H) [dI 0,dI 3] rfl) (Dj.refl ⟨?_,rfl⟩);rw[Cc,if_pos hl]
 have ay: ¬(65536:Int)<(y.length:Int):=by omega
 simp only[go_sem,ay];obtain⟨I,X⟩: ∃I:Nat×Nat×List Tok->(Nat->DVal)->Ab->Prop,∀L env heap,I L env heap↔(env 0= .str y/\env 6=dI L.2.1/\env 7=dI L.1/\L.1<=y.length/\L.2.1<=L.1+1/\L.2.2.length<=8192/\Lj (y.drop L.1) L.2.1 L.2.2=Cc y/\Ik H 31 4 L.2.2.length (L.2.2.flatMap Cu) (env 5) heap):=⟨_,λ_ _ _=>Iff.rfl⟩;refine Ea9.run I (λL=>y.length-L.1) (0,1,[]) ((X _ _ _).2 ?_) ?_
 ·simp only[go_sem];(repeat' apply And.intro)<;>(try first|rfl|assumption|omega)
  ·exact(Da2 (by omega)).symm
  ·exact Ik.nil _ _ (Sub.refl _)
 ·rintro⟨k,C,ts⟩ env hp hi;obtain⟨S,E,U,hk,be,hts,hr,hv⟩:=(X _ _ _).1 hi;dsimp only at E U hk be hts hr hv;obtain⟨v,V⟩: ∃v,env 5=v:=⟨_,rfl⟩;rw[V] at hv;by_cases a7:k<y.length
  ·(have ab:(k:Int)<(y.length:Int):=by omega);(have a0:(k:Int)<=(y.length:Int):=by omega);obtain⟨c,hc⟩: ∃c,c=y[k]:=⟨_,rfl⟩;have hg:=hc.symm▸List.getElem?_eq_getElem a7;have hd:=hc.symm▸List.drop_eq_getElem_cons a7;(have a1:(y.drop k).take (y.length-k)=c::y.drop (k+1):=by rw[<-hd];exact List.take_of_length_le (by rw[List.length_drop];exact Nat.le_refl _));(have al:IntKind.i64.wrap ((k:Int)+1)=((k+1:Nat):Int):=by rw[IntKind.wrap_i64];omega);by_cases ac:c=10
   ·(have am:(c.toNat:Int)=10:=by rw[ac];rfl);simp(disch:=omega)only[go_sem,S,E,U,ab,hg,am,jD];refine⟨(k+1,C+1,ts),_,Rn.refl _,(X _ _ _).2 ?_,by dsimp only;omega⟩;simp only[go_sem,S,V];(repeat' apply And.intro)<;>(try first|rfl|assumption|omega);rw[<-hr,hd,ac,Gf1]
   have am: ¬(c.toNat:Int)=10:=Tp (d:=10) ac;by_cases ad:c=32
   ·(have ao:(c.toNat:Int)=32:=by rw[ad];rfl);simp(disch:=omega)only[go_sem,S,U,ab,hg,ao,jD];refine⟨(k+1,C,ts),_,Rn.refl _,(X _ _ _).2 ?_,by dsimp only;omega⟩;simp(disch:=omega)only[go_sem,S,V,E];(repeat' apply And.intro)<;>(try first|rfl|assumption|omega);rw[<-hr,hd,ad,Gf2]
   have ao: ¬(c.toNat:Int)=32:=Tp (d:=32) ad;by_cases a8:k+1<y.length
   ·(have ae:((k+1:Nat):Int)<(y.length:Int):=by omega);have ap:y.drop (k+1)=y[k+1]::y.drop (k+2):=List.drop_eq_getElem_cons a8;have a9:y[k+1]? =some y[k+1]:=List.getElem?_eq_getElem a8;by_cases aq:c=45
    ·(have ar:(c.toNat:Int)=45:=by rw[aq];rfl);by_cases au:y[k+1]=45
     ·(have a2:(y[k+1].toNat:Int)=45:=by rw[au];rfl);(have ba:y.drop k=45::45::y.drop (k+2):=by rw[hd,ap,aq,au]);obtain⟨h,t,bb,av,hok⟩:=Fj6 (y.drop (k+2)) C ts;rw[<-ba] at bb av hok;rw[hr] at av hok;obtain⟨p1,p2,_⟩:=Ad7 bb;have bf: ∃q,y.drop k=h++q/\(q= []\/ ∃q',q=10::q'):=by
       rcases p2 with⟨_,e⟩|⟨_,e⟩
       ·exact⟨[],by rw[e,jH],.inl rfl⟩
       ·exact⟨_,e,.inr ⟨_,rfl⟩⟩
      obtain⟨q,hq,bc⟩:=bf;have bj:0<h.length:=by
       match h,hq with
       | [],hq=>
        rw[ba] at hq;rcases bc with rfl|⟨q',rfl⟩
        ·cases hq
        ·have:=(List.cons.inj hq).1;exact absurd this (by decide)
       |x::h,_=>simp
      have bd:k+h.length+q.length=y.length:=by
       have:=congrArg List.length hq;rw[List.length_drop,jC] at this;omega
      have bg: ∀j (hj:j<h.length),y[k+j]? =some h[j]:=λj hj=>by
       rw[<-List.getElem?_drop,hq,List.getElem?_append_left hj,List.getElem?_eq_getElem hj]
      have bh:y[k+h.length]? =q[0]? :=by
       rw[<-List.getElem?_drop,hq,List.getElem?_append_right (Nat.le_refl _),Nat.sub_self]
      simp(disch:=omega)only[go_sem,S,U,ab,hg,al,ae,a9,ar,a2,jD];obtain⟨J,hJ⟩: ∃J:Nat->(Nat->DVal)->Ab->Prop,∀j env heap,J j env heap↔(env 0= .str y/\env 5=v/\env 6=dI C/\env 7=dI ((k+j:Nat):Int)/\j<=h.length/\Qa (h.take j)=true/\heap=hp):=⟨_,λ_ _ _=>Iff.rfl⟩;refine Ea9.run J (λj=>h.length-j) 0 ((hJ _ _ _).2 ?_) ?_
      ·simp only[go_sem,S,V,E,U,Nat.add_zero];(repeat' apply And.intro)<;>(try first|rfl|assumption|omega)
      ·intro j env' bk bi;obtain⟨Y,f5,f6,Z,hj,hpl,rfl⟩:=(hJ _ _ _).1 bi;by_cases aw:j<h.length
       ·(have aa:((k+j:Nat):Int)<(y.length:Int):=by omega);have a3:=bg j aw;have a4: ¬(h[j].toNat:Int)=10:=Tp (d:=10) λe=>p1 (by rw[<-e];exact List.getElem_mem aw);have hb: ¬(32<=h[j].toNat/\h[j].toNat<=126)->Qa h=false:=λx=>by
         rw[Qa,List.all_eq_false];refine⟨h[j],List.getElem_mem aw, ?_⟩;simp only[jF,decide_eq_true_eq];exact x
        by_cases h1:h[j].toNat<32
        ·(have ax:(h[j].toNat:Int)<32:=by omega);simp(disch:=omega)only[go_sem,Y,f6,Z,aa,a3,a4,ax,jD];refine Dj.ghost (Mg (H:=H) hv.sub [dI C,dI 20] rfl) (Dj.refl ⟨?_,rfl⟩);rw[av (hb (by omega))]
        ·(have ax: ¬(h[j].toNat:Int)<32:=by omega);by_cases h2:126<h[j].toNat
         ·(have a5:(126:Int)<(h[j].toNat:Int):=by omega);simp(disch:=omega)only[go_sem,Y,f6,Z,aa,a3,a4,ax,a5,jD];refine Dj.ghost (Mg (H:=H) hv.sub [dI C,dI 20] rfl) (Dj.refl ⟨?_,rfl⟩);rw[av (hb (by omega))]
         ·(have a5: ¬(126:Int)<(h[j].toNat:Int):=by omega);simp(disch:=omega)only[go_sem,Y,Z,aa,a3,a4,ax,a5,jD];refine⟨j+1,_,Rn.refl _,(hJ _ _ _).2 ?_,by omega⟩;simp only[go_sem,Y,f5,f6];(repeat' apply And.intro)<;>(try first|rfl|assumption|omega);rw[List.take_add_one,List.getElem?_eq_getElem aw,Ep6,hpl];simp [Qa];omega
       ·(have:j=h.length:=by omega);subst this;rw[List.take_length] at hpl;have a6:=hok hpl;rw[List.drop_drop] at a6;rcases bc with rfl|⟨q',rfl⟩
        ·(have aa: ¬((k+h.length:Nat):Int)<(y.length:Int):=by simp at bd;omega);simp only[go_sem,Y,Z,aa];refine⟨(k+h.length,C,ts),_,Rn.refl _,(X _ _ _).2 ?_,by dsimp only;omega⟩;simp only[go_sem,Y,f5,f6,Z];(repeat' apply And.intro)<;>(try first|rfl|assumption|omega);exact a6.symm
        ·(have aa:((k+h.length:Nat):Int)<(y.length:Int):=by simp at bd;omega);simp(disch:=omega)only[go_sem,Y,Z,aa,bh,List.getElem?_cons_zero,jD];refine⟨(k+h.length,C,ts),_,Rn.refl _,(X _ _ _).2 ?_,by dsimp only;omega⟩;simp only[go_sem,Y,f5,f6,Z];(repeat' apply And.intro)<;>(try first|rfl|assumption|omega);exact a6.symm
     ·have a2: ¬(y[k+1].toNat:Int)=45:=Tp (d:=45) au
      ·have af:Po (c::y.drop (k+1))=false:=Gh8 au ap;simp(disch:=omega)only[go_sem,S,U,ab,hg,ae,a9,ar,a2,jD,a1,a0,al];refine(Bw6 G _ c (y.drop (k+1)) (by rw[<-hd,List.length_drop];omega)).mono ?_;rintro _ H1 ⟨rfl,rfl⟩;have D:=Br2 C ts ac ad af;have hfl:=At6 (c::y.drop (k+1));rw[<-hd,List.length_drop] at hfl;rw[<-hd,hr] at D;rw[<-hd];generalize hf:Fh (y.drop k)=tn at D hfl;obtain⟨T,n⟩:=tn;dsimp only at D hfl;simp only[go_sem,Br3,DVal.cells];intro r8 M;have ag:=hv.frame M (.cells (Cu { T with line:=(C:Int) }) 31);by_cases hn:n=0
       ·(have O:(n:Int)=0:=by omega);rw[if_pos hn] at D;simp only[go_sem,E,O,Az,Ix,jH];refine Dj.ghost (Mg (H:=H) (hv.new M _).sub [dI C,dI 20] rfl) (Dj.refl ⟨?_,rfl⟩);rw[D]
       ·(have O: ¬(n:Int)=0:=by omega);rw[if_neg hn] at D;by_cases h8:ts.length=8192
        ·(have W:(ts.length:Int)=8192:=by omega);rw[if_pos h8] at D;simp only[go_sem,V,E,O,hv.dLen,W,Az,Ix,jH];refine Dj.ghost (Mg (H:=H) (hv.new M _).sub [dI C,dI 3] rfl) (Dj.refl ⟨?_,rfl⟩);rw[D]
        ·(have W: ¬(ts.length:Int)=8192:=by omega);rw[if_neg h8] at D;have hsp:Di (Cu T) 1 [dI (C:Int)]=Cu { T with line:=(C:Int) }:=rfl;have ah:By 1 [DVal.int IntKind.u8 0,DVal.int IntKind.i64 0,DVal.str [],DVal.int IntKind.i64 0]= [DVal.int IntKind.u8 0,DVal.int IntKind.i64 0,DVal.str [],DVal.int IntKind.i64 0]:=rfl;(have ai:IntKind.i64.wrap ((k:Int)+(n:Int))=((k+n:Nat):Int):=by rw[IntKind.wrap_i64];omega);simp only[go_sem,V,E,O,hv.dLen,W,Az,Gu,Ix,jH,hsp];rw[ah];simp only[go_sem,jA,jB,jE,jJ,jH];intro ns aj;simp only[go_sem,Az,Gu,Ix];refine Ik.append (m:=1) (ag.new aj _) rfl (by omega) λv2 H3 ak=> ?_;simp only[go_sem,U];refine⟨(k+n,C,ts++ [{ T with line:=(C:Int) }]),_,Rn.refl _,(X _ _ _).2 ?_,by dsimp only;omega⟩;simp only[go_sem,S,E,ai];(repeat' apply And.intro)<;>(try first|rfl|assumption|omega)
         ·rw[jC];simp;omega
         ·rw[<-List.drop_drop,<-D]
         ·have:=ak.less ((Sub.refl H).up (hv.sub.lo M) _);rw[jC,List.flatMap_append];simpa using this
    ·have ar: ¬(c.toNat:Int)=45:=Tp (d:=45) aq
     ·have af:Po (c::y.drop (k+1))=false:=Gu9 _ aq;simp(disch:=omega)only[go_sem,S,U,ab,hg,am,ao,ae,ar,jD,a1,a0,al];refine(Bw6 G _ c (y.drop (k+1)) (by rw[<-hd,List.length_drop];omega)).mono ?_;rintro _ H1 ⟨rfl,rfl⟩;have D:=Br2 C ts ac ad af;have hfl:=At6 (c::y.drop (k+1));rw[<-hd,List.length_drop] at hfl;rw[<-hd,hr] at D;rw[<-hd];generalize hf:Fh (y.drop k)=tn at D hfl;obtain⟨T,n⟩:=tn;dsimp only at D hfl;simp only[go_sem,Br3,DVal.cells];intro r8 M;have ag:=hv.frame M (.cells (Cu { T with line:=(C:Int) }) 31);by_cases hn:n=0
      ·(have O:(n:Int)=0:=by omega);rw[if_pos hn] at D;simp only[go_sem,E,O,Az,Ix,jH];refine Dj.ghost (Mg (H:=H) (hv.new M _).sub [dI C,dI 20] rfl) (Dj.refl ⟨?_,rfl⟩);rw[D]
      ·(have O: ¬(n:Int)=0:=by omega);rw[if_neg hn] at D;by_cases h8:ts.length=8192
       ·(have W:(ts.length:Int)=8192:=by omega);rw[if_pos h8] at D;simp only[go_sem,V,E,O,hv.dLen,W,Az,Ix,jH];refine Dj.ghost (Mg (H:=H) (hv.new M _).sub [dI C,dI 3] rfl) (Dj.refl ⟨?_,rfl⟩);rw[D]
       ·(have W: ¬(ts.length:Int)=8192:=by omega);rw[if_neg h8] at D;have hsp:Di (Cu T) 1 [dI (C:Int)]=Cu { T with line:=(C:Int) }:=rfl;have ah:By 1 [DVal.int IntKind.u8 0,DVal.int IntKind.i64 0,DVal.str [],DVal.int IntKind.i64 0]= [DVal.int IntKind.u8 0,DVal.int IntKind.i64 0,DVal.str [],DVal.int IntKind.i64 0]:=rfl;(have ai:IntKind.i64.wrap ((k:Int)+(n:Int))=((k+n:Nat):Int):=by rw[IntKind.wrap_i64];omega);simp only[go_sem,V,E,O,hv.dLen,W,Az,Gu,Ix,jH,hsp];rw[ah];simp only[go_sem,jA,jB,jE,jJ,jH];intro ns aj;simp only[go_sem,Az,Gu,Ix];refine Ik.append (m:=1) (ag.new aj _) rfl (by omega) λv2 H3 ak=> ?_;simp only[go_sem,U];refine⟨(k+n,C,ts++ [{ T with line:=(C:Int) }]),_,Rn.refl _,(X _ _ _).2 ?_,by dsimp only;omega⟩;simp only[go_sem,S,E,ai];(repeat' apply And.intro)<;>(try first|rfl|assumption|omega)
        ·rw[jC];simp;omega
        ·rw[<-List.drop_drop,<-D]
        ·have:=ak.less ((Sub.refl H).up (hv.sub.lo M) _);rw[jC,List.flatMap_append];simpa using this
   ·(have ae: ¬((k+1:Nat):Int)<(y.length:Int):=by omega);have ap:y.drop (k+1)= []:=List.drop_eq_nil_of_le (by omega)
    ·have af:Po (c::y.drop (k+1))=false:=Gh9 ap;simp(disch:=omega)only[go_sem,S,U,ab,hg,am,ao,ae,jD,a1,a0,al];refine(Bw6 G _ c (y.drop (k+1)) (by rw[<-hd,List.length_drop];omega)).mono ?_;rintro _ H1 ⟨rfl,rfl⟩;have D:=Br2 C ts ac ad af;have hfl:=At6 (c::y.drop (k+1));rw[<-hd,List.length_drop] at hfl;rw[<-hd,hr] at D;rw[<-hd];generalize hf:Fh (y.drop k)=tn at D hfl;obtain⟨T,n⟩:=tn;dsimp only at D hfl;simp only[go_sem,Br3,DVal.cells];intro r8 M;have ag:=hv.frame M (.cells (Cu { T with line:=(C:Int) }) 31);by_cases hn:n=0
     ·(have O:(n:Int)=0:=by omega);rw[if_pos hn] at D;simp only[go_sem,E,O,Az,Ix,jH];refine Dj.ghost (Mg (H:=H) (hv.new M _).sub [dI C,dI 20] rfl) (Dj.refl ⟨?_,rfl⟩);rw[D]
     ·(have O: ¬(n:Int)=0:=by omega);rw[if_neg hn] at D;by_cases h8:ts.length=8192
      ·(have W:(ts.length:Int)=8192:=by omega);rw[if_pos h8] at D;simp only[go_sem,V,E,O,hv.dLen,W,Az,Ix,jH];refine Dj.ghost (Mg (H:=H) (hv.new M _).sub [dI C,dI 3] rfl) (Dj.refl ⟨?_,rfl⟩);rw[D]
      ·(have W: ¬(ts.length:Int)=8192:=by omega);rw[if_neg h8] at D;have hsp:Di (Cu T) 1 [dI (C:Int)]=Cu { T with line:=(C:Int) }:=rfl;have ah:By 1 [DVal.int IntKind.u8 0,DVal.int IntKind.i64 0,DVal.str [],DVal.int IntKind.i64 0]= [DVal.int IntKind.u8 0,DVal.int IntKind.i64 0,DVal.str [],DVal.int IntKind.i64 0]:=rfl;(have ai:IntKind.i64.wrap ((k:Int)+(n:Int))=((k+n:Nat):Int):=by rw[IntKind.wrap_i64];omega);simp only[go_sem,V,E,O,hv.dLen,W,Az,Gu,Ix,jH,hsp];rw[ah];simp only[go_sem,jA,jB,jE,jJ,jH];intro ns aj;simp only[go_sem,Az,Gu,Ix];refine Ik.append (m:=1) (ag.new aj _) rfl (by omega) λv2 H3 ak=> ?_;simp only[go_sem,U];refine⟨(k+n,C,ts++ [{ T with line:=(C:Int) }]),_,Rn.refl _,(X _ _ _).2 ?_,by dsimp only;omega⟩;simp only[go_sem,S,E,ai];(repeat' apply And.intro)<;>(try first|rfl|assumption|omega)
       ·rw[jC];simp;omega
       ·rw[<-List.drop_drop,<-D]
       ·have:=ak.less ((Sub.refl H).up (hv.sub.lo M) _);rw[jC,List.flatMap_append];simpa using this
  ·(have:k=y.length:=by omega);subst this;simp(disch:=omega)only[go_sem,S,V,U];refine Dj.ghost (Li.tuple1' (pre:= []) hv.ghost rfl rfl) (Dj.refl ⟨?_,rfl⟩);rw[List.drop_length,Fj4] at hr;rw[<-hr];rfl
structure Lin where
 depth:Int
 l:List Tok
 deriving DecidableEq,Inhabited
def Xg (x:Lin):List DVal:= [dI x.depth,Be x.l]
theorem Ua (x:Lin):(Xg x).length=2:=rfl
def Pq (x:Lin):Bool:=Tq x.l&&decide (0<=x.depth)&&decide (x.depth<=80)
def Zc (x:Lin):Bool:=decide (256<2*x.depth+((Vf x.l).length:Int))
def Du7 (x:Lin):List UInt8:=Fj2 x.depth.toNat x.l++ [10]
def Mw (ls:List Lin):List UInt8:=ls.flatMap Du7
def Rp (ls:List Lin):List UInt8×Int:=if ls.all Pq then(if ls.any Zc || decide (65536<(Mw ls).length) then([],3) else(Mw ls,0)) else([],2)
section
end
section
variable {G:Nat->DVal} {H:Ab}
theorem Cr1 (G:Nat->DVal) (H:Ab) (s:List UInt8):Ad Tryz.prog G 315 [.str s] H (Am (.bool (Cz6 s)) H):=by
 refine dci Tryz.func315 Tryz.call315 ?_;simp only[go_sem];refine(Br5 G _).mono ?_;rintro _ H1 ⟨rfl,rfl⟩;simp only[go_sem];refine(Ec8 G _ Wu s (by decide)).mono ?_;rintro _ H1 ⟨rfl,rfl⟩;simp only[go_sem];exact Dj.refl ⟨by rw[Fj7],rfl⟩
end
section
variable {G:Nat->DVal} {H:Ab}
theorem Du8 (G:Nat->DVal) (H:Ab) (t:Tok):Ad Tryz.prog G 300 [.agg (Cu t)] H (Am (.bool (Ab4 t)) H):=by
 refine dci Tryz.func300 Tryz.call300 ?_;simp only[go_sem,DVal.cells];intro r hr;by_cases k1:t.kind=1
 ·by_cases y:t.n=0
  ·simp only[go_sem,Pb,Ad8,Yo,k1,y];refine(Qb G _ t.text).mono ?_;rintro _ H1 ⟨rfl,rfl⟩;simp only[go_sem];refine Dj.dropA r hr (Dj.refl ⟨?_,rfl⟩);simp [Ab4,k1,y]
  ·simp only[go_sem,Pb,Yo,k1,y];refine Dj.dropA r hr (Dj.refl ⟨?_,rfl⟩);simp [Ab4,k1,y]
 by_cases C:t.kind=2
 ·by_cases y:t.n=0
  ·simp(disch:=omega)only[go_sem,Pb,Ad8,Yo,C,y];refine(Ba5 G _ t.text).mono ?_;rintro _ H1 ⟨rfl,rfl⟩;simp only[go_sem];refine Dj.dropA r hr (Dj.refl ⟨?_,rfl⟩);simp [Ab4,C,y]
  ·simp(disch:=omega)only[go_sem,Pb,Yo,C,y];refine Dj.dropA r hr (Dj.refl ⟨?_,rfl⟩);simp [Ab4,C,y]
 by_cases D:t.kind=4
 ·by_cases y:t.n=0
  ·simp(disch:=omega)only[go_sem,Pb,Ad8,Yo,D,y];refine(Cr1 G _ t.text).mono ?_;rintro _ H1 ⟨rfl,rfl⟩;simp only[go_sem];refine Dj.dropA r hr (Dj.refl ⟨?_,rfl⟩);simp [Ab4,D,y]
  ·simp(disch:=omega)only[go_sem,Pb,Yo,D,y];refine Dj.dropA r hr (Dj.refl ⟨?_,rfl⟩);simp [Ab4,D,y]
 have hm:Ab4 t=(decide (t.kind=3)&&decide (t.text= [])&&decide (0<=t.n)&&decide (t.n<=2147483647)):=by
  rw[Ab4,if_neg k1,if_neg C,if_neg D]
 rw[hm];by_cases E:t.kind=3
 ·by_cases I:t.text= []
  ·by_cases y:0<=t.n
   ·simp(disch:=omega)only[go_sem,Pb,Ad8,Yo,E,I,y];exact Dj.dropA r hr (Dj.refl ⟨by simp,rfl⟩)
   ·simp(disch:=omega)only[go_sem,Pb,Ad8,Yo,E,I,y];exact Dj.dropA r hr (Dj.refl ⟨by simp,rfl⟩)
  ·simp(disch:=omega)only[go_sem,Pb,Ad8,E,I];exact Dj.dropA r hr (Dj.refl ⟨by simp,rfl⟩)
 ·simp only[go_sem,Pb,k1,C,D,E];exact Dj.dropA r hr (Dj.refl ⟨by simp,rfl⟩)
end
section
variable {G:Nat->DVal} {H:Ab}
def Bw7 (l:List Tok) (k:Nat):List UInt8:=Vf (l.take k)
theorem Bw8: ∀(l:List Tok) (t:Tok) (a:Option Tok),Qu a (l++ [t])=Qu a l++((match (match l.getLast? with|some x=>some x|none=>a) with|some x=>if Ad5 x t then [32] else []|none=> [])++Pa t)
 | [],t,none=>by simp [Qu]
 | [],t,some a=>by simp [Qu]
 |x::l,t,a=>by
  have ih:=Bw8 l t (some x);have C:(match l.getLast? with|some y=>some y|none=>some x)=(x::l).getLast? :=by
   cases l with
   |nil=>rfl
   |cons y l=>rw[List.getLast?_cons_cons];cases h:(y::l).getLast? with
    |none=>simp at h
    |some z=>rfl
  rw[C] at ih;cases hl:(x::l).getLast? with
  |none=>simp at hl
  |some z=>
   rw[hl] at ih;cases a with
   |none=>
    show Pa x++Qu (some x) (l++ [t])=Pa x++Qu (some x) l++_;rw[ih,jO]
   |some a=>
    show(if Ad5 a x then [32] else [])++(Pa x++Qu (some x) (l++ [t]))=(if Ad5 a x then [32] else [])++(Pa x++Qu (some x) l)++_;rw[ih];simp [jO]
theorem Du9 {l:List Tok} {k:Nat} (h:k<l.length):Bw7 l (k+1)=Bw7 l k++((if hk:0<k then(if Ad5 (l[k-1]'(by omega)) l[k] then [32] else []) else [])++Pa l[k]):=by
 rw[Bw7,List.take_add_one,List.getElem?_eq_getElem h,Vf,Option.toList_some,Bw8];congr 2;by_cases hk:0<k
 ·rw[dif_pos hk];have:(l.take k).getLast? =some (l[k-1]'(by omega)):=by
   rw[List.getLast?_eq_getElem?,List.length_take,Nat.min_eq_left (by omega),List.getElem?_take,if_pos (by omega),List.getElem?_eq_getElem (by omega)]
  rw[this]
 ·have:k=0:=by omega
  subst this;simp
theorem Eu6 {l:List Tok} {k:Nat} (h:Tq (l.take k)=true) (hk:k<l.length) (hm:Ab4 l[k]=true):Tq (l.take (k+1))=true:=by
 rw[List.take_add_one,List.getElem?_eq_getElem hk,Tq,List.all_append];rw[Tq] at h;rw[h];simp [hm]
theorem Eu7 {l:List Tok} {k:Nat} (h:Tq (l.take k)=true):(Bw7 l k).length<=33*k:=by
 have:=(Ai4 _ none h).2;rw[Bw7,Vf];rw[List.length_take] at this;omega
end
section
variable {G:Nat->DVal} {H:Ab}
theorem Fp9 {x:Lin} (h:Pq x=true) (hl:x.l.length<=100000):(Du7 x).length<=3300161:=by
 simp only[Pq,jF,decide_eq_true_eq] at h;have:=(Ai4 x.l none h.1.1).2;rw[Du7,Fj2,jC,jC,List.length_replicate,jQ,Vf];omega
theorem Bw9: ∀(ls:List Lin),ls.all Pq=true->(∀x∈ls,x.l.length<=100000)->(Mw ls).length<=3300161*ls.length
 | [],_,_=>by simp [Mw]
 |x::ls,h,hl=>by
  rw[List.all_cons,jF] at h;have h1:=Fp9 h.1 (hl x (by simp));have h2:=Bw9 ls h.2 λy C=>hl y (by simp [C]);rw[show Mw (x::ls)=Du7 x++Mw ls from rfl,jC,jA];omega
theorem Eu8 {α:Type} {f:α->List UInt8} {l:List α} {k:Nat} (hk:k<l.length):(l.take (k+1)).flatMap f=(l.take k).flatMap f++f l[k]:=by
 rw[List.take_add_one,List.getElem?_eq_getElem hk,List.flatMap_append];simp
theorem Eu9 {α:Type} {p:α->Bool} {l:List α} {k:Nat} (h:(l.take k).all p=true) (hk:k<l.length) (hp:p l[k]=true):(l.take (k+1)).all p=true:=by
 rw[List.take_add_one,List.getElem?_eq_getElem hk,List.all_append,h];simp [hp]
theorem Fq0 {α:Type} {p:α->Bool} {l:List α} {k:Nat} (hk:k<l.length):(l.take (k+1)).any p=((l.take k).any p || p l[k]):=by
 rw[List.take_add_one,List.getElem?_eq_getElem hk,List.any_append];simp
end
def isR (t:Tok) (s:List UInt8):Bool:=decide (t.kind=4)&&decide (t.text=s)
def Mx (a b:Tok):Bool:=if isR b [44] || isR b [59] || isR b [41] || isR b [39] || isR a [40] || isR a [39] then true else isR a [46]&&!isR b [46]&&!isR b [46,46] || isR b [46]&&!isR a [46]&&!isR a [46,46]
theorem Aj2 (t:Tok) (c:UInt8):isS t [c]=isR t [c]:=by
 rw[isS,isR];congr 1;split
 ·rename_i d h
  rw[h,decide_eq_decide.2];simp
 ·rename_i h
  exact(decide_eq_false (λe=>h c e)).symm
theorem Av9 (t:Tok) (c d:UInt8) (l:List UInt8):isS t (c::d::l)=(isR t [c] || isS t (d::l)):=by
 rw[isS,isS,isR];cases decide (t.kind=4) with
 |false=>rfl
 |true=>
  simp only[jS];split
  ·rename_i x h
   rw[h,<-Bool.decide_or,decide_eq_decide.2];simp
  ·rename_i h
   rw[decide_eq_false (λe=>h c e)];rfl
theorem Df1 (a b:Tok):Ad5 a b=!Mx a b:=by
 rw[Ad5,Mx,Av9,Av9,Av9,Aj2,Av9,Aj2,Aj2,Aj2,Ec2,Ec2,Aj2,Aj2];rw[show(decide (b.kind=4)&&decide (b.text= [46,46]))=isR b [46,46] from rfl,show(decide (a.kind=4)&&decide (a.text= [46,46]))=isR a [46,46] from rfl];cases isR b [44]<;>cases isR b [59]<;>cases isR b [41]<;>cases isR b [39]<;>cases isR a [40]<;>cases isR a [39]<;>try rfl
 cases isR a [46]<;>cases isR b [46]<;>cases isR b [46,46]<;>cases isR a [46,46]<;>rfl
section
variable {G:Nat->DVal} {H:Ab}
theorem Ic (G:Nat->DVal) (H:Ab) (t:Tok) (s:List UInt8):Ad Tryz.prog G 316 [.agg (Cu t),.str s] H (Am (.bool (isR t s)) H):=by
 refine dci Tryz.func316 Tryz.call316 ?_;simp only[go_sem,DVal.cells];intro r hr;by_cases y:t.kind=4
 ·simp only[go_sem,Pb,Ad8,y];refine Dj.dropA r hr (Dj.refl ⟨?_,rfl⟩);rw[isR,decide_eq_true y,jS]
 ·simp only[go_sem,Pb,y];refine Dj.dropA r hr (Dj.refl ⟨?_,rfl⟩);rw[isR,decide_eq_false y];rfl
theorem Df2 (G:Nat->DVal) (H:Ab) (a b:Tok):Ad Tryz.prog G 301 [.agg (Cu a),.agg (Cu b)] H (Am (.bool (Mx a b)) H):=by
 refine dci Tryz.func301 Tryz.call301 ?_;simp only[go_sem,DVal.cells];intro E D;dsimp only at D;simp only[go_sem,DVal.cells];intro I C;dsimp only at C;obtain⟨J,y,L⟩:=Aq.1 C;simp only[go_sem,Az,Gu];refine(Ic G _ b [44]).mono ?_;rintro _ H1 ⟨rfl,rfl⟩;cases h1:isR b [44]
 case true=>
  simp only[go_sem];exact Dj.sub (show Sub H _ from(by repeat (first|exact Sub.refl _|assumption|refine Sub.up ?_ (by assumption) _))) (Dj.refl ⟨by rw[Mx,h1];rfl,rfl⟩)
 simp only[go_sem,Az,Gu];refine(Ic G _ b [59]).mono ?_;rintro _ H1 ⟨rfl,rfl⟩;cases h2:isR b [59]
 case true=>
  simp only[go_sem];exact Dj.sub (show Sub H _ from(by repeat (first|exact Sub.refl _|assumption|refine Sub.up ?_ (by assumption) _))) (Dj.refl ⟨by rw[Mx,h1,h2];rfl,rfl⟩)
 simp only[go_sem,Az,Gu];refine(Ic G _ b [41]).mono ?_;rintro _ H1 ⟨rfl,rfl⟩;cases h3:isR b [41]
 case true=>
  simp only[go_sem];exact Dj.sub (show Sub H _ from(by repeat (first|exact Sub.refl _|assumption|refine Sub.up ?_ (by assumption) _))) (Dj.refl ⟨by rw[Mx,h1,h2,h3];rfl,rfl⟩)
 simp only[go_sem,Az,Gu];refine(Ic G _ b [39]).mono ?_;rintro _ H1 ⟨rfl,rfl⟩;cases h4:isR b [39]
 case true=>
  simp only[go_sem];exact Dj.sub (show Sub H _ from(by repeat (first|exact Sub.refl _|assumption|refine Sub.up ?_ (by assumption) _))) (Dj.refl ⟨by rw[Mx,h1,h2,h3,h4];rfl,rfl⟩)
 simp only[go_sem,Az,Gu,y];refine(Ic G _ a [40]).mono ?_;rintro _ H1 ⟨rfl,rfl⟩;cases h5:isR a [40]
 case true=>
  simp only[go_sem];exact Dj.sub (show Sub H _ from(by repeat (first|exact Sub.refl _|assumption|refine Sub.up ?_ (by assumption) _))) (Dj.refl ⟨by rw[Mx,h1,h2,h3,h4,h5];rfl,rfl⟩)
 simp only[go_sem,Az,Gu,y];refine(Ic G _ a [39]).mono ?_;rintro _ H1 ⟨rfl,rfl⟩;cases h6:isR a [39]
 case true=>
  simp only[go_sem];exact Dj.sub (show Sub H _ from(by repeat (first|exact Sub.refl _|assumption|refine Sub.up ?_ (by assumption) _))) (Dj.refl ⟨by rw[Mx,h1,h2,h3,h4,h5,h6];rfl,rfl⟩)
 simp only[go_sem,Az,Gu,y];refine(Ic G _ a [46]).mono ?_;rintro _ H1 ⟨rfl,rfl⟩;cases h7:isR a [46]
 case true=>
  simp only[go_sem,Az,Gu];refine(Ic G _ b [46]).mono ?_;rintro _ H1 ⟨rfl,rfl⟩;cases h8:isR b [46]
  case true=>
   simp only[go_sem,Az,Gu];refine(Ic G _ b [46]).mono ?_;rintro _ H1 ⟨rfl,rfl⟩;cases h9:isR b [46]
   case false=>rw[h8] at h9;cases h9
   simp only[go_sem,Az,Gu,y];refine(Ic G _ a [46]).mono ?_;rintro _ H1 ⟨rfl,rfl⟩;cases h10:isR a [46]
   case false=>rw[h7] at h10;cases h10
   simp only[go_sem];exact Dj.sub (show Sub H _ from(by repeat (first|exact Sub.refl _|assumption|refine Sub.up ?_ (by assumption) _))) (Dj.refl ⟨by rw[Mx,h1,h2,h3,h4,h5,h6,h7,h8];rfl,rfl⟩)
  simp only[go_sem,Az,Gu];refine(Ic G _ b [46,46]).mono ?_;rintro _ H1 ⟨rfl,rfl⟩;cases h9:isR b [46,46]
  case false=>
   simp only[go_sem];exact Dj.sub (show Sub H _ from(by repeat (first|exact Sub.refl _|assumption|refine Sub.up ?_ (by assumption) _))) (Dj.refl ⟨by rw[Mx,h1,h2,h3,h4,h5,h6,h7,h8,h9];rfl,rfl⟩)
  simp only[go_sem,Az,Gu];refine(Ic G _ b [46]).mono ?_;rintro _ H1 ⟨rfl,rfl⟩;cases h10:isR b [46]
  case true=>rw[h8] at h10;cases h10
  simp only[go_sem];exact Dj.sub (show Sub H _ from(by repeat (first|exact Sub.refl _|assumption|refine Sub.up ?_ (by assumption) _))) (Dj.refl ⟨by rw[Mx,h1,h2,h3,h4,h5,h6,h7,h8,h9];rfl,rfl⟩)
 simp only[go_sem,Az,Gu];refine(Ic G _ b [46]).mono ?_;rintro _ H1 ⟨rfl,rfl⟩;cases h8:isR b [46]
 case false=>
  simp only[go_sem];exact Dj.sub (show Sub H _ from(by repeat (first|exact Sub.refl _|assumption|refine Sub.up ?_ (by assumption) _))) (Dj.refl ⟨by rw[Mx,h1,h2,h3,h4,h5,h6,h7,h8];rfl,rfl⟩)
 simp only[go_sem,Az,Gu,y];refine(Ic G _ a [46]).mono ?_;rintro _ H1 ⟨rfl,rfl⟩;cases h9:isR a [46]
 case true=>rw[h7] at h9;cases h9
 simp only[go_sem,Az,Gu,y];refine(Ic G _ a [46,46]).mono ?_;rintro _ H1 ⟨rfl,rfl⟩;cases h10:isR a [46,46]
 case true=>
  simp only[go_sem];exact Dj.sub (show Sub H _ from(by repeat (first|exact Sub.refl _|assumption|refine Sub.up ?_ (by assumption) _))) (Dj.refl ⟨by rw[Mx,h1,h2,h3,h4,h5,h6,h7,h8,h10];rfl,rfl⟩)
 simp only[go_sem];exact Dj.sub (show Sub H _ from(by repeat (first|exact Sub.refl _|assumption|refine Sub.up ?_ (by assumption) _))) (Dj.refl ⟨by rw[Mx,h1,h2,h3,h4,h5,h6,h7,h8,h10];rfl,rfl⟩)
theorem Ev0 (G:Nat->DVal): ∀(n:Nat) (H:Ab),n<=2147483647->Ad Tryz.prog G 317 [dI n] H (Am (.str (Lib.decDigits n)) H):=by
 intro n
 induction n using Nat.strongRecOn with
 |ind n ih=>
  intro H hn;have y:Int.tmod (n:Int) 10=((n%10:Nat):Int):=by rw[Int.tmod_eq_emod_of_nonneg (by omega)];omega
  have C:Int.tdiv (n:Int) 10=((n/10:Nat):Int):=by rw[Int.tdiv_eq_ediv_of_nonneg (by omega)];omega
  have w2:IntKind.i64.wrap (48+((n%10:Nat):Int))=((48+n%10:Nat):Int):=by rw[IntKind.wrap_i64];omega
  have w3:IntKind.u8.wrap ((48+n%10:Nat):Int)=((48+n%10:Nat):Int):=by rw[IntKind.wrap_u8];omega
  have D:IntKind.i64.wrap ((n/10:Nat):Int)=((n/10:Nat):Int):=by rw[IntKind.wrap_i64];omega
  refine dci Tryz.func317 Tryz.call317 ?_;simp(disch:=omega)only[go_sem,y,w2,w3];intro r hr;have ho:(some [DVal.int IntKind.u8 ((48+n%10:Nat):Int)]).bind Ab8=some [UInt8.ofNat (48+n%10)]:=rfl;simp only[go_sem];rw[ho];by_cases h:n<10
  ·(have h': ¬(10:Int)<=(n:Int):=by omega);simp only[go_sem,h'];refine Dj.dropA r hr (Dj.refl ⟨?_,rfl⟩);rw[(Lib.decDigits.eq_def n).trans (dif_pos h),Nat.mod_eq_of_lt h]
  ·(have h':(10:Int)<=(n:Int):=by omega);simp(disch:=omega)only[go_sem,h',C,D];refine(ih (n/10) (by omega) _ (by omega)).mono ?_;rintro _ H1 ⟨rfl,rfl⟩;simp only[go_sem];refine⟨by have:=Ec3 (n:=n/10) (by omega);omega,Dj.dropA r hr (Dj.refl ⟨?_,rfl⟩)⟩;rw[(Lib.decDigits.eq_def n).trans (dif_neg h)]
theorem Ap5 (G:Nat->DVal) (H:Ab) (t:Tok) (h:Ab4 t=true):Ad Tryz.prog G 302 [.agg (Cu t)] H (Am (.str (Pa t)) H):=by
 refine dci Tryz.func302 Tryz.call302 ?_;simp only[go_sem,DVal.cells];intro r hr;by_cases y:t.kind=3
 ·obtain⟨_,hx,C,D⟩:t.kind=3/\t.text= []/\0<=t.n/\t.n<=2147483647:=by
   rcases Cf6 h with h|h|h|h
   ·omega
   ·omega
   ·omega
   ·exact h
  obtain⟨n,hn⟩: ∃n:Nat,t.n=(n:Int):=⟨t.n.toNat,by omega⟩;simp only[go_sem,Pb,Yo,y,hn];refine(Ev0 G n _ (by omega)).mono ?_;rintro _ H1 ⟨rfl,rfl⟩;simp only[go_sem];refine Dj.dropA r hr (Dj.refl ⟨?_,rfl⟩);rw[Pa,if_pos y,hx,jH,hn,Cz8 (by omega)];rfl
 ·simp only[go_sem,Pb,Ad8,y];refine Dj.dropA r hr (Dj.refl ⟨?_,rfl⟩);rw[Pa,if_neg y];rfl
theorem Dv0 (G:Nat->DVal) (H:Ab) (l:List Tok) (hl:l.length<=1000000000):Ad Tryz.prog G 266 [Be l] H (Am (.bool (Tq l)) H):=by
 refine dci Tryz.func266 Tryz.call266 ?_;simp only[go_sem,Be];obtain⟨I,y⟩: ∃I:Nat->(Nat->DVal)->Ab->Prop,∀k env heap,I k env heap↔(env 0= .vslice (l.flatMap Cu) l.length/\env 3=dI k/\k<=l.length/\Tq (l.take k)=true/\heap=H):=⟨_,λ_ _ _=>Iff.rfl⟩;refine Ea9.run I (λk=>l.length-k) 0 ((y _ _ _).2 ?_) ?_
 ·simp only[go_sem];(repeat' apply And.intro)<;>(try first|rfl|assumption|omega)
 ·intro k env heap hi;obtain⟨C,D,hk,hf,rfl⟩:=(y _ _ _).1 hi;by_cases E:k<l.length
  ·(have J:(k:Int)<(l.length:Int):=by omega);have L:=Bh Az l k E;have hfl:=Ak Az l;(have M:IntKind.i64.wrap ((k:Int)+1)=((k+1:Nat):Int):=by rw[IntKind.wrap_i64];omega);simp(disch:=omega)only[go_sem,C,D,J,L,hfl,jD];refine(Du8 G _ l[k]).mono ?_;rintro _ H1 ⟨rfl,rfl⟩;cases hm:Ab4 l[k] with
   |true=>
    simp only[go_sem,D];refine⟨k+1,_,Rn.refl _,(y _ _ _).2 ?_,by omega⟩;simp only[go_sem,C,M];(repeat' apply And.intro)<;>(try first|rfl|assumption|omega);exact Eu6 hf E hm
   |false=>
    simp only[go_sem];refine Dj.refl ⟨?_,rfl⟩;have:Tq l=false:=by
     rw[Tq,List.all_eq_false];exact⟨l[k],List.getElem_mem E,by rw[hm];simp⟩
    rw[this]
  ·(have:k=l.length:=by omega);subst this;rw[List.take_length] at hf;simp(disch:=omega)only[go_sem,C,D];exact Dj.refl ⟨by rw[hf],rfl⟩
theorem Gi0 {l:List Tok} (h:Tq l=true) {k:Nat} (hk:k<l.length):Ab4 l[k]=true:=List.all_eq_true.1 h _ (List.getElem_mem hk)
theorem Cr2 (G:Nat->DVal) (H:Ab) (l:List Tok) (hl:l.length<=1000000000) (hf:Tq l=true):Ad Tryz.prog G 267 [Be l] H (Am (.str (Vf l)) H):=by
 refine dci Tryz.func267 Tryz.call267 ?_;simp only[go_sem,Be];obtain⟨I,E⟩: ∃I:Nat->(Nat->DVal)->Ab->Prop,∀k env heap,I k env heap↔(env 0= .vslice (l.flatMap Cu) l.length/\env 3= .str (Bw7 l k)/\env 4=dI k/\k<=l.length/\heap=H):=⟨_,λ_ _ _=>Iff.rfl⟩;refine Ea9.run I (λk=>l.length-k) 0 ((E _ _ _).2 ?_) ?_
 ·simp only[go_sem];(repeat' apply And.intro)<;>(try first|rfl|assumption|omega)
 ·intro k env heap hi;obtain⟨y,L,C,hk,rfl⟩:=(E _ _ _).1 hi;by_cases O:k<l.length
  ·(have J:(k:Int)<(l.length:Int):=by omega);have M:=Bh Az l k O;have hfl:=Ak Az l;have hm:=Gi0 hf O;have D:=Du9 O;have Z:=Eu7 (l:=l) (k:=k) (List.all_eq_true.2 λt ht=>List.all_eq_true.1 hf t (List.mem_of_mem_take ht));have aa:=(Cf8 hm).2.2;(have U:IntKind.i64.wrap ((k:Int)+1)=((k+1:Nat):Int):=by rw[IntKind.wrap_i64];omega);simp only[go_sem,y,C,J];refine An (.take 0 (.take 1 (.take 2 (.take 3 (.take 4 (.take 5 (.take 6 (.take 7 (.take 8 (.take 9 (.take 10 (.take 11 (.go 12 [] (.take 13 (.take 14 .done))))))))))))))) ?_;by_cases h0:0<k
   ·(have S:(0:Int)<(k:Int):=by omega);(have V:k-1<l.length:=by omega);have W:=Bh Az l (k-1) V;(have X:IntKind.i64.wrap ((k:Int)-1)=((k-1:Nat):Int):=by rw[IntKind.wrap_i64];omega);(have Y:((k-1:Nat):Int)<(l.length:Int):=by omega);rw[dif_pos h0,Df1] at D;simp(disch:=omega)only[go_sem,y,C,S,X,W,M,hfl,Y,J,jD];refine(Df2 G _ l[k-1] l[k]).mono ?_;rintro _ H1 ⟨rfl,rfl⟩;cases hc:Mx l[k-1] l[k] with
    |true=>
     rw[hc,if_neg (by simp),jG] at D;simp(disch:=omega)only[go_sem,y,L,C,M,hfl,J,jD];refine(Ap5 G _ l[k] hm).mono ?_;rintro _ H1 ⟨rfl,rfl⟩;simp(disch:=omega)only[go_sem,C];refine⟨k+1,_,Rn.refl _,(E _ _ _).2 ?_,by omega⟩;simp only[go_sem,y];(repeat' apply And.intro)<;>(try first|rfl|assumption|omega);rw[D]
    |false=>
     rw[hc,if_pos (by simp)] at D;simp(disch:=omega)only[go_sem,y,L,C,M,hfl,J,jD];refine(Ap5 G _ l[k] hm).mono ?_;rintro _ H1 ⟨rfl,rfl⟩;simp only[go_sem,C];refine⟨by rw[jC,jQ];omega,k+1,_,Rn.refl _,(E _ _ _).2 ?_,by omega⟩;simp only[go_sem,y,U];(repeat' apply And.intro)<;>(try first|rfl|assumption|omega);rw[D,jO]
   ·(have S: ¬(0:Int)<(k:Int):=by omega);rw[dif_neg h0,jG] at D;simp(disch:=omega)only[go_sem,y,L,C,S,M,hfl,J,jD];refine(Ap5 G _ l[k] hm).mono ?_;rintro _ H1 ⟨rfl,rfl⟩;simp(disch:=omega)only[go_sem,C];refine⟨k+1,_,Rn.refl _,(E _ _ _).2 ?_,by omega⟩;simp only[go_sem,y];(repeat' apply And.intro)<;>(try first|rfl|assumption|omega);rw[D]
  ·(have:k=l.length:=by omega);subst this;simp(disch:=omega)only[go_sem,y,L,C];refine Dj.refl ⟨?_,rfl⟩;rw[Bw7,List.take_length]
end
def Gn9 (ls:List Lin):DVal:= .vslice (ls.flatMap Xg) ls.length
theorem Ap6 {ls:List Lin} (h:ls.all Pq=false):Rp ls=([],2):=by rw[Rp,h];rfl
theorem Dv1 {ls:List Lin} (h:ls.all Pq=true) (h2:ls.any Zc=true):Rp ls=([],3):=by rw[Rp,h,h2];rfl
theorem Dv2 {ls:List Lin} (h:ls.all Pq=true) (h2:65536<(Mw ls).length):Rp ls=([],3):=by rw[Rp,h,decide_eq_true h2,Bool.or_true];rfl
theorem Ev1 {ls:List Lin} (h:ls.all Pq=true) (h1:ls.any Zc=false) (h2: ¬65536<(Mw ls).length):Rp ls=(Mw ls,0):=by rw[Rp,h,h1,decide_eq_false h2];rfl
theorem Dv3 {ls:List Lin} {k:Nat} (hk:k<ls.length) (h:Pq ls[k]=false):ls.all Pq=false:=by
 rw[List.all_eq_false];exact⟨ls[k],List.getElem_mem hk,by rw[h];simp⟩
section
variable {G:Nat->DVal} {H:Ab}
theorem Df3 (G:Nat->DVal) (H:Ab) (ls:List Lin) (hl:ls.length<=100000) (W: ∀x∈ls,x.l.length<=100000):Ad Tryz.prog G 189 [Gn9 ls] H (Am (.tuple [.str (Rp ls).1,dI (Rp ls).2]) H):=by
 refine dci Tryz.func189 Tryz.call189 ?_;simp only[go_sem,Gn9];obtain⟨I,X⟩: ∃I:Nat->(Nat->DVal)->Ab->Prop,∀k env heap,I k env heap↔(env 0= .vslice (ls.flatMap Xg) ls.length/\env 4=dI k/\k<=ls.length/\(ls.take k).all Pq=true/\heap=H):=⟨_,λ_ _ _=>Iff.rfl⟩;refine Ea9.run I (λk=>ls.length-k) 0 ((X _ _ _).2 ?_) ?_
 ·simp only[go_sem];(repeat' apply And.intro)<;>(try first|rfl|assumption|omega)
 ·intro k env hp hi;obtain⟨y,S,hk,hf,rfl⟩:=(X _ _ _).1 hi;have hfl:=Ak Ua ls;by_cases C:k<ls.length
  ·(have E:(k:Int)<(ls.length:Int):=by omega);have L:(ls.flatMap Xg)[k*2]? =some (dI ls[k].depth):=Bz Ua ls k C 0 (by omega);have Y:(ls.flatMap Xg)[k*2+1]? =some (Be ls[k].l):=Bz Ua ls k C 1 (by omega);(have af:IntKind.i64.wrap ((k:Int)+1)=((k+1:Nat):Int):=by rw[IntKind.wrap_i64];omega);have hx:=W ls[k] (List.getElem_mem C);by_cases U:ls[k].depth<0
   ·simp(disch:=omega)only[go_sem,y,S,E,hfl,L,U,jD];refine Dj.refl ⟨?_,rfl⟩;rw[Ap6 (Dv3 C (by rw[Pq,decide_eq_false (show¬0<=ls[k].depth by omega),Bool.and_false,jT]))]
   ·by_cases V:80<ls[k].depth
    ·simp(disch:=omega)only[go_sem,y,S,E,hfl,L,U,V,jD];refine Dj.refl ⟨?_,rfl⟩;rw[Ap6 (Dv3 C (by rw[Pq,decide_eq_false (show¬ls[k].depth<=80 by omega),Bool.and_false]))]
    ·simp(disch:=omega)only[go_sem,y,S,E,hfl,L,Y,U,V,jD];refine(Dv0 G _ ls[k].l (by omega)).mono ?_;rintro _ H1 ⟨rfl,rfl⟩;cases hj:Tq ls[k].l with
     |false=>
      simp only[go_sem];refine Dj.refl ⟨?_,rfl⟩;rw[Ap6 (Dv3 C (by rw[Pq,hj];rfl))]
     |true=>
      (have hok:Pq ls[k]=true:=by rw[Pq,hj,decide_eq_true (show 0<=ls[k].depth by omega),decide_eq_true (show ls[k].depth<=80 by omega)];rfl);simp only[go_sem,S];refine⟨k+1,_,Rn.refl _,(X _ _ _).2 ?_,by omega⟩;simp only[go_sem,y,af];(repeat' apply And.intro)<;>(try first|rfl|assumption|omega);exact Eu9 hf C hok
  ·(have:k=ls.length:=by omega);subst this;rw[List.take_length] at hf;simp(disch:=omega)only[go_sem,y,S];obtain⟨J,Z⟩: ∃J:Nat->(Nat->DVal)->Ab->Prop,∀m env heap,J m env heap↔(env 0= .vslice (ls.flatMap Xg) ls.length/\env 5= .str (Mw (ls.take m))/\env 6=dI m/\m<=ls.length/\(ls.take m).any Zc=false/\heap=hp):=⟨_,λ_ _ _=>Iff.rfl⟩;refine Ea9.run J (λm=>ls.length-m) 0 ((Z _ _ _).2 ?_) ?_
   ·simp only[go_sem,y];(repeat' apply And.intro)<;>(try first|rfl|assumption|omega)
   ·intro m env hq hi;obtain⟨y,M,D,hm,aa,rfl⟩:=(Z _ _ _).1 hi;by_cases C:m<ls.length
    ·(have E:(m:Int)<(ls.length:Int):=by omega);have L:(ls.flatMap Xg)[m*2]? =some (dI ls[m].depth):=Bz Ua ls m C 0 (by omega);have Y:(ls.flatMap Xg)[m*2+1]? =some (Be ls[m].l):=Bz Ua ls m C 1 (by omega);have hok:Pq ls[m]=true:=List.all_eq_true.1 hf _ (List.getElem_mem C);have hx:=W ls[m] (List.getElem_mem C);have ad:=hok;simp only[Pq,jF,decide_eq_true_eq] at ad;obtain⟨⟨ae,U⟩,V⟩:=ad;obtain⟨d,hd⟩: ∃d:Nat,ls[m].depth=d:=⟨ls[m].depth.toNat,by omega⟩;rw[hd] at L U V;have am:(Vf ls[m].l).length<=3300000:=by
      have:=(Ai4 ls[m].l none ae).2;rw[Vf];omega
     have ag:=Bw9 (ls.take m) (List.all_eq_true.2 λx hx=>List.all_eq_true.1 hf x (List.mem_of_mem_take hx)) λx hx=>W x (List.mem_of_mem_take hx);rw[List.length_take,Nat.min_eq_left hm] at ag;have ah:=Fq0 (p:=Zc) C;have ai:Mw (ls.take (m+1))=Mw (ls.take m)++Du7 ls[m]:=Eu8 C;(have aj:Du7 ls[m]=List.replicate (2*d) 32++Vf ls[m].l++ [10]:=by rw[Du7,Fj2,hd];rfl);(have hlo:Zc ls[m]=decide (256<2*(d:Int)+((Vf ls[m].l).length:Int)):=by rw[Zc,hd]);simp only[go_sem,y,D,E];obtain⟨Q,hQ⟩: ∃Q:Nat->(Nat->DVal)->Ab->Prop,∀j env heap,Q j env heap↔(env 0= .vslice (ls.flatMap Xg) ls.length/\env 5= .str (Mw (ls.take m))/\env 6=dI m/\env 7= .str (List.replicate (2*j) 32)/\env 8=dI j/\j<=d/\heap=hq):=⟨_,λ_ _ _=>Iff.rfl⟩;refine Ea9.run Q (λj=>d-j) 0 ((hQ _ _ _).2 ?_) ?_
     ·simp only[go_sem,y,M,D];(repeat' apply And.intro)<;>(try first|rfl|assumption|omega)
     ·intro j env heap hi;obtain⟨y,M,D,e7,e8,hj,rfl⟩:=(hQ _ _ _).1 hi;have ab:(List.replicate (2*j) (32:UInt8)).length=2*j:=List.length_replicate;by_cases ao:j<d
      ·(have ak:(j:Int)<(d:Int):=by omega);have al:List.replicate (2*j) (32:UInt8)++ [32,32]=List.replicate (2*(j+1)) 32:=by
        rw[show 2*(j+1)=2*j+2 by omega,<-List.replicate_append_replicate];rfl
       simp(disch:=omega)only[go_sem,y,D,e7,e8,E,hfl,L,ak,ab,jD];refine⟨j+1,_,Rn.refl _,(hQ _ _ _).2 ?_,by omega⟩;simp only[go_sem,y,M,D,al];(repeat' apply And.intro)<;>(try first|rfl|assumption|omega)
      ·(have:j=d:=by omega);subst this;simp(disch:=omega)only[go_sem,y,D,e7,e8,E,hfl,L,Y,jD];refine(Cr2 G _ ls[m].l (by omega) ae).mono ?_;rintro _ H1 ⟨rfl,rfl⟩;by_cases ac:256<2*j+(Vf ls[m].l).length
       ·(have O:(256:Int)<((2*j+(Vf ls[m].l).length:Nat):Int):=by omega);simp(disch:=omega)only[go_sem,ab,jC,O];refine Dj.refl ⟨?_,rfl⟩;rw[Dv1 hf (List.any_eq_true.2 ⟨ls[m],List.getElem_mem C,by rw[hlo];exact decide_eq_true (by omega)⟩)]
       ·(have O: ¬(256:Int)<((2*j+(Vf ls[m].l).length:Nat):Int):=by omega);simp(disch:=omega)only[go_sem,M,D,ab,jC,O];refine⟨m+1,_,Rn.refl _,(Z _ _ _).2 ?_,by omega⟩;simp only[go_sem,y];(repeat' apply And.intro)<;>(try first|rfl|assumption|omega)
        ·rw[ai,aj];simp [jO]
        ·rw[ah,aa,hlo];exact decide_eq_false (by omega)
    ·(have:m=ls.length:=by omega);subst this;rw[List.take_length] at aa M;by_cases ac:65536<(Mw ls).length
     ·(have O:(65536:Int)<((Mw ls).length:Int):=by omega);simp(disch:=omega)only[go_sem,y,M,D,O];exact Dj.refl ⟨by rw[Dv2 hf ac],rfl⟩
     ·(have O: ¬(65536:Int)<((Mw ls).length:Int):=by omega);simp(disch:=omega)only[go_sem,y,M,D,O];exact Dj.refl ⟨by rw[Ev1 hf aa ac],rfl⟩
end
end Go.Dl
-- A1
namespace Go.Dl
open Go
set_option maxRecDepth 10000
structure Ind where
 name:Ex
 lo:Ex
 hi:Ex
 value:Ex
structure Dis where
 name:Ex
 lo:Ex
 hi:Ex
structure Par where
 names:List (List UInt8)
 mode:Int
 type:Ex
 e:Ex
 line:Int
structure Asp where
 name:List UInt8
 e:Ex
structure Cmp where
 names:List (List UInt8)
 sub:Ind
 e:Ex
 line:Int
structure Arm where
 c:List Ch
 comps:List Cmp
structure Typ where
 kind:Int
 names:List (List UInt8)
 lo:Ex
 hi:Ex
 sub:Ind
 disc:Dis
 comps:List Cmp
 var:List UInt8
 arms:List Arm
 limited:Bool
def Ak6:Ind:=⟨ex0,ex0,ex0,ex0⟩
def Ak7:Dis:=⟨ex0,ex0,ex0⟩
def Lh:Typ:=⟨0,[],ex0,ex0,Ak6,Ak7,[],[],[],false⟩
def noE (e:Ex):Bool:=Ee e ex0
def Rz:Nat->Ex->Bool
 | 0,_=>false
 |n+1,e=>if e.kind=4 then Rz n (e.l.getD 0 ex0) else decide (e.kind=3)
def Ga (e:Ex):Bool:=Bu e&&Rz (Ff e) e
def Co (s:Ind):Bool:=
 Ga s.name&&(if noE s.value then noE s.lo&&noE s.hi || Bu s.lo&&Bu s.hi else noE s.lo&&noE s.hi&&Bu s.value)
def Dt (d:Dis):Bool:=
 if noE d.lo&&noE d.hi then Ga d.name || decide (d.name.kind=6)&&Bu d.name else Bu d.lo&&Bu d.hi&&(noE d.name || Ga d.name)
def Ey (l:List (List UInt8)) (most:Nat):Bool:=l.all Iv&&decide (1<=l.length)&&decide (l.length<=most)
def Gk (e:Ex):Bool:=noE e || Bu e
def Fp (p:Par):Bool:=Ey p.names 8&&Ga p.type&&Gk p.e&&decide (1<=p.mode)&&decide (p.mode<=3)&&(decide (p.mode=1) || noE p.e)
def Pr (l:List Par):Nat:=(l.map λp=>p.names.length).sum
def Es (l:List Par):Bool:=l.all Fp&&decide (Pr l<=8)
def Nh (a:Asp):Bool:=Iv a.name&&Bu a.e
def Gv (l:List Asp):Bool:=l.all Nh&&decide (l.length<=8)
def En (c:Cmp):Bool:=Ey c.names 8&&Co c.sub&&Gk c.e
def Cr (l:List Cmp):Nat:=(l.map λc=>c.names.length).sum
def Gn (l:List Cmp):Bool:=l.all En&&decide (Cr l<=32)
def Eu (a:Arm):Bool:=a.comps.all En&&Ia a.c
def Lu (l:List Arm):Nat:=(l.map λa=>Cr a.comps).sum
def Gs (t:Typ):Bool:=
 t.comps.all En&&decide ((t.var= [])↔(t.arms.length=0))&&decide (t.arms.length<=16)&&(decide (t.var= []) || Iv t.var)&&t.arms.all Eu&&decide (Cr t.comps+Lu t.arms<=32)
def Rg (s:Ind):Bool:=noE s.name&&noE s.lo&&noE s.hi&&noE s.value
def Rh (d:Dis):Bool:=noE d.name&&noE d.lo&&noE d.hi
def Xh (t:Typ):Bool:=decide (t.comps.length=0)&&decide (t.var= [])&&decide (t.arms.length=0)
def Vq (t:Typ):Bool:=noE t.lo&&noE t.hi
def Ub (t:Typ):Bool:=decide (t.names.length=0)
def Dn (t:Typ):Bool:=
 if t.kind=1 then Ey t.names 64&&Vq t&&Rg t.sub&&Rh t.disc&&Xh t&&!t.limited
 else if t.kind=2 then Ub t&&(Bu t.lo&&Bu t.hi)&&Rg t.sub&&Rh t.disc&&Xh t&&!t.limited
 else if t.kind=3\/t.kind=6 then Ub t&&Vq t&&Co t.sub&&Rh t.disc&&Xh t&&!t.limited
 else if t.kind=4 then Ub t&&Vq t&&Co t.sub&&Dt t.disc&&Xh t&&!t.limited
 else if t.kind=5 then Ub t&&Vq t&&Rg t.sub&&Rh t.disc&&Gs t&&!t.limited
 else decide (t.kind=7)&&Ub t&&Vq t&&Rg t.sub&&Rh t.disc&&Xh t
def Ki (a b:Ind):Bool:=Ee a.name b.name&&Ee a.lo b.lo&&Ee a.hi b.hi&&Ee a.value b.value
def Nr (a b:Dis):Bool:=Ee a.name b.name&&Ee a.lo b.lo&&Ee a.hi b.hi
def Ni {α:Type} (f:α->α->Bool):List α->List α->Bool
 | [],[]=>true
 |x::l,y::m=>f x y&&Ni f l m
 |_,_=>false
def Ml (a b:Par):Bool:=decide (a.names=b.names)&&decide (a.mode=b.mode)&&Ee a.type b.type&&Ee a.e b.e
def Qn (a b:Asp):Bool:=decide (a.name=b.name)&&Ee a.e b.e
def Kj (a b:Cmp):Bool:=decide (a.names=b.names)&&Ki a.sub b.sub&&Ee a.e b.e
def Qo (a b:Arm):Bool:=Kf a.c b.c&&Ni Kj a.comps b.comps
def Aj3 (a b:Typ):Bool:=
 decide (a.kind=b.kind)&&decide (a.names=b.names)&&Ee a.lo b.lo&&Ee a.hi b.hi&&Ki a.sub b.sub&&Nr a.disc b.disc&&Ni Kj a.comps b.comps&&decide (a.var=b.var)&&decide (a.limited=b.limited)&&Ni Qo a.arms b.arms
def Ew:List UInt8:= [114,97,110,103,101]
def Rq:List UInt8:= [58]
def Pf:List UInt8:= [58,61]
def Hd:List UInt8:= [59]
def Aw0:List UInt8:= [111,117,116]
def Lv:List UInt8:= [99,97,115,101]
def wIs:List UInt8:= [105,115]
def Pg:List UInt8:= [119,104,101,110]
def Ri:List UInt8:= [101,110,100]
def Cs:List UInt8:= [114,101,99,111,114,100]
def Aw1:List UInt8:= [110,101,119]
def Lw:List UInt8:= [97,114,114,97,121]
def wOf:List UInt8:= [111,102]
def Mm:List UInt8:= [97,99,99,101,115,115]
def Gb:List UInt8:= [112,114,105,118,97,116,101]
def Kp:List UInt8:= [108,105,109,105,116,101,100]
def Dh (a b:Ex):List Tok:=Ap a 2++(Ag Et::Ap b 2)
def Ie (s:Ind):List Tok:=Ai s.name++(if noE s.value then(if noE s.lo then [] else Ag Ew::Dh s.lo s.hi) else Ag Bc::(Ai s.value++ [Ag Bs]))
def Nj (d:Dis):List Tok:=if noE d.lo then Ai d.name else if noE d.name then Dh d.lo d.hi else Ai d.name++(Ag Ew::Dh d.lo d.hi)
def Cq (l:List (List UInt8)):List Tok:=Dw Dm (l.map λs=> [Eg s])
def Ph (e:Ex):List Tok:=if noE e then [] else Ag Pf::Ai e
def Xi (m:Int):List Tok:=if m=2 then [Ag Aw0] else if m=3 then [Ag wIn,Ag Aw0] else []
def Pj (p:Par):List Tok:=Cq p.names++(Ag Rq::(Xi p.mode++(Ai p.type++Ph p.e)))
def Lx (l:List Par):List Tok:=Dw Hd (l.map Pj)
def Af3 (a:Asp):List Tok:=Eg a.name::Ag Bp::Ai a.e
def Mq (l:List Asp):List Tok:=Dw Dm (l.map Af3)
def Uc (c:Cmp):List Tok:=Cq c.names++(Ag Rq::(Ie c.sub++(Ph c.e++ [Ag Hd])))
def Ps (n:Int):Int:=IntKind.i64.wrap n
def Ly (l:List Cmp) (d:Int):List Lin:=if l.isEmpty then [⟨d,[Ag Gg,Ag Hd]⟩] else l.map λc=>⟨d,Uc c⟩
def Af4 (d:Int) (a:Arm):List Lin:=⟨Ps (d+2),Ag Pg::((Lt a.c).1++ [Ag Bp])⟩::Ly a.comps (Ps (d+3))
def Bx0 (t:Typ) (d:Int):List Lin:=
 ⟨d,[Ag Cs]⟩::((if t.comps.isEmpty then [] else Ly t.comps (Ps (d+1)))++
  ((if t.var= [] then [] else⟨Ps (d+1),[Ag Lv,Eg t.var,Ag wIs]⟩::(t.arms.flatMap (Af4 d)++ [⟨Ps (d+1),[Ag Ri,Ag Lv,Ag Hd]⟩]))++ [⟨d,[Ag Ri,Ag Cs]⟩]))
def Ig (t:Typ) (d:Int):List Lin:=
 if t.kind=1 then [⟨d,Ag Bc::(Cq t.names++ [Ag Bs])⟩]
 else if t.kind=2 then [⟨d,Ag Ew::Dh t.lo t.hi⟩]
 else if t.kind=3 then [⟨d,Ag Aw1::Ie t.sub⟩]
 else if t.kind=4 then [⟨d,Ag Lw::Ag Bc::(Nj t.disc++(Ag Bs::Ag wOf::Ie t.sub))⟩]
 else if t.kind=6 then [⟨d,Ag Mm::Ie t.sub⟩]
 else if t.kind=7 then [⟨d,(if t.limited then [Ag Kp] else [])++ [Ag Gb]⟩]
 else if t.comps.isEmpty&&decide (t.var= []) then [⟨d,[Ag Gg,Ag Cs]⟩]
 else Bx0 t d
def Hw (l:List Lin):List Tok:=l.flatMap Lin.l
end Go.Dl
-- V6
namespace Go.Dl
open Go Go.Proofs
set_option maxRecDepth 100000
theorem Ad.monoR {P:Program} {G:Nat->DVal} {f:FuncId} {args:List DVal} {H y:Ab} {v:DVal} {R:DEnd->Ab->Prop} (h:Ad P G f args H (Am v y)) (k:R (.ret v) y):Ad P G f args H R:=h.mono (by rintro _ _ ⟨rfl,rfl⟩;exact k)
section
end
theorem Gi1 (c:List Ch) (e:Ex):dAs (.mk c e)= .vslice (c.flatMap dCh) c.length::dEx e:=An8 _
section
end
def Db (s:Ind):List DVal:=dEx s.name++(dEx s.lo++(dEx s.hi++dEx s.value))
def Du (d:Dis):List DVal:=dEx d.name++(dEx d.lo++dEx d.hi)
def Gw (p:Par):List DVal:=dW p.names:: .int .u8 p.mode::(dEx p.type++(dEx p.e++ [dI p.line]))
def Ip (a:Asp):List DVal:= .str a.name::dEx a.e
def Ih (c:Cmp):List DVal:=dW c.names::(Db c.sub++(dEx c.e++ [dI c.line]))
def Gh (l:List Par):DVal:= .vslice (l.flatMap Gw) l.length
def Ib (l:List Asp):DVal:= .vslice (l.flatMap Ip) l.length
def Ci (l:List Cmp):DVal:= .vslice (l.flatMap Ih) l.length
def Kk (a:Arm):List DVal:= [dCl a.c,Ci a.comps]
def Ep (l:List Arm):DVal:= .vslice (l.flatMap Kk) l.length
def Cf (t:Typ):List DVal:= .int .u8 t.kind::dW t.names::(dEx t.lo++(dEx t.hi++(Db t.sub++(Du t.disc++ [Ci t.comps,.str t.var,Ep t.arms,.bool t.limited]))))
structure Fms where
 e:Ex
 s:Ind
 d:Dis
 p:List Par
 a:List Asp
 c:List Cmp
 t:Typ
def Zd (x:Fms):List DVal:=dEx x.e++(Db x.s++(Du x.d++(Gh x.p::Ib x.a::Ci x.c::Cf x.t)))
theorem Au (s:Ind):(Db s).length=36:=by simp [Db,Af]
theorem Bd (s:Dis):(Du s).length=27:=by simp [Du,Af]
theorem Eo (s:Par):(Gw s).length=21:=by simp [Gw,Af]
theorem Gr (s:Asp):(Ip s).length=10:=by simp [Ip,Af]
theorem Ez (s:Cmp):(Ih s).length=47:=by simp [Ih,Af,Au]
theorem Fa (s:Arm):(Kk s).length=2:=rfl
theorem Fq (s:Typ):(Cf s).length=87:=by simp [Cf,Af,Au,Bd]
theorem Pk (s:Fms):(Zd s).length=162:=by simp [Zd,Af,Au,Bd,Fq]
theorem Xj (s:Ind):((Db s).all λx=>x.one)=true:=by simp [Db,List.all_append,Cd]
theorem Af5 (s:Dis):((Du s).all λx=>x.one)=true:=by simp [Du,List.all_append,Cd]
theorem Fq1 (s:Par):((Gw s).all λx=>x.one)=true:=by simp only[Gw,List.all_cons,List.all_append,Cd,List.all_nil,Bool.and_true,jS];rfl
theorem Fq2 (s:Asp):((Ip s).all λx=>x.one)=true:=by simp only[Ip,List.all_cons,Cd,Bool.and_true];rfl
theorem Fq3 (s:Cmp):((Ih s).all λx=>x.one)=true:=by simp only[Ih,List.all_cons,List.all_append,Cd,Xj,List.all_nil,Bool.and_true,jS];rfl
theorem Fq4 (s:Arm):((Kk s).all λx=>x.one)=true:=by simp only[Kk,List.all_cons,List.all_nil,Bool.and_true];rfl
theorem Fq5 (s:Typ):((Cf s).all λx=>x.one)=true:=by simp only[Cf,List.all_cons,List.all_append,Cd,Xj,Af5,List.all_nil,Bool.and_true,jS];rfl
theorem Gx1 (s:Ind):(Db s).take 36=Db s:=by rw[<-Au s,List.take_length]
theorem Gx2 (s:Dis):(Du s).take 27=Du s:=by rw[<-Bd s,List.take_length]
theorem Gx3 (s:Par):(Gw s).take 21=Gw s:=by rw[<-Eo s,List.take_length]
theorem Gx4 (s:Asp):(Ip s).take 10=Ip s:=by rw[<-Gr s,List.take_length]
theorem Gx5 (s:Cmp):(Ih s).take 47=Ih s:=by rw[<-Ez s,List.take_length]
theorem Gx6 (s:Arm):(Kk s).take 2=Kk s:=by rw[<-Fa s,List.take_length]
theorem Gx7 (s:Typ):(Cf s).take 87=Cf s:=by rw[<-Fq s,List.take_length]
attribute [go_sem] Gx1 Gx2 Gx3 Gx4 Gx5 Gx6 Gx7 Au Bd Eo Gr Ez Fa Fq Xj Af5 Fq1 Fq2 Fq3 Fq4 Fq5
def Cp (n:Nat) (e:Ex):Prop:=Ej e<=n/\okE e
def Aa4 (n:Nat) (l:List (List UInt8)):Prop:=l.length<=n/\ ∀s∈l,s.length<=9223372036854775807
def Sa (n:Nat) (s:Ind):Prop:=Cp n s.name/\Cp n s.lo/\Cp n s.hi/\Cp n s.value
def Ud (n:Nat) (s:Dis):Prop:=Cp n s.name/\Cp n s.lo/\Cp n s.hi
def Nk (n:Nat) (p:Par):Prop:=Aa4 n p.names/\Cp n p.type/\Cp n p.e
def Ue (n:Nat) (a:Asp):Prop:=a.name.length<=9223372036854775807/\Cp n a.e
def Ka (n:Nat) (c:Cmp):Prop:=Aa4 n c.names/\Sa n c.sub/\Cp n c.e
def Ei {α:Type} (f:Nat->α->Prop) (n:Nat) (l:List α):Prop:=l.length<=n/\ ∀x∈l,f n x
def Bd8 (n:Nat) (l:List Ch):Prop:=Gq l<=n/\Ts l
def Aa5 (n:Nat) (a:Arm):Prop:=Bd8 n a.c/\Ei Ka n a.comps
def Lb (n:Nat) (t:Typ):Prop:=Aa4 n t.names/\Cp n t.lo/\Cp n t.hi/\Sa n t.sub/\Ud n t.disc/\Ei Ka n t.comps/\(t.var.length<=9223372036854775807/\0<=t.kind/\t.kind<=255)/\Ei Aa5 n t.arms
def Ef5 (n:Nat) (x:Fms):Prop:=Cp n x.e/\Sa n x.s/\Ud n x.d/\Ei Nk n x.p/\Ei Ue n x.a/\Ei Ka n x.c/\Lb n x.t
section
variable {n m:Nat}
theorem Cp.up {e:Ex} (h:Cp n e) (hm:n<=m):Cp m e:=⟨Nat.le_trans h.1 hm,h.2⟩
theorem Aa4.up {l:List (List UInt8)} (h:Aa4 n l) (hm:n<=m):Aa4 m l:=⟨Nat.le_trans h.1 hm,h.2⟩
theorem Sa.up {s:Ind} (h:Sa n s) (hm:n<=m):Sa m s:=⟨h.1.up hm,h.2.1.up hm,h.2.2.1.up hm,h.2.2.2.up hm⟩
theorem Ud.up {s:Dis} (h:Ud n s) (hm:n<=m):Ud m s:=⟨h.1.up hm,h.2.1.up hm,h.2.2.up hm⟩
theorem Nk.up {s:Par} (h:Nk n s) (hm:n<=m):Nk m s:=⟨h.1.up hm,h.2.1.up hm,h.2.2.up hm⟩
theorem Ue.up {s:Asp} (h:Ue n s) (hm:n<=m):Ue m s:=⟨h.1,h.2.up hm⟩
theorem Ka.up {s:Cmp} (h:Ka n s) (hm:n<=m):Ka m s:=⟨h.1.up hm,h.2.1.up hm,h.2.2.up hm⟩
theorem Ei.up {α:Type} {f:Nat->α->Prop} {l:List α} (h:Ei f n l) (hf: ∀(n m:Nat) (x:α),f n x->n<=m->f m x) (hm:n<=m):Ei f m l:=⟨Nat.le_trans h.1 hm,λx hx=>hf _ _ _ (h.2 x hx) hm⟩
theorem Bd8.up {l:List Ch} (h:Bd8 n l) (hm:n<=m):Bd8 m l:=⟨Nat.le_trans h.1 hm,h.2⟩
theorem Aa5.up {s:Arm} (h:Aa5 n s) (hm:n<=m):Aa5 m s:=⟨h.1.up hm,h.2.up (λ_ _ _=>Ka.up) hm⟩
theorem Lb.up {t:Typ} (h:Lb n t) (hm:n<=m):Lb m t:=
 ⟨h.1.up hm,h.2.1.up hm,h.2.2.1.up hm,h.2.2.2.1.up hm,h.2.2.2.2.1.up hm,h.2.2.2.2.2.1.up (λ_ _ _=>Ka.up) hm,h.2.2.2.2.2.2.1,h.2.2.2.2.2.2.2.up (λ_ _ _=>Aa5.up) hm⟩
theorem Ef5.up {x:Fms} (h:Ef5 n x) (hm:n<=m):Ef5 m x:=
 ⟨h.1.up hm,h.2.1.up hm,h.2.2.1.up hm,h.2.2.2.1.up (λ_ _ _=>Nk.up) hm,h.2.2.2.2.1.up (λ_ _ _=>Ue.up) hm,h.2.2.2.2.2.1.up (λ_ _ _=>Ka.up) hm,h.2.2.2.2.2.2.up hm⟩
end
theorem Hf8 {e:Ex} (h:Cp 16777216 e):Ej e<=1099511627776:=by have:=h.1;omega
theorem Cp.fitx {e:Ex} (h:Cp 16777216 e):Fit e:=⟨by have:=h.1;omega,h.2⟩
theorem Df4 {K:Ab}:Ln K (.agg zY) K (.agg (dEx ex0)):=
 Ln.agg (Ln.ex (k:=0) (o:=0) (n:=0) (s:= []) (li:=0) (en:=0) (t:=0) (Sub.refl K) (.exs0 (Sub.refl K)) (.as0 (Sub.refl K)))
theorem Dv4 (G:Nat->DVal) (H:Ab) (e:Ex) (he:Cp 16777216 e):Ad Tryz.prog G 212 ([]++ [.agg (dEx e)]++ []) H (Am (.bool (!noE e)) H):=by
 refine dci Tryz.func212 Tryz.call212 ?_;simp only[go_sem,DVal.cells,jG,jH];intro r hr;simp only[go_sem];refine .monoR ((Km.cons (Ln.keep (Sub.refl _) _) (Km.cons Df4 .nil)).call (Sub.refl _) (Hj G _ e ex0 (Hf8 he))) ?_;simp only[go_sem];exact Dj.dropA r hr (Dj.refl ⟨rfl,rfl⟩)
theorem Ci4 (G:Nat->DVal) (H:Ab) (l:List Ex) (hl:l.length<=1099511627776) (hb: ∀x∈l,Cp 16777216 x):
  Ad Tryz.prog G 112 [dXs l] H (Am (.bool (l.all noE)) H):=by
 refine dci Tryz.func112 Tryz.call112 ?_;simp only[go_sem,dXs];refine .monoR (Ao0 G _ (λe=>!noE e) l 212 [] [] hl λx hx=>Dv4 G _ x (hb x hx)) ?_;rw[Vl];simp only[go_sem];exact Dj.refl ⟨by simp,rfl⟩
theorem Df (G:Nat->DVal) (H:Ab) (e:Ex) (he:Cp 16777216 e):Ad Tryz.prog G 133 [.agg (dEx e)] H (Am (.bool (noE e)) H):=by
 refine dci Tryz.func133 Tryz.call133 ?_;simp only[go_sem,DVal.cells];intro r hr;simp only[go_sem];refine .monoR ((Km.cons (Ln.keep (Sub.refl _) _) (Km.cons Df4 .nil)).call (Sub.refl _) (Dr9 G _ e ex0 (Hf8 he))) ?_;simp only[go_sem];exact Dj.dropA r hr (Dj.refl ⟨rfl,rfl⟩)
theorem Uf (G:Nat->DVal) (H:Ab) (a b:Ex) (ha:Cp 16777216 a) (hb:Cp 16777216 b):Ad Tryz.prog G 135 [.agg (dEx a),.agg (dEx b)] H (Am (.bool (Bu a&&Bu b)) H):=by
 have h1:=ha.1;have h2:=hb.1;refine dci Tryz.func135 Tryz.call135 ?_;simp only[go_sem,DVal.cells];intro E J;dsimp only at J;obtain⟨y,C⟩: ∃K',K'=upd H E (some (.cells (dEx a) 27)):=⟨_,rfl⟩;rw[<-C];have L:y E=some (.cells (dEx a) 27):=by rw[C];exact Aa _ _ _
 have M:Sub H y:=by rw[C];exact(Sub.refl _).new J _
 simp only[go_sem,DVal.cells];intro O S;dsimp only at S;obtain⟨K,D⟩: ∃K',K'=upd y O (some (.cells (dEx b) 27)):=⟨_,rfl⟩;rw[<-D];have U:K O=some (.cells (dEx b) 27):=by rw[D];exact Aa _ _ _
 have I:Sub y K:=by rw[D];exact(Sub.refl _).new S _
 have V:K E=some (.cells (dEx a) 27):=I _ _ L;have W:=U;have t:Sub H K:=M.trans I;clear I M U L D C;simp only[go_sem,V];refine Ad.monoR (Ok G K a (by omega)) ?_;cases Bu a
 ·simp only[go_sem];exact Dj.sub t (.refl ⟨rfl,rfl⟩)
 ·simp only[go_sem,W];refine Ad.monoR (Ok G K b (by omega)) ?_;simp only[go_sem];exact Dj.sub t (.refl ⟨by simp,rfl⟩)
theorem Bi8 (G:Nat->DVal) (H:Ab) (e:Ex) (he:Cp 16777216 e):Ad Tryz.prog G 138 [.agg (dEx e)] H (Am (.bool (Gk e)) H):=by
 refine dci Tryz.func138 Tryz.call138 ?_;simp only[go_sem,DVal.cells];intro r hr;simp only[go_sem];have h1:=he.1;refine(Df G _ e he).mono ?_;rintro _ H1 ⟨rfl,rfl⟩;cases h:noE e
 ·simp only[go_sem];refine(Ok G _ e (by omega)).mono ?_;rintro _ H2 ⟨rfl,rfl⟩;simp only[go_sem];exact Dj.dropA r hr (Dj.refl ⟨by simp [Gk,h],rfl⟩)
 ·simp only[go_sem];exact Dj.dropA r hr (Dj.refl ⟨by simp [Gk,h],rfl⟩)
section
variable {G:Nat->DVal} (hG:GX G)
include hG
theorem Df5 (H:Ab) (e:Ex) (he:Cp 16777216 e):Ad Tryz.prog G 209 ([]++ [.agg (dEx e)]++ []) H (Am (.bool (!Bu e)) H):=by
 refine dci Tryz.func209 Tryz.call209 ?_;simp only[go_sem,DVal.cells,jG,jH];intro r hr;simp only[go_sem];refine .monoR (Ae3 hG _ e he.fitx) ?_;simp only[go_sem];exact Dj.dropA r hr (Dj.refl ⟨rfl,rfl⟩)
theorem Bx1 (H:Ab) (l:List Ex) (hl:l.length<=1099511627776) (hb: ∀x∈l,Cp 16777216 x):
  Ad Tryz.prog G 102 [dXs l] H (Am (.bool (l.all Bu)) H):=by
 refine dci Tryz.func102 Tryz.call102 ?_;simp only[go_sem,dXs];refine .monoR (Ao0 G _ (λe=>!Bu e) l 209 [] [] hl λx hx=>Df5 hG _ x (hb x hx)) ?_;rw[Vl];simp only[go_sem];exact Dj.refl ⟨by simp,rfl⟩
end
theorem Pm (e:Ex) (l:List DVal):(dEx e++l).take 9=dEx e:=List.take_left' (Af e)
theorem Dv (e:Ex) (l:List DVal) (k:Nat):(dEx e++l).drop (9+k)=l.drop k:=by
 rw[<-List.drop_drop,List.drop_left' (Af e)]
theorem Gx8 (e:Ex):(dEx e).take 9=dEx e:=by rw[<-Af e,List.take_length]
section
variable (s:Ind) (d:Dis) (p:Par) (a:Asp) (c:Cmp) (m:Arm) (t:Typ)
theorem Aw2:(Db s).take 9=dEx s.name:=by rw[Db,Pm]
theorem Aw3:((Db s).drop 9).take 9=dEx s.lo:=by rw[Db,Dv _ _ 0,jJ,Pm]
theorem Bi9:((Db s).drop 18).take 9=dEx s.hi:=by rw[Db,Dv _ _ 9,Dv _ _ 0,jJ,Pm]
theorem Al4:((Db s).drop 27).take 9=dEx s.value:=by rw[Db,Dv _ _ 18,Dv _ _ 9,Dv _ _ 0,jJ,Gx8]
theorem Vr:(Du d).take 9=dEx d.name:=by rw[Du,Pm]
theorem Al5:((Du d).drop 9).take 9=dEx d.lo:=by rw[Du,Dv _ _ 0,jJ,Pm]
theorem Aw4:((Du d).drop 18).take 9=dEx d.hi:=by rw[Du,Dv _ _ 9,Dv _ _ 0,jJ,Gx8]
theorem Bx2:(Gw p)[0]? =some (dW p.names):=rfl
theorem Xk:(Gw p)[1]? =some (.int .u8 p.mode):=rfl
theorem Ef6:((Gw p).drop 2).take 9=dEx p.type:=by rw[Gw,jE,jE,jJ,Pm]
theorem Bd9:((Gw p).drop 11).take 9=dEx p.e:=by rw[Gw,jE,jE,Dv _ _ 0,jJ,Pm]
theorem Df6:(Ip a)[0]? =some (.str a.name):=rfl
theorem Df7:((Ip a).drop 1).take 9=dEx a.e:=by rw[Ip,jE,jJ,Gx8]
theorem Df8:(Ih c)[0]? =some (dW c.names):=rfl
theorem Ef7:((Ih c).drop 1).take 36=Db c.sub:=by rw[Ih,jE,jJ,List.take_left' (Au _)]
theorem Bx3:((Ih c).drop 37).take 9=dEx c.e:=by
 rw[Ih,jE,List.drop_left' (Au _),Pm]
theorem Ci5:(Kk m)[0]? =some (dCl m.c):=rfl
theorem Ci6:(Kk m)[1]? =some (Ci m.comps):=rfl
theorem Fq6:(Cf t)[0]? =some (.int .u8 t.kind):=rfl
theorem Fq7:(Cf t)[1]? =some (dW t.names):=rfl
theorem Fq8:((Cf t).drop 2).take 9=dEx t.lo:=by rw[Cf,jE,jE,jJ,Pm]
theorem Dv5:((Cf t).drop 11).take 9=dEx t.hi:=by rw[Cf,jE,jE,Dv _ _ 0,jJ,Pm]
theorem Bx4:((Cf t).drop 20).take 36=Db t.sub:=by rw[Cf,jE,jE,Dv _ _ 9,Dv _ _ 0,jJ,List.take_left' (Au _)]
theorem Cr3:((Cf t).drop 56).take 27=Du t.disc:=by
 rw[Cf,jE,jE,Dv _ _ 45,Dv _ _ 36,List.drop_left' (Au _),List.take_left' (Bd _)]
theorem Aw5 (k:Nat):(Cf t)[83+k]? = [Ci t.comps,.str t.var,Ep t.arms,.bool t.limited][k]? :=by
 have h1:Cf t=(.int .u8 t.kind::dW t.names::(dEx t.lo++(dEx t.hi++(Db t.sub++Du t.disc))))++ [Ci t.comps,.str t.var,Ep t.arms,.bool t.limited]:=by simp [Cf]
 rw[h1,List.getElem?_append_right (by simp [Af,Au,Bd])];congr 1;simp [Af,Au,Bd]
theorem Dv6:(Cf t)[83]? =some (Ci t.comps):=Aw5 t 0
theorem Be0:(Cf t)[84]? =some (.str t.var):=Aw5 t 1
theorem Af6:(Cf t)[85]? =some (Ep t.arms):=Aw5 t 2
theorem Fq9:(Cf t)[86]? =some (.bool t.limited):=Aw5 t 3
end
theorem Be1 {α:Type} {f:α->List DVal} {n:Nat} (hf: ∀x,(f x).length=n) (l:List α) (k:Nat) (hk:k<l.length) (off m:Nat) (h:off+m<=n):((l.flatMap f).drop (k*n+off)).take m=((f l[k]).drop off).take m:=by
 induction l generalizing k with
 |nil=>simp at hk
 |cons x l ih=>
  cases k with
  |zero=>
   rw[Nat.zero_mul,Nat.zero_add,List.flatMap_cons,List.getElem_cons_zero,List.drop_append_of_le_length (by rw[hf];omega),List.take_append_of_le_length (by rw[List.length_drop,hf];omega)]
  |succ k=>
   (have y:k<l.length:=by simpa using hk);rw[List.flatMap_cons,List.getElem_cons_succ,show(k+1)*n+off=n+(k*n+off) by rw[Nat.succ_mul];omega,<-List.drop_drop,List.drop_left' (hf x),ih k y]
section
variable (G:Nat->DVal) (H:Ab)
theorem Xl {e:Ex} {n:Nat} (h:Cp n e) (y:n<=16777216):Ej e<=1099511627776:=by have:=h.1;omega
theorem Sj (a b:Ind) (ha:Sa 16777216 a):Ad Tryz.prog G 37 [.agg (Db a),.agg (Db b)] H (Am (.bool (Ki a b)) H):=by
 obtain⟨S,U,V,W⟩:=ha;refine dci Tryz.func37 Tryz.call37 ?_;simp only[go_sem,DVal.cells];intro J X;obtain⟨Y,y⟩: ∃K',K'=upd H J (some (.cells (Db a) 56)):=⟨_,rfl⟩;rw[<-y];have L:=y.symm▸Aa _ _ _;have M:=y.symm▸(Sub.refl _).new X _;simp only[go_sem,DVal.cells];intro Z aa;obtain⟨K,C⟩: ∃K',K'=upd Y Z (some (.cells (Db b) 56)):=⟨_,rfl⟩;rw[<-C];have O:=C.symm▸Aa _ _ _;have I:=C.symm▸(Sub.refl _).new aa _;have D:K J=some (.cells (Db a) 56):=I _ _ L;have E:=O;have t:Sub H K:=M.trans I;clear I M O L C y;simp only[go_sem,D,E,Au,Aw2];refine Ad.monoR (Hj G K a.name b.name (Xl S (by omega))) ?_;cases h1:Ee a.name b.name
 ·simp only[go_sem];exact Dj.sub t (.refl ⟨by simp [Ki, *],rfl⟩)
 simp only[go_sem,D,E,Au,Aw3];refine Ad.monoR (Hj G K a.lo b.lo (Xl U (by omega))) ?_;cases h2:Ee a.lo b.lo
 ·simp only[go_sem];exact Dj.sub t (.refl ⟨by simp [Ki, *],rfl⟩)
 simp only[go_sem,D,E,Au,Bi9];refine Ad.monoR (Hj G K a.hi b.hi (Xl V (by omega))) ?_;cases h3:Ee a.hi b.hi
 ·simp only[go_sem];exact Dj.sub t (.refl ⟨by simp [Ki, *],rfl⟩)
 simp only[go_sem,D,E,Au,Al4];refine Ad.monoR (Hj G K a.value b.value (Xl W (by omega))) ?_;cases h4:Ee a.value b.value
 ·simp only[go_sem];exact Dj.sub t (.refl ⟨by simp [Ki, *],rfl⟩)
 simp only[go_sem];exact Dj.sub t (.refl ⟨by simp [Ki, *],rfl⟩)
theorem Ze (a b:Dis) (ha:Ud 16777216 a):Ad Tryz.prog G 33 [.agg (Du a),.agg (Du b)] H (Am (.bool (Nr a b)) H):=by
 obtain⟨S,U,V⟩:=ha;refine dci Tryz.func33 Tryz.call33 ?_;simp only[go_sem,DVal.cells];intro J W;obtain⟨X,y⟩: ∃K',K'=upd H J (some (.cells (Du a) 58)):=⟨_,rfl⟩;rw[<-y];have L:=y.symm▸Aa _ _ _;have M:=y.symm▸(Sub.refl _).new W _;simp only[go_sem,DVal.cells];intro Y Z;obtain⟨K,C⟩: ∃K',K'=upd X Y (some (.cells (Du b) 58)):=⟨_,rfl⟩;rw[<-C];have O:=C.symm▸Aa _ _ _;have D:=C.symm▸(Sub.refl _).new Z _;have E:K J=some (.cells (Du a) 58):=D _ _ L;have I:=O;have t:Sub H K:=M.trans D;clear D M O L C y;simp only[go_sem,E,I,Bd,Vr];refine Ad.monoR (Hj G K a.name b.name (Xl S (by omega))) ?_;cases h1:Ee a.name b.name
 ·simp only[go_sem];exact Dj.sub t (.refl ⟨by simp [Nr, *],rfl⟩)
 simp only[go_sem,E,I,Bd,Al5];refine Ad.monoR (Hj G K a.lo b.lo (Xl U (by omega))) ?_;cases h2:Ee a.lo b.lo
 ·simp only[go_sem];exact Dj.sub t (.refl ⟨by simp [Nr, *],rfl⟩)
 simp only[go_sem,E,I,Bd,Aw4];refine Ad.monoR (Hj G K a.hi b.hi (Xl V (by omega))) ?_;cases h3:Ee a.hi b.hi
 ·simp only[go_sem];exact Dj.sub t (.refl ⟨by simp [Nr, *],rfl⟩)
 simp only[go_sem];exact Dj.sub t (.refl ⟨by simp [Nr, *],rfl⟩)
theorem Cd1 {α:Type} {a b:List α} {i:Nat} (ha:i<a.length) (hb:i<b.length) (h:a.take i=b.take i) (e:a[i]=b[i]):a.take (i+1)=b.take (i+1):=by
 rw[List.take_add_one,List.take_add_one,List.getElem?_eq_getElem ha,List.getElem?_eq_getElem hb,h,e]
theorem Af7 (a b:List (List UInt8)) (ha:a.length<=1099511627776) (hb:b.length<=1099511627776):Ad Tryz.prog G 113 [dW a,dW b] H (Am (.bool (decide (a=b))) H):=by
 refine dci Tryz.func113 Tryz.call113 ?_;by_cases hl:a.length=b.length
 ·simp only[go_sem,hl,dW];obtain⟨I,D⟩: ∃I:Nat->(Nat->DVal)->Ab->Prop,∀i env heap,I i env heap↔(H=heap/\env 0= .vslice (a.map .str) a.length/\env 1= .vslice (b.map .str) b.length/\env 12=dI b.length/\env 13=dI i/\i<=a.length/\a.take i=b.take i):=⟨_,λ_ _ _=>Iff.rfl⟩;refine Ea9.run I (λi=>a.length-i) 0 ((D _ _ _).2 ?_) ?_
  ·simp only[go_sem];simp [hl]
  ·intro i env heap hi;obtain⟨rfl,h0,h1,y,C,hi,ht⟩:=(D _ _ _).1 hi;by_cases E:i<a.length
   ·(have J:i<b.length:=by omega);by_cases hx:a[i]=b[i]
    ·simp(disch:=omega)only[go_sem,y,C];refine An pL13 ?_;simp(disch:=omega)only[go_sem,h0,h1,C,hx];refine⟨i+1,_,Rn.refl _,(D _ _ _).2 ?_,by omega⟩;simp only[go_sem,h0,h1,y];(repeat' apply And.intro)<;>(try first|rfl|assumption|omega);exact Cd1 E J ht hx
    ·simp(disch:=omega)only[go_sem,y,C];refine An pL13 ?_;simp(disch:=omega)only[go_sem,h0,h1,hx];refine Dj.refl ⟨?_,rfl⟩;rw[decide_eq_false (λe=>hx (by subst e;rfl))]
   ·simp(disch:=omega)only[go_sem,y,C];refine Dj.refl ⟨?_,rfl⟩;have:a=b:=by
     rw[List.take_of_length_le (by omega),List.take_of_length_le (by omega)] at ht;exact ht
    rw[decide_eq_true this]
 ·simp(disch:=omega)only[go_sem,dW];refine Dj.refl ⟨?_,rfl⟩;rw[decide_eq_false (λe=>hl (by rw[e]))]
end
theorem Ci7 {d:Nat} {x:Ex} (h:Dk d x=true) (C:x.kind=4): ∃y ys,x.l=y::ys:=by
 have hf:=(Hy h).1;unfold Ax at hf;rw[if_neg (by omega),if_neg (by omega),if_neg (by omega),if_pos (.inl C)] at hf;cases hl:x.l with
 |nil=>simp [Je,hl] at hf
 |cons y ys=>exact⟨y,ys,rfl⟩
theorem Nx (G:Nat->DVal) (H:Ab) (e:Ex) (he:Cp 16777216 e):Ad Tryz.prog G 134 [.agg (dEx e)] H (Am (.bool (Ga e)) H):=by
 refine dci Tryz.func134 Tryz.call134 ?_;simp only[go_sem,DVal.cells];intro r hr;simp only[go_sem];have h1:=he.1;refine(Ok G _ e (by omega)).mono ?_;rintro _ H1 ⟨rfl,rfl⟩;cases hm:Bu e
 ·simp only[go_sem];exact Dj.dropA r hr (Dj.refl ⟨by simp [Ga,hm],rfl⟩)
 ·simp only[go_sem];have hv:Dk 1 e=true:=by unfold Bu at hm;simp only[jF] at hm;exact hm.1
  have J:Ga e=Rz (Ff e) e:=by rw[Ga,hm,jS]
  rw[J];obtain⟨I,E⟩: ∃I:Ex×Nat->(Nat->DVal)->Ab->Prop,∀C env heap,I C env heap↔(env 1= .optr r 0/\heap=upd H r (some (.cells (dEx C.1) 27))/\Ff C.1<=C.2/\Rz C.2 C.1=Rz (Ff e) e/\ ∃d,Dk d C.1=true):=⟨_,λ_ _ _=>Iff.rfl⟩;refine Ea9.run I (λC=>C.2) (e,Ff e) ((E _ _ _).2 ?_) ?_
  ·simp only[go_sem];exact⟨1,hv⟩
  ·rintro⟨x,n⟩ env heap hi;obtain⟨e1,rfl,hn,hk,d,hd⟩:=(E _ _ _).1 hi;dsimp only at hn hk hd;have hg:upd H r (some (.cells (dEx x) 27)) r=some (.cells (dEx x) 27):=Aa _ _ _;(have V:0<Ff x:=by rw[Oh];omega);obtain⟨n,rfl⟩: ∃m,n=m+1:=⟨n-1,by omega⟩;rw[Rz] at hk;by_cases h4:x.kind=4
   ·obtain⟨y,ys,D⟩:=Ci7 hd h4;rw[if_pos h4,D] at hk;(have hys:y∈parts x:=by rw[parts,D];simp);have W:=Ae0 hys;have L:=(Hy hd).2 y hys;(have M:(x.l.flatMap dEx).take 9=dEx y:=by rw[D,List.flatMap_cons,Pm]);(have O:9<=(x.l.flatMap dEx).length:=by rw[D,List.flatMap_cons,jC,Af];omega);(have S:(0:Int)<(x.l.length:Int):=by rw[D,jA];omega);(have U:0<(x.l.flatMap dEx).length:=by omega);simp(disch:=omega)only[go_sem,e1,hg,h4,M,O,S,U,Af,Cd];refine⟨(y,n),_,Rn.refl _,(E _ _ _).2 ?_,by omega⟩;simp(disch:=omega)only[go_sem,e1];(repeat' apply And.intro)<;>(try first|rfl|assumption|omega);exact⟨d+1,L⟩
   ·rw[if_neg h4] at hk;simp only[go_sem,e1,hg,h4];exact Dj.dropA r hr (Dj.refl ⟨by rw[<-hk],rfl⟩)
section
variable {G:Nat->DVal} (hG:GX G)
include hG
theorem Qe (H:Ab) (e:Ex) (he:Cp 16777216 e):Ad Tryz.prog G 89 [.agg (dEx e)] H (Am (.bool (Ga e)) H):=by
 refine dci Tryz.func89 Tryz.call89 ?_;simp only[go_sem,DVal.cells];intro r hr;simp only[go_sem];refine .monoR (Ae3 hG _ e he.fitx) ?_;cases hm:Bu e
 ·simp only[go_sem];exact Dj.dropA r hr (Dj.refl ⟨by simp [Ga,hm],rfl⟩)
 ·simp only[go_sem];have hv:Dk 1 e=true:=by unfold Bu at hm;simp only[jF] at hm;exact hm.1
  have J:Ga e=Rz (Ff e) e:=by rw[Ga,hm,jS]
  rw[J];obtain⟨I,E⟩: ∃I:Ex×Nat->(Nat->DVal)->Ab->Prop,∀C env heap,I C env heap↔(env 1= .optr r 0/\heap=upd H r (some (.cells (dEx C.1) 27))/\Ff C.1<=C.2/\Rz C.2 C.1=Rz (Ff e) e/\ ∃d,Dk d C.1=true):=⟨_,λ_ _ _=>Iff.rfl⟩;refine Ea9.run I (λC=>C.2) (e,Ff e) ((E _ _ _).2 ?_) ?_
  ·simp only[go_sem];exact⟨1,hv⟩
  ·rintro⟨x,n⟩ env heap hi;obtain⟨e1,rfl,hn,hk,d,hd⟩:=(E _ _ _).1 hi;dsimp only at hn hk hd;have hg:upd H r (some (.cells (dEx x) 27)) r=some (.cells (dEx x) 27):=Aa _ _ _;(have V:0<Ff x:=by rw[Oh];omega);obtain⟨n,rfl⟩: ∃m,n=m+1:=⟨n-1,by omega⟩;rw[Rz] at hk;by_cases h4:x.kind=4
   ·obtain⟨y,ys,D⟩:=Ci7 hd h4;rw[if_pos h4,D] at hk;(have hys:y∈parts x:=by rw[parts,D];simp);have W:=Ae0 hys;have L:=(Hy hd).2 y hys;(have M:(x.l.flatMap dEx).take 9=dEx y:=by rw[D,List.flatMap_cons,Pm]);(have O:9<=(x.l.flatMap dEx).length:=by rw[D,List.flatMap_cons,jC,Af];omega);(have S:(0:Int)<(x.l.length:Int):=by rw[D,jA];omega);(have U:0<(x.l.flatMap dEx).length:=by omega);simp(disch:=omega)only[go_sem,e1,hg,h4,M,O,S,U,Af,Cd];refine⟨(y,n),_,Rn.refl _,(E _ _ _).2 ?_,by omega⟩;simp(disch:=omega)only[go_sem,e1];(repeat' apply And.intro)<;>(try first|rfl|assumption|omega);exact⟨d+1,L⟩
   ·rw[if_neg h4] at hk;simp only[go_sem,e1,hg,h4];exact Dj.dropA r hr (Dj.refl ⟨by rw[<-hk],rfl⟩)
end
theorem Gx9 (G:Nat->DVal) (H:Ab) (p:(List UInt8)->Bool) (l:List (List UInt8)) (g:FuncId) (xs ys:List DVal) (hl:l.length<=1099511627776)
  (hp: ∀x∈l,Ad Tryz.prog G g (xs++ [.str x]++ys) H (Am (.bool (p x)) H)):
  Ad Tryz.prog G 276 [.vslice (l.map .str) l.length,.func (.func g) xs ys] H (Am (dI (Bk5 p l)) H):=by
 refine dci Tryz.func276 Tryz.call276 ?_;simp only[go_sem];refine Ea9.run (λ(i:Nat) env heap=>heap=H/\env 0= .vslice (l.map .str) l.length/\env 1= .func (.func g) xs ys/\env 7=dI l.length/\env 8=dI i/\i<=l.length/\ ∀x∈l.take i,p x=false) (λi=>l.length-i) 0 ?_ ?_
 ·simp only[go_sem];simp
 ·rintro i env heap ⟨rfl,h0,h1,h7,h8,hi,hn⟩;by_cases y:i<l.length
  ·skip
   simp(disch:=omega)only[go_sem,h0,h1,h7,h8,y];have hc:=hp l[i] (List.getElem_mem y)
   skip
   refine hc.mono ?_;rintro _ H ⟨rfl,rfl⟩;cases hx:p l[i] with
   |true=>
    simp only[go_sem];exact Dj.refl ⟨by rw[Ai1 y hx hn],rfl⟩
   |false=>
    simp only[go_sem,h8];refine⟨i+1,_,Rn.refl _, ?_,by omega⟩;simp(disch:=omega)only[go_sem,h0,h1,h7];(repeat' apply And.intro)<;>(try first|rfl|assumption|omega);exact Jm y hn hx
  ·simp(disch:=omega)only[go_sem,h7,h8];(have:i=l.length:=by omega);subst this;rw[List.take_length] at hn;exact Dj.refl ⟨by rw[Ai2 hn],rfl⟩
theorem Ev2 (G:Nat->DVal) (H:Ab) (p:List UInt8->Bool) (l:List (List UInt8)) (g:FuncId) (xs ys:List DVal) (hl:l.length<=1099511627776)
  (hp: ∀x∈l,Ad Tryz.prog G g (xs++ [.str x]++ys) H (Am (.bool (p x)) H)):
  Ad Tryz.prog G 207 [.vslice (l.map .str) l.length,.func (.func g) xs ys] H (Am (.bool (l.any p)) H):=by
 refine dci Tryz.func207 Tryz.call207 ?_;simp only[go_sem];refine .monoR (Gx9 G H p l g xs ys hl hp) ?_;simp only[go_sem];exact Dj.refl ⟨by rw[Wr],rfl⟩
section
variable {G:Nat->DVal} (hG:GX G)
include hG
theorem Df9 (H:Ab) (s:List UInt8) (hs:s.length<=9223372036854775807):Ad Tryz.prog G 208 ([]++ [.str s]++ []) H (Am (.bool (!Iv s)) H):=by
 refine dci Tryz.func208 Tryz.call208 ?_;simp only[go_sem,jG,jH];refine .monoR (Yn hG _ s hs) ?_;simp only[go_sem];exact Dj.refl ⟨rfl,rfl⟩
theorem Ap7 (H:Ab) (l:List (List UInt8)) (m:Nat) (hl:Aa4 16777216 l):Ad Tryz.prog G 100 [dW l,dI m] H (Am (.bool (Ey l m)) H):=by
 have D:=hl.1;refine dci Tryz.func100 Tryz.call100 ?_;simp only[go_sem,dW];by_cases h0:0<l.length
 ·have y:(0:Int)<(l.length:Int):=by omega
  by_cases h1:l.length<=m
  ·(have C:(l.length:Int)<=(m:Int):=by omega);simp only[go_sem,y,C];refine(Ev2 G _ (λe=>!Iv e) l 208 [] [] (by omega) λx hx=>Df9 hG _ x (hl.2 x hx)).mono ?_;rintro _ H1 ⟨rfl,rfl⟩;rw[Vl];simp only[go_sem];exact Dj.refl ⟨by simp [Ey,h1];omega,rfl⟩
  ·(have C: ¬(l.length:Int)<=(m:Int):=by omega);simp only[go_sem,y,C];exact Dj.refl ⟨by simp [Ey,h1],rfl⟩
 ·have y: ¬(0:Int)<(l.length:Int):=by omega
  simp only[go_sem,y];exact Dj.refl ⟨by simp [Ey];omega,rfl⟩
end
theorem Af8 (G:Nat->DVal) (H:Ab) (l:List (List UInt8)) (m:Nat) (hl:Aa4 16777216 l):Ad Tryz.prog G 137 [dW l,dI m] H (Am (.bool (Ey l m)) H):=by
 have V:=hl.1;refine dci Tryz.func137 Tryz.call137 ?_;simp only[go_sem,dW];obtain⟨I,J⟩: ∃I:Nat->(Nat->DVal)->Ab->Prop,∀i env heap,I i env heap↔(H=heap/\env 0= .vslice (l.map .str) l.length/\env 1=dI m/\env 5=dI i/\i<=l.length/\ ∀x∈l.take i,Iv x=true):=⟨_,λ_ _ _=>Iff.rfl⟩;refine Ea9.run I (λi=>l.length-i) 0 ((J _ _ _).2 ?_) ?_
 ·simp only[go_sem];simp
 ·intro i env heap hi;obtain⟨rfl,y,e1,C,hi,hn⟩:=(J _ _ _).1 hi;by_cases O:i<l.length
  ·(have D:(i:Int)<(l.length:Int):=by omega);(have U:IntKind.i64.wrap ((i:Int)+1)=((i+1:Nat):Int):=by rw[IntKind.wrap_i64];omega);simp(disch:=omega)only[go_sem,y,C,D];refine Ad.monoR (Qb G _ l[i]) ?_;cases hx:Iv l[i]
   ·simp only[go_sem];have L:l.all Iv=false:=by
     rw[List.all_eq_false];exact⟨l[i],List.getElem_mem O,by simp [hx]⟩
    exact Dj.refl ⟨by simp [Ey,L],rfl⟩
   ·simp only[go_sem,C];refine⟨i+1,_,Rn.refl _,(J _ _ _).2 ?_,by omega⟩;simp only[go_sem,y,e1,U];(repeat' apply And.intro)<;>(try first|rfl|assumption|omega);intro x S;rw[List.take_add_one,List.getElem?_eq_getElem O] at S;rcases List.mem_append.1 S with h|h
    ·exact hn x h
    ·simp at h;subst h;exact hx
  ·(have:i=l.length:=by omega);subst this;rw[List.take_length] at hn;(have L:l.all Iv=true:=by rw[List.all_eq_true];exact hn);(have D: ¬(l.length:Int)<(l.length:Int):=by omega);by_cases h1:1<=l.length
   ·(have E:(1:Int)<=(l.length:Int):=by omega);by_cases h2:l.length<=m
    ·(have M:(l.length:Int)<=(m:Int):=by omega);simp only[go_sem,y,e1,C,D,E,M];exact Dj.refl ⟨by simp [Ey,L,h1,h2],rfl⟩
    ·(have M: ¬(l.length:Int)<=(m:Int):=by omega);simp only[go_sem,y,e1,C,D,E,M];exact Dj.refl ⟨by simp [Ey,h2],rfl⟩
   ·(have E: ¬(1:Int)<=(l.length:Int):=by omega);simp only[go_sem,y,C,D,E];exact Dj.refl ⟨by simp [Ey,h1],rfl⟩
theorem Sk (G:Nat->DVal) (H:Ab) (s:Ind) (hs:Sa 16777216 s):Ad Tryz.prog G 36 [.agg (Db s)] H (Am (.bool (Co s)) H):=by
 obtain⟨E,I,J,D⟩:=hs;have S:=D.1;refine dci Tryz.func36 Tryz.call36 ?_;simp only[go_sem,DVal.cells];intro M O;dsimp only at O;obtain⟨K,L⟩: ∃K',K'=upd H M (some (.cells (Db s) 56)):=⟨_,rfl⟩;rw[<-L];have y:K M=some (.cells (Db s) 56):=by rw[L];exact Aa _ _ _
 have C:Sub H K:=by rw[L];exact(Sub.refl _).new O _
 simp only[go_sem,y,Au,Aw3];refine Ad.monoR (Df G K s.lo I) ?_;cases h1:noE s.lo
 ·simp only[go_sem,y,Au,Aw2];refine Ad.monoR (Nx G K s.name E) ?_;cases h3:Ga s.name
  ·simp only[go_sem];exact Dj.sub C (.refl ⟨by simp [Co, *],rfl⟩)
  ·simp only[go_sem,y,Au,Al4];refine Ad.monoR (Df G K s.value D) ?_;cases h4:noE s.value
   ·simp only[go_sem];exact Dj.sub C (.refl ⟨by simp [Co, *],rfl⟩)
   ·simp only[go_sem,y,Au,Aw3,Bi9];refine Ad.monoR (Uf G K s.lo s.hi I J) ?_;simp only[go_sem];exact Dj.sub C (.refl ⟨by simp [Co, *],rfl⟩)
 ·simp only[go_sem,y,Au,Bi9];refine Ad.monoR (Df G K s.hi J) ?_;cases h2:noE s.hi
  ·simp only[go_sem,y,Au,Aw2];refine Ad.monoR (Nx G K s.name E) ?_;cases h3:Ga s.name
   ·simp only[go_sem];exact Dj.sub C (.refl ⟨by simp [Co, *],rfl⟩)
   ·simp only[go_sem,y,Au,Al4];refine Ad.monoR (Df G K s.value D) ?_;cases h4:noE s.value
    ·simp only[go_sem];exact Dj.sub C (.refl ⟨by simp [Co, *],rfl⟩)
    ·simp only[go_sem,y,Au,Aw3,Bi9];refine Ad.monoR (Uf G K s.lo s.hi I J) ?_;simp only[go_sem];exact Dj.sub C (.refl ⟨by simp [Co, *],rfl⟩)
  ·simp only[go_sem,y,Au,Aw2];refine Ad.monoR (Nx G K s.name E) ?_;cases h3:Ga s.name
   ·simp only[go_sem];exact Dj.sub C (.refl ⟨by simp [Co, *],rfl⟩)
   ·simp only[go_sem,y,Au,Al4];refine Ad.monoR (Df G K s.value D) ?_;cases h4:noE s.value
    ·simp only[go_sem,y,Au,Al4];refine Ad.monoR (Ok G K s.value (by omega)) ?_;simp only[go_sem];exact Dj.sub C (.refl ⟨by simp [Co, *],rfl⟩)
    ·simp only[go_sem];exact Dj.sub C (.refl ⟨by simp [Co, *],rfl⟩)
theorem Ef8 (d:Dis):(Du d)[0]? =some (.int .u8 d.name.kind):=by
 obtain⟨⟨k,o,n,s,l,a,li,en,t⟩,lo,hi⟩:=d;simp [Du,Ys,Ex.kind]
theorem Zf (G:Nat->DVal) (H:Ab) (d:Dis) (O:Ud 16777216 d):Ad Tryz.prog G 38 [.agg (Du d)] H (Am (.bool (Dt d)) H):=by
 obtain⟨D,E,I⟩:=O;have S:=D.1;refine dci Tryz.func38 Tryz.call38 ?_;simp only[go_sem,DVal.cells];intro L M;dsimp only at M;obtain⟨K,J⟩: ∃K',K'=upd H L (some (.cells (Du d) 58)):=⟨_,rfl⟩;rw[<-J];have y:K L=some (.cells (Du d) 58):=by rw[J];exact Aa _ _ _
 have C:Sub H K:=by rw[J];exact(Sub.refl _).new M _
 simp only[go_sem,y,Bd,Al5];refine Ad.monoR (Df G K d.lo E) ?_;cases h1:noE d.lo
 ·simp only[go_sem,y,Bd,Al5,Aw4];refine Ad.monoR (Uf G K d.lo d.hi E I) ?_;cases h3:(Bu d.lo&&Bu d.hi)
  ·simp only[go_sem];exact Dj.sub C (.refl ⟨by simp [Dt, *],rfl⟩)
  ·simp only[go_sem,y,Bd,Vr];refine Ad.monoR (Df G K d.name D) ?_;cases h4:noE d.name
   ·simp only[go_sem,y,Bd,Vr];refine Ad.monoR (Nx G K d.name D) ?_;simp only[go_sem];exact Dj.sub C (.refl ⟨by simp [Dt, *],rfl⟩)
   ·simp only[go_sem];exact Dj.sub C (.refl ⟨by simp [Dt, *],rfl⟩)
 ·simp only[go_sem,y,Bd,Aw4];refine Ad.monoR (Df G K d.hi I) ?_;cases h2:noE d.hi
  ·simp only[go_sem,y,Bd,Al5,Aw4];refine Ad.monoR (Uf G K d.lo d.hi E I) ?_;cases h3:(Bu d.lo&&Bu d.hi)
   ·simp only[go_sem];exact Dj.sub C (.refl ⟨by simp [Dt, *],rfl⟩)
   ·simp only[go_sem,y,Bd,Vr];refine Ad.monoR (Df G K d.name D) ?_;cases h4:noE d.name
    ·simp only[go_sem,y,Bd,Vr];refine Ad.monoR (Nx G K d.name D) ?_;simp only[go_sem];exact Dj.sub C (.refl ⟨by simp [Dt, *],rfl⟩)
    ·simp only[go_sem];exact Dj.sub C (.refl ⟨by simp [Dt, *],rfl⟩)
  ·simp only[go_sem,y,Bd,Vr];refine Ad.monoR (Nx G K d.name D) ?_;cases h3:Ga d.name
   ·by_cases h4:d.name.kind=6
    ·simp only[go_sem,y,Bd,Vr,Ef8,h4];refine Ad.monoR (Ok G K d.name (by omega)) ?_;simp only[go_sem];exact Dj.sub C (.refl ⟨by simp [Dt, *],rfl⟩)
    ·simp only[go_sem,y,Ef8,h4];exact Dj.sub C (.refl ⟨by simp [Dt, *],rfl⟩)
   ·simp only[go_sem];exact Dj.sub C (.refl ⟨by simp [Dt, *],rfl⟩)
theorem Jf (G:Nat->DVal) (H:Ab) (l:List Ex) (r:Nat) (y:H r=some (.cells (l.flatMap dEx) 27)) (hl:l.length<=1099511627776) (hb: ∀x∈l,Cp 16777216 x):
  Ad Tryz.prog G 112 [.oslice 9 r 0 l.length l.length] H (Am (.bool (l.all noE)) H):=
 Km.lent (H:=h0) (Km.cons (Ln.cells (λ_ _ h=>by cases h) rfl y (Ak Af l) (.keep (λ_ _ h=>by cases h) _)) .nil) (Ci4 G h0 l hl hb) rfl
structure Hid (p:Prop):Prop where
 h:p
theorem Ev3 {α β:Type} {t:α} {v:β} {q:α->β->Prop} {R:Prop} (a:q t v->R) (b:q t v):R:=a b
section
variable {G:Nat->DVal} (hG:GX G)
include hG
theorem Lz (H:Ab) (l:List Ex) (r:Nat) (y:H r=some (.cells (l.flatMap dEx) 27)) (hl:l.length<=1099511627776) (hb: ∀x∈l,Cp 16777216 x):
  Ad Tryz.prog G 102 [.oslice 9 r 0 l.length l.length] H (Am (.bool (l.all Bu)) H):=
 Km.lent (H:=h0) (Km.cons (Ln.cells (λ_ _ h=>by cases h) rfl y (Ak Af l) (.keep (λ_ _ h=>by cases h) _)) .nil) (Bx1 hG h0 l hl hb) rfl
theorem Ot (H:Ab) (s:Ind) (hs:Sa 16777216 s):Ad Tryz.prog G 104 [.agg (Db s)] H (Am (.bool (Co s)) H):=by
 obtain⟨f0,f1,f2,f3⟩:=hs;have p2: ∀x∈ [s.lo,s.hi],Cp 16777216 x:=by intro x hx;simp at hx;rcases hx with rfl|rfl<;>assumption
 have p1: ∀x∈ [s.value],Cp 16777216 x:=by intro x hx;simp at hx;subst hx;assumption
 have e2: [s.lo,s.hi].all noE=(noE s.lo&&noE s.hi):=by simp
 have e1: [s.value].all noE=noE s.value:=by simp
 have d2: [s.lo,s.hi].all Bu=(Bu s.lo&&Bu s.hi):=by simp
 have d1: [s.value].all Bu=Bu s.value:=by simp
 have q2: [s.lo,s.hi].flatMap dEx=dEx s.lo++dEx s.hi:=by simp
 have q1: [s.value].flatMap dEx=dEx s.value:=by simp
 refine dci Tryz.func104 Tryz.call104 ?_;simp only[go_sem,DVal.cells];intro L ag;obtain⟨K,hK⟩: ∃K',K'=upd H L (some (.cells (Db s) 56)):=⟨_,rfl⟩;rw[<-hK];have X:=hK.symm▸Aa _ _ _;have sK:=hK.symm▸(Sub.refl _).new ag _;simp only[go_sem];refine An (.take 0 (.take 1 (.take 2 (.take 3 (.take 7 (.take 8 (.alt (.go 9 [3,1] (.go 4 [8] (.go 5 [8] (.take 6 (.go 10 [] (.take 11 (.take 12 (.take 13 .done)))))))) (.go 4 [8] (.alt (.go 9 [3,1] (.go 5 [8] (.take 6 (.go 10 [] (.take 11 (.take 12 (.take 13 .done))))))) (.go 5 [8] (.take 6 (.go 9 [3,1] (.go 10 [] (.take 11 (.take 12 (.take 13 .done)))))))))))))))) ?_;simp only[go_sem,X,Au,Aw3,Bi9,Al4,Ea (Af _),Kt (Af _) (Af _)];apply Ev3 (q:=λ(T:DK) (V:DExit->DS->Prop)=>Hid (∀E y,Sub H y->y L=some (.cells (Db s) 56)->E 1= .optr L 0->E 3= .bool (!(noE s.lo&&noE s.hi))->E 4= .bool (!noE s.value)->Ad Tryz.prog G 89 [.agg (dEx s.name)] y (Xy (some 19) T V E)))
 case a=>
  intro tail;refine⟨?_, ?_⟩
  ·intro M aa;obtain⟨O,S⟩: ∃K',K'=upd K M (some (.cells (dEx s.value) 27)):=⟨_,rfl⟩;rw[<-S];have ab:=S.symm▸Aa _ _ _;have Y:=S.symm▸(Sub.refl _).new aa _;have D:O L=some (.cells (Db s) 56):=Y _ _ X;simp only[go_sem,D,Kt (Af _) (Af _)];refine⟨⟨X.symm,X.symm⟩, ?_⟩;intro U ad;obtain⟨y,I⟩: ∃K',K'=upd O U (some (.cells (dEx s.lo++dEx s.hi) 27)):=⟨_,rfl⟩;rw[<-I];have ac:=I.symm▸Aa _ _ _;have J:=I.symm▸(Sub.refl _).new ad _;have C:y L=some (.cells (Db s) 56):=J _ _ D;have ah:y M=some (.cells (dEx s.value) 27):=J _ _ ab;have t:Sub H y:=sK.trans (Y.trans J);simp only[go_sem,C];refine⟨D.symm, ?_⟩;refine Ad.monoR (Jf G y [s.lo,s.hi] U (by rw[q2];exact ac) (by simp) p2) ?_;rw[e2];simp only[go_sem,C];refine Ad.monoR (Jf G y [s.value] M (by rw[q1];exact ah) (by simp) p1) ?_;rw[e1];simp only[go_sem,C,Au,Aw2];apply tail.h
   ·exact t
   ·exact C
   ·first|rfl|simp only[go_sem]
   ·first|rfl|simp only[go_sem]
   ·first|rfl|simp only[go_sem]
  ·intro U ad;obtain⟨O,S⟩: ∃K',K'=upd K U (some (.cells (dEx s.lo++dEx s.hi) 27)):=⟨_,rfl⟩;rw[<-S];have ac:=S.symm▸Aa _ _ _;have Y:=S.symm▸(Sub.refl _).new ad _;have D:O L=some (.cells (Db s) 56):=Y _ _ X;simp only[go_sem,D,Ea (Af _)];refine⟨X.symm, ?_, ?_⟩
   ·intro M aa;obtain⟨y,I⟩: ∃K',K'=upd O M (some (.cells (dEx s.value) 27)):=⟨_,rfl⟩;rw[<-I];have ab:=I.symm▸Aa _ _ _;have J:=I.symm▸(Sub.refl _).new aa _;have C:y L=some (.cells (Db s) 56):=J _ _ D;have g9:y U=some (.cells (dEx s.lo++dEx s.hi) 27):=J _ _ ac;have t:Sub H y:=sK.trans (Y.trans J);simp only[go_sem,C];refine⟨⟨D.symm,D.symm⟩, ?_⟩;refine Ad.monoR (Jf G y [s.lo,s.hi] U (by rw[q2];exact g9) (by simp) p2) ?_;rw[e2];simp only[go_sem,C];refine Ad.monoR (Jf G y [s.value] M (by rw[q1];exact ab) (by simp) p1) ?_;rw[e1];simp only[go_sem,C,Au,Aw2];apply tail.h
    ·exact t
    ·exact C
    ·first|rfl|simp only[go_sem]
    ·first|rfl|simp only[go_sem]
    ·first|rfl|simp only[go_sem]
   ·refine Ad.monoR (Jf G O [s.lo,s.hi] U (by rw[q2];exact ac) (by simp) p2) ?_;rw[e2];simp only[go_sem,D,Ea (Af _)];intro M aa;obtain⟨y,I⟩: ∃K',K'=upd O M (some (.cells (dEx s.value) 27)):=⟨_,rfl⟩;rw[<-I];have ab:=I.symm▸Aa _ _ _;have J:=I.symm▸(Sub.refl _).new aa _;have C:y L=some (.cells (Db s) 56):=J _ _ D;have t:Sub H y:=sK.trans (Y.trans J);simp only[go_sem,C];refine⟨⟨D.symm,D.symm⟩, ?_⟩;refine Ad.monoR (Jf G y [s.value] M (by rw[q1];exact ab) (by simp) p1) ?_;rw[e1];simp only[go_sem,C,Au,Aw2];apply tail.h
    ·exact t
    ·exact C
    ·first|rfl|simp only[go_sem]
    ·first|rfl|simp only[go_sem]
    ·first|rfl|simp only[go_sem]
 case b=>
  refine⟨λE y t C z1 z3 z4=> ?_⟩;refine Ad.monoR (Qe hG y s.name f0) ?_;cases h3:Ga s.name
  ·simp only[go_sem];exact Dj.sub t (.refl ⟨by simp [Co, *],rfl⟩)
  ·cases h1:(noE s.lo&&noE s.hi)<;>cases h2:noE s.value
   ·simp only[go_sem,z3,z4,h1,h2,Bool.not_true,Bool.not_false];exact Dj.sub t (.refl ⟨by rw[Co,h3,h2,h1];simp,rfl⟩)
   ·simp only[go_sem,z1,z3,z4,h1,h2,Bool.not_true,Bool.not_false,C,Au,Aw3,Bi9,Kt (Af _) (Af _)];intro ae ai;obtain⟨K4,W⟩: ∃K',K'=upd y ae (some (.cells (dEx s.lo++dEx s.hi) 27)):=⟨_,rfl⟩;rw[<-W];have aj:=W.symm▸Aa _ _ _;have Z:=W.symm▸(Sub.refl _).new ai _;have g4:K4 L=some (.cells (Db s) 56):=Z _ _ C;simp only[go_sem];refine Ad.monoR (Lz hG K4 [s.lo,s.hi] ae (by rw[q2];exact aj) (by simp) p2) ?_;rw[d2];cases h5:(Bu s.lo&&Bu s.hi)
    ·simp only[go_sem];exact Dj.sub (t.trans Z) (.refl ⟨by rw[Co,h3,h2,h1,h5];simp,rfl⟩)
    ·simp only[go_sem,z4,h2,Bool.not_true,Bool.not_false];exact Dj.sub (t.trans Z) (.refl ⟨by rw[Co,h3,h2,h1,h5];simp,rfl⟩)
   ·simp only[go_sem,z1,z3,z4,h1,h2,Bool.not_true,Bool.not_false,C,Au,Al4,Ea (Af _)];intro af ak;obtain⟨K4,W⟩: ∃K',K'=upd y af (some (.cells (dEx s.value) 27)):=⟨_,rfl⟩;rw[<-W];have al:=W.symm▸Aa _ _ _;have Z:=W.symm▸(Sub.refl _).new ak _;simp only[go_sem];refine Ad.monoR (Lz hG K4 [s.value] af (by rw[q1];exact al) (by simp) p1) ?_;rw[d1];cases h5:Bu s.value
    ·simp only[go_sem];exact Dj.sub (t.trans Z) (.refl ⟨by rw[Co,h3,h2,h1,h5];simp,rfl⟩)
    ·simp only[go_sem];exact Dj.sub (t.trans Z) (.refl ⟨by rw[Co,h3,h2,h1,h5];simp,rfl⟩)
   ·simp only[go_sem,z3,z4,h1,h2,Bool.not_true,Bool.not_false];exact Dj.sub t (.refl ⟨by rw[Co,h3,h2,h1];simp,rfl⟩)
end
section
variable {G:Nat->DVal} (hG:GX G)
include hG
theorem Af9 (H:Ab) (d:Dis) (hd:Ud 16777216 d):Ad Tryz.prog G 32 [.agg (Du d)] H (Am (.bool (Dt d)) H):=by
 obtain⟨W,f1,f2⟩:=hd;have X: ∀x∈ [d.lo,d.hi],Cp 16777216 x:=by intro x hx;simp at hx;rcases hx with rfl|rfl<;>assumption
 have Y: ∀x∈ [d.name],Cp 16777216 x:=by intro x hx;simp at hx;subst hx;assumption
 have e2: [d.lo,d.hi].all noE=(noE d.lo&&noE d.hi):=by simp
 have e1: [d.name].all noE=noE d.name:=by simp
 have d2: [d.lo,d.hi].all Bu=(Bu d.lo&&Bu d.hi):=by simp
 have d1: [d.name].all Bu=Bu d.name:=by simp
 have q2: [d.lo,d.hi].flatMap dEx=dEx d.lo++dEx d.hi:=by simp
 have Z: [d.name].flatMap dEx=dEx d.name:=by simp
 refine dci Tryz.func32 Tryz.call32 ?_;simp only[go_sem,DVal.cells];intro I ag;obtain⟨K,S⟩: ∃K',K'=upd H I (some (.cells (Du d) 58)):=⟨_,rfl⟩;rw[<-S];have aa:=S.symm▸Aa _ _ _;have sK:=S.symm▸(Sub.refl _).new ag _;simp only[go_sem,aa,Bd,Al5,Aw4,Kt (Af _) (Af _)];intro r7 ah;obtain⟨D,U⟩: ∃K',K'=upd K r7 (some (.cells (dEx d.lo++dEx d.hi) 27)):=⟨_,rfl⟩;rw[<-U];have ai:=U.symm▸Aa _ _ _;have ab:=U.symm▸(Sub.refl _).new ah _;have E:D I=some (.cells (Du d) 58):=ab _ _ aa;have J:Sub H D:=sK.trans ab;simp only[go_sem];refine Ad.monoR (Jf G D [d.lo,d.hi] r7 (by rw[q2];exact ai) (by simp) X) ?_;rw[e2];cases h1:(noE d.lo&&noE d.hi)
 ·simp only[go_sem,E,Bd,Al5,Aw4,Kt (Af _) (Af _)];intro ac aj;obtain⟨y,C⟩: ∃K',K'=upd D ac (some (.cells (dEx d.lo++dEx d.hi) 27)):=⟨_,rfl⟩;rw[<-C];have ak:=C.symm▸Aa _ _ _;have L:=C.symm▸(Sub.refl _).new aj _;have g3:y I=some (.cells (Du d) 58):=L _ _ E;have M:Sub H y:=J.trans L;simp only[go_sem];refine Ad.monoR (Lz hG y [d.lo,d.hi] ac (by rw[q2];exact ak) (by simp) X) ?_;rw[d2];cases h2:(Bu d.lo&&Bu d.hi)
  ·simp only[go_sem];exact Dj.sub M (.refl ⟨by rw[Dt,h1,h2];simp,rfl⟩)
  ·simp only[go_sem,g3,Bd,Vr,Ea (Af _)];intro ad al;obtain⟨O,V⟩: ∃K',K'=upd y ad (some (.cells (dEx d.name) 27)):=⟨_,rfl⟩;rw[<-V];have am:=V.symm▸Aa _ _ _;have ae:=V.symm▸(Sub.refl _).new al _;have g4:O I=some (.cells (Du d) 58):=ae _ _ g3;have t4:Sub H O:=M.trans ae;simp only[go_sem];refine Ad.monoR (Jf G O [d.name] ad (by rw[Z];exact am) (by simp) Y) ?_;rw[e1];cases h3:noE d.name
   ·simp only[go_sem,g4,Bd,Vr];refine Ad.monoR (Qe hG O d.name W) ?_;simp only[go_sem];exact Dj.sub t4 (.refl ⟨by rw[Dt,h1,h2,h3];simp,rfl⟩)
   ·simp only[go_sem];exact Dj.sub t4 (.refl ⟨by rw[Dt,h1,h2,h3];simp,rfl⟩)
 ·simp only[go_sem,E,Bd,Vr];refine Ad.monoR (Qe hG D d.name W) ?_;cases h2:Ga d.name
  ·by_cases h4:d.name.kind=6
   ·simp only[go_sem,E,h4,Bd,Vr,Ef8,Ea (Af _)];intro af ao;obtain⟨y,C⟩: ∃K',K'=upd D af (some (.cells (dEx d.name) 27)):=⟨_,rfl⟩;rw[<-C];have ap:=C.symm▸Aa _ _ _;have L:=C.symm▸(Sub.refl _).new ao _;have M:Sub H y:=J.trans L;simp only[go_sem];refine Ad.monoR (Lz hG y [d.name] af (by rw[Z];exact ap) (by simp) Y) ?_;rw[d1];simp only[go_sem];exact Dj.sub M (.refl ⟨by rw[Dt,h1,h2];simp [h4],rfl⟩)
   ·simp only[go_sem,E,h4,Ef8];exact Dj.sub J (.refl ⟨by rw[Dt,h1,h2];simp [h4],rfl⟩)
  ·simp only[go_sem];exact Dj.sub J (.refl ⟨by rw[Dt,h1,h2];simp,rfl⟩)
end
theorem Gy0 (G:Nat->DVal) (H:Ab) (l:List Par) (p:Par->Bool) (y:Par->List (List UInt8)) (D E:FuncId) (hl:l.length<=16777216) (Y: ∀x∈l,(y x).length<=16777216)
  (h1: ∀x∈l,∀K,Ad Tryz.prog G D ([]++ [.agg (Gw x)]++ []) K (Am (dW (y x)) K)) (h2: ∀x∈l,∀K,Ad Tryz.prog G E ([]++ [.agg (Gw x)]++ []) K (Am (.bool (p x)) K)):
  Ad Tryz.prog G 124 [.vslice (l.flatMap Gw) l.length,.func (.func D) [] [],.func (.func E) [] []] H (Am (.tuple [dI (if l.all p then((l.map λx=>(y x).length).sum:Nat) else 0),.bool (l.all p)]) H):=by
 refine dci Tryz.func124 Tryz.call124 ?_;simp only[go_sem];obtain⟨I,J⟩: ∃I:Nat->(Nat->DVal)->Ab->Prop,∀i env heap,I i env heap↔(heap=H/\env 1= .func (.func D) [] []/\env 2= .func (.func E) [] []/\env 10= .vslice (l.flatMap Gw) l.length/\env 11=dI l.length/\env 12=dI i/\env 6=dI (((l.take i).map λx=>(y x).length).sum:Nat)/\i<=l.length/\((l.take i).map λx=>(y x).length).sum<=i*16777216/\ ∀x∈l.take i,p x=true):=⟨_,λ_ _ _=>Iff.rfl⟩;refine Ea9.run I (λi=>l.length-i) 0 ((J _ _ _).2 ?_) ?_
 ·simp only[go_sem];simp
 ·intro i env heap hi;obtain⟨rfl,e1,V,W,L,M,O,hi,hs,hp⟩:=(J _ _ _).1 hi;by_cases C:i<l.length
  ·(have S:(i:Int)<(l.length:Int):=by omega);have Z:=Bh Eo l i C;simp(disch:=omega)only[go_sem,W,L,M,S,Z,Ak Eo];intro r hr;simp only[go_sem,V];have mx:=List.getElem_mem C;have hst:((l.take (i+1)).map λx=>(y x).length).sum=((l.take i).map λx=>(y x).length).sum+(y l[i]).length:=by
    rw[List.take_add_one,List.getElem?_eq_getElem C,List.map_append,List.sum_append];congr 1
   have aa:=Y l[i] mx;refine Ad.monoR (by simpa using h2 l[i] mx _) ?_;cases hx:p l[i]
   ·simp only[go_sem];have U:l.all p=false:=by
     rw[List.all_eq_false];exact⟨l[i],mx,by simp [hx]⟩
    exact Dj.dropA r hr (Dj.refl ⟨by rw[U];rfl,rfl⟩)
   ·simp only[go_sem,e1,O];refine Ad.monoR (by simpa using h1 l[i] mx _) ?_;have ab:IntKind.i64.wrap ((((l.take i).map λx=>(y x).length).sum:Nat)+((y l[i]).length:Int))=((((l.take (i+1)).map λx=>(y x).length).sum:Nat):Int):=by
     rw[hst,IntKind.wrap_i64];omega
    simp(disch:=omega)only[go_sem,M,dW];refine⟨i+1,_,Rn.drop _ r,(J _ _ _).2 ?_,by omega⟩;simp(disch:=omega)only[go_sem,e1,V,W,L];(repeat' apply And.intro)<;>(try first|rfl|assumption|omega)
    ·exact To hr
    ·rw[hst];rfl
    ·intro x X;rw[List.take_add_one,List.getElem?_eq_getElem C] at X;rcases List.mem_append.1 X with h|h
     ·exact hp x h
     ·simp at h;subst h;exact hx
  ·(have:i=l.length:=by omega);subst this;rw[List.take_length] at hp O;(have U:l.all p=true:=by rw[List.all_eq_true];exact hp);(have S: ¬(l.length:Int)<(l.length:Int):=by omega);simp only[go_sem,L,M,O,S];exact Dj.refl ⟨by rw[U];rfl,rfl⟩
theorem Fr0 (G:Nat->DVal) (H:Ab) (p:Par):Ad Tryz.prog G 125 ([]++ [.agg (Gw p)]++ []) H (Am (dW p.names) H):=by
 refine dci Tryz.func125 Tryz.call125 ?_;simp only[go_sem,DVal.cells,jG,jH];intro C D;obtain⟨K,y⟩: ∃K',K'=upd H C (some (.cells (Gw p) 136)):=⟨_,rfl⟩;rw[<-y];have E:=y.symm▸Aa _ _ _;have I:=y.symm▸(Sub.refl _).new D _;simp only[go_sem,E,Bx2];exact Dj.sub I (.refl ⟨rfl,rfl⟩)
section
variable {G:Nat->DVal} (hG:GX G)
include hG
theorem Dv7 (H:Ab) (p:Par) (hp:Nk 16777216 p):Ad Tryz.prog G 126 ([]++ [.agg (Gw p)]++ []) H (Am (.bool (Fp p)) H):=by
 obtain⟨f0,f1,f2⟩:=hp;have U: ∀x∈ [p.e],Cp 16777216 x:=by intro x hx;simp at hx;subst hx;assumption
 have e1: [p.e].all noE=noE p.e:=by simp
 have d1: [p.e].all Bu=Bu p.e:=by simp
 have V: [p.e].flatMap dEx=dEx p.e:=by simp
 refine dci Tryz.func126 Tryz.call126 ?_;simp only[go_sem,DVal.cells,jG,jH];intro W aa;obtain⟨K,L⟩: ∃K',K'=upd H W (some (.cells (Gw p) 136)):=⟨_,rfl⟩;rw[<-L];have M:=L.symm▸Aa _ _ _;have sK:=L.symm▸(Sub.refl _).new aa _;simp only[go_sem];refine An (.take 0 (.take 1 (.take 2 (.take 3 (.take 4 (.go 5 [1] (.go 6 [1] (.take 7 (.take 8 (.take 9 .done)))))))))) ?_;simp only[go_sem,M,Eo,Xk,Bd9,Ea (Af _)];intro X ab;obtain⟨J,O⟩: ∃K',K'=upd K X (some (.cells (dEx p.e) 27)):=⟨_,rfl⟩;rw[<-O];have ac:=O.symm▸Aa _ _ _;have Y:=O.symm▸(Sub.refl _).new ab _;have y:J W=some (.cells (Gw p) 136):=Y _ _ M;have C:Sub H J:=sK.trans Y;simp only[go_sem,y];refine⟨M.symm, ?_⟩;refine Ad.monoR (Jf G J [p.e] X (by rw[V];exact ac) (by simp) U) ?_;rw[e1];simp only[go_sem,y,Bx2];refine Ad.monoR (Ap7 hG J p.names 8 f0) ?_;cases h1:Ey p.names 8
 ·simp only[go_sem];exact Dj.sub C (.refl ⟨by rw[Fp,h1];simp,rfl⟩)
 simp only[go_sem,y,Eo,Ef6];refine Ad.monoR (Qe hG J p.type f1) ?_;cases h2:Ga p.type
 ·simp only[go_sem];exact Dj.sub C (.refl ⟨by rw[Fp,h1,h2];simp,rfl⟩)
 cases h3:noE p.e
 ·by_cases D:p.mode=1
  ·simp only[go_sem,y,D,Eo,Bd9,Ea (Af _)];intro Z ad;obtain⟨K3,S⟩: ∃K',K'=upd J Z (some (.cells (dEx p.e) 27)):=⟨_,rfl⟩;rw[<-S];have ae:=S.symm▸Aa _ _ _;have af:=S.symm▸(Sub.refl _).new ad _;have t3:Sub H K3:=C.trans af;simp only[go_sem];refine Ad.monoR (Lz hG K3 [p.e] Z (by rw[V];exact ae) (by simp) U) ?_;rw[d1];simp only[go_sem];exact Dj.sub t3 (.refl ⟨by rw[Fp,h1,h2,Gk,h3];simp [D],rfl⟩)
  ·by_cases E:p.mode=2
   ·simp(disch:=omega)only[go_sem,y,E,Xk];exact Dj.sub C (.refl ⟨by rw[Fp,h1,h2,Gk,h3];simp [E],rfl⟩)
   ·by_cases I:p.mode=3
    ·simp(disch:=omega)only[go_sem,y,I,Xk];exact Dj.sub C (.refl ⟨by rw[Fp,h1,h2,Gk,h3];simp [I],rfl⟩)
    ·simp only[go_sem,y,D,E,I,Xk];exact Dj.sub C (.refl ⟨by rw[Fp,h1,h2,Gk,h3];simp [D],rfl⟩)
 ·by_cases D:p.mode=1
  ·simp only[go_sem,D];exact Dj.sub C (.refl ⟨by rw[Fp,h1,h2,Gk,h3];simp [D],rfl⟩)
  ·by_cases E:p.mode=2
   ·simp(disch:=omega)only[go_sem,y,E,Xk];exact Dj.sub C (.refl ⟨by rw[Fp,h1,h2,Gk,h3];simp [E],rfl⟩)
   ·by_cases I:p.mode=3
    ·simp(disch:=omega)only[go_sem,y,I,Xk];exact Dj.sub C (.refl ⟨by rw[Fp,h1,h2,Gk,h3];simp [I],rfl⟩)
    ·simp only[go_sem,y,D,E,I,Xk];exact Dj.sub C (.refl ⟨by rw[Fp,h1,h2,Gk,h3];simp [D];omega,rfl⟩)
theorem Ug (H:Ab) (l:List Par) (hl:Ei Nk 16777216 l):Ad Tryz.prog G 28 [Gh l] H (Am (.bool (Es l)) H):=by
 refine dci Tryz.func28 Tryz.call28 ?_;simp only[go_sem,Gh];refine Ad.monoR (Gy0 G H l Fp (λp=>p.names) 125 126 hl.1 (λx hx=>(hl.2 x hx).1.1) (λx hx K=>Fr0 G K x) (λx hx K=>Dv7 hG K x (hl.2 x hx))) ?_;cases h:l.all Fp
 ·simp only[go_sem];exact Dj.refl ⟨by rw[Es,h];rfl,rfl⟩
 ·simp only[go_sem];exact Dj.refl ⟨by rw[Es,h,Pr];simp;omega,rfl⟩
end
theorem Fr1 (G:Nat->DVal) (H:Ab) (p:Asp->Bool) (l:List Asp) (g:FuncId) (xs ys:List DVal) (hl:l.length<=1099511627776)
  (hp: ∀x∈l,Ad Tryz.prog G g (xs++ [.agg (Ip x)]++ys) H (Am (.bool (p x)) H)):
  Ad Tryz.prog G 287 [.vslice (l.flatMap Ip) l.length,.func (.func g) xs ys] H (Am (dI (Bk5 p l)) H):=by
 refine dci Tryz.func287 Tryz.call287 ?_;simp only[go_sem];refine Ea9.run (λ(i:Nat) env heap=>heap=H/\env 0= .vslice (l.flatMap Ip) l.length/\env 1= .func (.func g) xs ys/\env 7=dI l.length/\env 8=dI i/\i<=l.length/\ ∀x∈l.take i,p x=false) (λi=>l.length-i) 0 ?_ ?_
 ·simp only[go_sem];simp
 ·rintro i env heap ⟨rfl,h0,h1,h7,h8,hi,hn⟩;by_cases y:i<l.length
  ·have C:=Bh Gr l i y;simp(disch:=omega)only[go_sem,h0,h1,h7,h8,C,Ak Gr];have hc:=hp l[i] (List.getElem_mem y)
   skip
   refine hc.mono ?_;rintro _ H ⟨rfl,rfl⟩;cases hx:p l[i] with
   |true=>
    simp only[go_sem];exact Dj.refl ⟨by rw[Ai1 y hx hn],rfl⟩
   |false=>
    simp only[go_sem,h8];refine⟨i+1,_,Rn.refl _, ?_,by omega⟩;simp(disch:=omega)only[go_sem,h0,h1,h7];(repeat' apply And.intro)<;>(try first|rfl|assumption|omega);exact Jm y hn hx
  ·simp(disch:=omega)only[go_sem,h7,h8];(have:i=l.length:=by omega);subst this;rw[List.take_length] at hn;exact Dj.refl ⟨by rw[Ai2 hn],rfl⟩
theorem Dg0 (G:Nat->DVal) (H:Ab) (p:Asp->Bool) (l:List Asp) (g:FuncId) (xs ys:List DVal) (hl:l.length<=1099511627776)
  (hp: ∀x∈l,Ad Tryz.prog G g (xs++ [.agg (Ip x)]++ys) H (Am (.bool (p x)) H)):
  Ad Tryz.prog G 227 [.vslice (l.flatMap Ip) l.length,.func (.func g) xs ys] H (Am (.bool (l.any p)) H):=by
 refine dci Tryz.func227 Tryz.call227 ?_;simp only[go_sem];refine .monoR (Fr1 G H p l g xs ys hl hp) ?_;simp only[go_sem];exact Dj.refl ⟨by rw[Wr],rfl⟩
theorem Gy1 (G:Nat->DVal) (H:Ab) (l:List Cmp) (p:Cmp->Bool) (y:Cmp->List (List UInt8)) (D E:FuncId) (hl:l.length<=16777216) (Y: ∀x∈l,(y x).length<=16777216)
  (h1: ∀x∈l,∀K,Ad Tryz.prog G D ([]++ [.agg (Ih x)]++ []) K (Am (dW (y x)) K)) (h2: ∀x∈l,∀K,Ad Tryz.prog G E ([]++ [.agg (Ih x)]++ []) K (Am (.bool (p x)) K)):
  Ad Tryz.prog G 277 [.vslice (l.flatMap Ih) l.length,.func (.func D) [] [],.func (.func E) [] []] H (Am (.tuple [dI (if l.all p then((l.map λx=>(y x).length).sum:Nat) else 0),.bool (l.all p)]) H):=by
 refine dci Tryz.func277 Tryz.call277 ?_;simp only[go_sem];obtain⟨I,J⟩: ∃I:Nat->(Nat->DVal)->Ab->Prop,∀i env heap,I i env heap↔(heap=H/\env 1= .func (.func D) [] []/\env 2= .func (.func E) [] []/\env 10= .vslice (l.flatMap Ih) l.length/\env 11=dI l.length/\env 12=dI i/\env 6=dI (((l.take i).map λx=>(y x).length).sum:Nat)/\i<=l.length/\((l.take i).map λx=>(y x).length).sum<=i*16777216/\ ∀x∈l.take i,p x=true):=⟨_,λ_ _ _=>Iff.rfl⟩;refine Ea9.run I (λi=>l.length-i) 0 ((J _ _ _).2 ?_) ?_
 ·simp only[go_sem];simp
 ·intro i env heap hi;obtain⟨rfl,e1,V,W,L,M,O,hi,hs,hp⟩:=(J _ _ _).1 hi;by_cases C:i<l.length
  ·(have S:(i:Int)<(l.length:Int):=by omega);have Z:=Bh Ez l i C;simp(disch:=omega)only[go_sem,W,L,M,S,Z,Ak Ez];intro r hr;simp only[go_sem,V];have mx:=List.getElem_mem C;have hst:((l.take (i+1)).map λx=>(y x).length).sum=((l.take i).map λx=>(y x).length).sum+(y l[i]).length:=by
    rw[List.take_add_one,List.getElem?_eq_getElem C,List.map_append,List.sum_append];congr 1
   have aa:=Y l[i] mx;refine Ad.monoR (by simpa using h2 l[i] mx _) ?_;cases hx:p l[i]
   ·simp only[go_sem];have U:l.all p=false:=by
     rw[List.all_eq_false];exact⟨l[i],mx,by simp [hx]⟩
    exact Dj.dropA r hr (Dj.refl ⟨by rw[U];rfl,rfl⟩)
   ·simp only[go_sem,e1,O];refine Ad.monoR (by simpa using h1 l[i] mx _) ?_;have ab:IntKind.i64.wrap ((((l.take i).map λx=>(y x).length).sum:Nat)+((y l[i]).length:Int))=((((l.take (i+1)).map λx=>(y x).length).sum:Nat):Int):=by
     rw[hst,IntKind.wrap_i64];omega
    simp(disch:=omega)only[go_sem,M,dW];refine⟨i+1,_,Rn.drop _ r,(J _ _ _).2 ?_,by omega⟩;simp(disch:=omega)only[go_sem,e1,V,W,L];(repeat' apply And.intro)<;>(try first|rfl|assumption|omega)
    ·exact To hr
    ·rw[hst];rfl
    ·intro x X;rw[List.take_add_one,List.getElem?_eq_getElem C] at X;rcases List.mem_append.1 X with h|h
     ·exact hp x h
     ·simp at h;subst h;exact hx
  ·(have:i=l.length:=by omega);subst this;rw[List.take_length] at hp O;(have U:l.all p=true:=by rw[List.all_eq_true];exact hp);(have S: ¬(l.length:Int)<(l.length:Int):=by omega);simp only[go_sem,L,M,O,S];exact Dj.refl ⟨by rw[U];rfl,rfl⟩
theorem Fr2 (G:Nat->DVal) (H:Ab) (p:Cmp):Ad Tryz.prog G 278 ([]++ [.agg (Ih p)]++ []) H (Am (dW p.names) H):=by
 refine dci Tryz.func278 Tryz.call278 ?_;simp only[go_sem,DVal.cells,jG,jH];intro C D;obtain⟨K,y⟩: ∃K',K'=upd H C (some (.cells (Ih p) 202)):=⟨_,rfl⟩;rw[<-y];have E:=y.symm▸Aa _ _ _;have I:=y.symm▸(Sub.refl _).new D _;simp only[go_sem,E,Df8];exact Dj.sub I (.refl ⟨rfl,rfl⟩)
section
variable {G:Nat->DVal} (hG:GX G)
include hG
theorem Gy2 (H:Ab) (a:Asp) (ha:Ue 16777216 a):Ad Tryz.prog G 228 ([]++ [.agg (Ip a)]++ []) H (Am (.bool (!Nh a)) H):=by
 obtain⟨J,Z⟩:=ha;have L: ∀x∈ [a.e],Cp 16777216 x:=by intro x hx;simp at hx;subst hx;assumption
 have M: [a.e].all Bu=Bu a.e:=by simp
 have O: [a.e].flatMap dEx=dEx a.e:=by simp
 refine dci Tryz.func228 Tryz.call228 ?_;simp only[go_sem,DVal.cells,jG,jH];intro S U;obtain⟨K,y⟩: ∃K',K'=upd H S (some (.cells (Ip a) 187)):=⟨_,rfl⟩;rw[<-y];have D:=y.symm▸Aa _ _ _;have E:=y.symm▸(Sub.refl _).new U _;simp only[go_sem,D,Df6];refine Ad.monoR (Yn hG K a.name J) ?_;cases h1:Iv a.name
 ·simp only[go_sem];exact Dj.sub E (.refl ⟨by rw[Nh,h1];simp,rfl⟩)
 ·simp only[go_sem,D,Gr,Df7,Ea (Af _)];intro I V;obtain⟨W,C⟩: ∃K',K'=upd K I (some (.cells (dEx a.e) 27)):=⟨_,rfl⟩;rw[<-C];have X:=C.symm▸Aa _ _ _;have Y:=C.symm▸(Sub.refl _).new V _;simp only[go_sem];refine Ad.monoR (Lz hG W [a.e] I (by rw[O];exact X) (by simp) L) ?_;rw[M];simp only[go_sem];exact Dj.sub (E.trans Y) (.refl ⟨by rw[Nh,h1];simp,rfl⟩)
theorem Aa6 (H:Ab) (l:List Asp) (hl:Ei Ue 16777216 l):Ad Tryz.prog G 139 [Ib l] H (Am (.bool (Gv l)) H):=by
 refine dci Tryz.func139 Tryz.call139 ?_;by_cases h8:l.length<=8
 ·have y:(l.length:Int)<=8:=by omega
  simp only[go_sem,Ib,y];refine Ad.monoR (Dg0 G H (λe=>!Nh e) l 228 [] [] (by have:=hl.1;omega) λx hx=>Gy2 hG H x (hl.2 x hx)) ?_;rw[Vl];simp only[go_sem];exact Dj.refl ⟨by rw[Gv];simp [h8],rfl⟩
 ·have y: ¬(l.length:Int)<=8:=by omega
  simp only[go_sem,Ib,y];exact Dj.refl ⟨by rw[Gv];simp [h8],rfl⟩
theorem Dv8 (H:Ab) (c:Cmp) (X:Ka 16777216 c):Ad Tryz.prog G 279 ([]++ [.agg (Ih c)]++ []) H (Am (.bool (En c)) H):=by
 obtain⟨Y,Z,f2⟩:=X;have L: ∀x∈ [c.e],Cp 16777216 x:=by intro x hx;simp at hx;subst hx;assumption
 have e1: [c.e].all noE=noE c.e:=by simp
 have d1: [c.e].all Bu=Bu c.e:=by simp
 have M: [c.e].flatMap dEx=dEx c.e:=by simp
 refine dci Tryz.func279 Tryz.call279 ?_;simp only[go_sem,DVal.cells,jG,jH];intro O aa;obtain⟨K,D⟩: ∃K',K'=upd H O (some (.cells (Ih c) 202)):=⟨_,rfl⟩;rw[<-D];have y:=D.symm▸Aa _ _ _;have E:=D.symm▸(Sub.refl _).new aa _;simp only[go_sem,y,Df8];refine Ad.monoR (Ap7 hG K c.names 8 Y) ?_;cases h1:Ey c.names 8
 ·simp only[go_sem];exact Dj.sub E (.refl ⟨by rw[En,h1];simp,rfl⟩)
 simp only[go_sem,y,Ez,Ef7];refine Ad.monoR (Ot hG K c.sub Z) ?_;cases h2:Co c.sub
 ·simp only[go_sem];exact Dj.sub E (.refl ⟨by rw[En,h1,h2];simp,rfl⟩)
 simp only[go_sem,y,Ez,Bx3,Ea (Af _)];intro S ab;obtain⟨C,I⟩: ∃K',K'=upd K S (some (.cells (dEx c.e) 27)):=⟨_,rfl⟩;rw[<-I];have ac:=I.symm▸Aa _ _ _;have U:=I.symm▸(Sub.refl _).new ab _;have g2:C O=some (.cells (Ih c) 202):=U _ _ y;have V:Sub H C:=E.trans U;simp only[go_sem];refine Ad.monoR (Jf G C [c.e] S (by rw[M];exact ac) (by simp) L) ?_;rw[e1];cases h3:noE c.e
 ·simp only[go_sem,g2,Ez,Bx3,Ea (Af _)];intro W ad;obtain⟨K3,J⟩: ∃K',K'=upd C W (some (.cells (dEx c.e) 27)):=⟨_,rfl⟩;rw[<-J];have ae:=J.symm▸Aa _ _ _;have af:=J.symm▸(Sub.refl _).new ad _;simp only[go_sem];refine Ad.monoR (Lz hG K3 [c.e] W (by rw[M];exact ae) (by simp) L) ?_;rw[d1];simp only[go_sem];exact Dj.sub (V.trans af) (.refl ⟨by rw[En,h1,h2,Gk,h3];simp,rfl⟩)
 ·simp only[go_sem];exact Dj.sub V (.refl ⟨by rw[En,h1,h2,Gk,h3];simp,rfl⟩)
theorem Zg (H:Ab) (l:List Cmp) (hl:Ei Ka 16777216 l):Ad Tryz.prog G 210 [Ci l] H (Am (.tuple [dI (if l.all En then(Cr l:Nat) else 0),.bool (l.all En)]) H):=by
 refine dci Tryz.func210 Tryz.call210 ?_;simp only[go_sem,Ci];refine Ad.monoR (Gy1 G H l En (λp=>p.names) 278 279 hl.1 (λx hx=>(hl.2 x hx).1.1) (λx hx K=>Fr2 G K x) (λx hx K=>Dv8 hG K x (hl.2 x hx))) ?_;simp only[go_sem];exact Dj.refl ⟨by rw[Cr],rfl⟩
theorem Al6 (H:Ab) (l:List Cmp) (hl:Ei Ka 16777216 l):Ad Tryz.prog G 147 [Ci l] H (Am (.bool (Gn l)) H):=by
 refine dci Tryz.func147 Tryz.call147 ?_;simp only[go_sem];refine Ad.monoR (Zg hG H l hl) ?_;cases h:l.all En
 ·simp only[go_sem];exact Dj.refl ⟨by rw[Gn,h];rfl,rfl⟩
 ·simp only[go_sem];exact Dj.refl ⟨by rw[Gn,h];simp;omega,rfl⟩
end
end Go.Dl
