/- The data level and the contracts of the functions that are reached (part 8). -/
import Derived.Test.YtddbdpcgikmiaaaGreatDoorPgg
set_option linter.unusedSimpArgs false
set_option linter.unusedVariables false
set_option linter.unusedSectionVars false
-- Sf
namespace Go.Dl
open Go
set_option maxRecDepth 10000
theorem Fe3 {l:List Ex} (h:l.length=1): ∃x,l= [x]:=by
 match l,h with
 | [x],_=>exact⟨x,rfl⟩
theorem Ek4 {l:List Ex} (h:l.length=2): ∃x y,l= [x,y]:=by
 match l,h with
 | [x,y],_=>exact⟨x,y,rfl⟩
theorem Gu4 {l:List Ex} (h:l.length=3): ∃x y z,l= [x,y,z]:=by
 match l,h with
 | [x,y,z],_=>exact⟨x,y,z,rfl⟩
theorem Cj8 {e:Ex} (h:Kk e 1=true): ∃x,e.l= [x]/\Bu x=true:=by
 rw[Kk,jF,decide_eq_true_eq] at h;obtain⟨x,hx⟩:=Fe3 h.1;rw[hx] at h;exact⟨x,hx,h.2⟩
theorem Fx0 {e:Ex} (h:Kk e 2=true): ∃x y,e.l= [x,y]/\Bu x=true:=by
 rw[Kk,jF,decide_eq_true_eq] at h;obtain⟨x,y,hx⟩:=Ek4 h.1;rw[hx] at h;exact⟨x,y,hx,h.2⟩
section
variable {e:Ex}
theorem ff1 (h:e.kind=1) (hf:Bg e=true):e.l= []/\e.oper=0/\e.s= []/\e.a= []:=by
 have:Bg e=(e.l.isEmpty&&decide (0<=e.n)&&decide (e.n<=2147483647)&&zO e&&zS e&&zA e):=by unfold Bg;rw[h];rfl
 rw[this] at hf;simp only[jF,zO,zS,zA,decide_eq_true_eq,List.isEmpty_iff] at hf;exact⟨hf.1.1.1.1.1,hf.1.1.2,hf.1.2,hf.2⟩
theorem ff2 (h:e.kind=2) (hf:Bg e=true):e.l= []/\e.oper=0/\e.n=0/\e.s= []/\e.a= []:=by
 have:Bg e=(e.l.isEmpty&&zO e&&zN e&&zS e&&zA e):=by unfold Bg;rw[h];rfl
 rw[this] at hf;simp only[jF,zO,zN,zS,zA,decide_eq_true_eq,List.isEmpty_iff] at hf;exact⟨hf.1.1.1.1,hf.1.1.1.2,hf.1.1.2,hf.1.2,hf.2⟩
theorem ff3 (h:e.kind=3) (hf:Bg e=true):e.l= []/\e.oper=0/\e.n=0/\e.a= []:=by
 have:Bg e=(e.l.isEmpty&&Nv e.s&&zO e&&zN e&&zA e):=by unfold Bg;rw[h];rfl
 rw[this] at hf;simp only[jF,zO,zN,zA,decide_eq_true_eq,List.isEmpty_iff] at hf;exact⟨hf.1.1.1.1,hf.1.1.2,hf.1.2,hf.2⟩
theorem Dl8 (h:e.kind=4\/e.kind=6) (hf:Bg e=true):(∃x,e.l= [x]/\Bu x=true)/\e.oper=0/\e.n=0/\e.a= []:=by
 have:Bg e=(Kk e 1&&Nv e.s&&zO e&&zN e&&zA e):=by rcases h with h | h<;>(unfold Bg;rw[h];rfl)
 rw[this] at hf;simp only[jF,zO,zN,zA,decide_eq_true_eq,List.isEmpty_iff] at hf;exact⟨Cj8 hf.1.1.1.1,hf.1.1.2,hf.1.2,hf.2⟩
theorem ff5 (h:e.kind=5) (hf:Bg e=true):(∃x,e.l= [x]/\Bu x=true)/\e.oper=0/\e.n=0/\e.s= []/\e.a= []:=by
 have:Bg e=(Kk e 1&&zO e&&zN e&&zS e&&zA e):=by unfold Bg;rw[h];rfl
 rw[this] at hf;simp only[jF,zO,zN,zS,zA,decide_eq_true_eq,List.isEmpty_iff] at hf;exact⟨Cj8 hf.1.1.1.1,hf.1.1.1.2,hf.1.1.2,hf.1.2,hf.2⟩
theorem ff7 (h:e.kind=7) (hf:Bg e=true):(∃x,e.l= [x]/\Bu x=true)/\Of e.a=true/\e.oper=0/\e.n=0/\e.s= []:=by
 have:Bg e=(Kk e 1&&Of e.a&&zO e&&zN e&&zS e):=by unfold Bg;rw[h];rfl
 rw[this] at hf;simp only[jF,zO,zN,zS,decide_eq_true_eq] at hf;exact⟨Cj8 hf.1.1.1.1,hf.1.1.1.2,hf.1.1.2,hf.1.2,hf.2⟩
theorem ff8 (h:e.kind=8) (hf:Bg e=true):(∃x y,e.l= [x,y]/\Bu x=true)/\e.oper=0/\e.n=0/\e.s= []/\e.a= []:=by
 have:Bg e=(Kk e 2&&zO e&&zN e&&zS e&&zA e):=by unfold Bg;rw[h];rfl
 rw[this] at hf;simp only[jF,zO,zN,zS,zA,decide_eq_true_eq,List.isEmpty_iff] at hf;exact⟨Fx0 hf.1.1.1.1,hf.1.1.1.2,hf.1.1.2,hf.1.2,hf.2⟩
theorem ff9 (h:e.kind=9) (hf:Bg e=true):e.l= []/\Ji e.a=true/\e.oper=0/\e.n=0/\e.s= []:=by
 have:Bg e=(e.l.isEmpty&&Ji e.a&&zO e&&zN e&&zS e):=by unfold Bg;rw[h];rfl
 rw[this] at hf;simp only[jF,zO,zN,zS,decide_eq_true_eq,List.isEmpty_iff] at hf;exact⟨hf.1.1.1.1,hf.1.1.1.2,hf.1.1.2,hf.1.2,hf.2⟩
theorem Gl9 (h:e.kind=10) (hf:Bg e=true):(∃x y z,e.l= [x,y,z])/\e.oper=0/\e.n=0/\e.s= []/\e.a= []:=by
 have:Bg e=(decide (e.l.length=3)&&zO e&&zN e&&zS e&&zA e):=by unfold Bg;rw[h];rfl
 rw[this] at hf;simp only[jF,zO,zN,zS,zA,decide_eq_true_eq,List.isEmpty_iff] at hf;exact⟨Gu4 hf.1.1.1.1,hf.1.1.1.2,hf.1.1.2,hf.1.2,hf.2⟩
theorem Gm0 (h:e.kind=11) (hf:Bg e=true):(∃x,e.l= [x])/\(∃o:Nat,e.oper=o/\(o=18\/o=19\/o=20\/o=21))/\e.n=0/\e.s= []/\e.a= []:=by
 have:Bg e=(decide (e.l.length=1)&&decide (18<=e.oper)&&decide (e.oper<=21)&&zN e&&zS e&&zA e):=by unfold Bg;rw[h];rfl
 rw[this] at hf;simp only[jF,zN,zS,zA,decide_eq_true_eq,List.isEmpty_iff] at hf;exact⟨Fe3 hf.1.1.1.1.1,⟨e.oper.toNat,by omega,by omega⟩,hf.1.1.2,hf.1.2,hf.2⟩
theorem Gm1 (h:e.kind=12) (hf:Bg e=true):(∃x y,e.l= [x,y])/\(∃o:Nat,e.oper=o/\1<=o/\o<=17)/\e.n=0/\e.s= []/\e.a= []:=by
 have:Bg e=(decide (e.l.length=2)&&decide (1<=e.oper)&&decide (e.oper<=17)&&zN e&&zS e&&zA e):=by unfold Bg;rw[h];rfl
 rw[this] at hf;simp only[jF,zN,zS,zA,decide_eq_true_eq,List.isEmpty_iff] at hf;exact⟨Ek4 hf.1.1.1.1.1,⟨e.oper.toNat,by omega,by omega,by omega⟩,hf.1.1.2,hf.1.2,hf.2⟩
theorem Fe4 (h:e.kind=13\/e.kind=14) (hf:Bg e=true):((∃x y z,e.l= [x,y,z])\/ ∃x y,e.l= [x,y]/\Bu y=true)/\e.oper=0/\e.n=0/\e.s= []/\e.a= []:=by
 have:Bg e=((decide (e.l.length=3) || decide (e.l.length=2)&&Bu (e.l.getD 1 ex0))&&zO e&&zN e&&zS e&&zA e):=by rcases h with h | h<;>(unfold Bg;rw[h];rfl)
 rw[this] at hf;simp only[jF,Bool.or_eq_true,zO,zN,zS,zA,decide_eq_true_eq,List.isEmpty_iff] at hf;refine⟨?_,hf.1.1.1.2,hf.1.1.2,hf.1.2,hf.2⟩;rcases hf.1.1.1.1 with h3 | h2
 ·exact .inl (Gu4 h3)
 ·obtain⟨x,y,hx⟩:=Ek4 h2.1;rw[hx] at h2;exact .inr ⟨x,y,hx,h2.2⟩
theorem Uf (h:3<=e.kind/\e.kind<=8):Bu e=true:=by rw[Bu,decide_eq_true h.1,decide_eq_true h.2];rfl
theorem Ug (h:e.kind<3\/8<e.kind):Bu e=true->False:=fun c=>by
 rw[Bu,jF,decide_eq_true_eq,decide_eq_true_eq] at c;omega
end
theorem Ag1 (s:List UInt8): ∀(x:List Tok) (xs:List (List Tok)),Dm s (x::xs)=x++xs.flatMap fun t=>Ah s::t
 | x,[]=>by simp [Dm]
 | x,y::ys=>by rw[Tf s x _ (by simp),Ag1 s y ys,List.flatMap_cons];simp
section
variable {l:List Tok} {k k':Nat} {s:List UInt8} {p:PS} [hr:Rdr l p]
theorem Dv9 {α β:Type} {f:Nat->Res α} {fL:List α->Nat->Res (List α)} {sep:List UInt8} {W:List (List UInt8)} {g:β->List Tok} {st:β->α}
  (E: ∀az k,k<=l.length->fL az k=if isW l k [sep] then(f (k+1)).then fun a k=>fL (az++ [a]) k else .ok az k) (I:nof W (Ah sep)):
  ∀(D:List β) (C:List α) (k:Nat),(∀b∈D,∀k,At l k (g b)->nof W (tk l (k+(g b).length))->f k= .ok (st b) (k+(g b).length))->At l k (D.flatMap fun b=>Ah sep::g b)->
   nof W (tk l (k+(D.flatMap fun b=>Ah sep::g b).length))->isW l (k+(D.flatMap fun b=>Ah sep::g b).length) [sep]=false->fL C k= .ok (C++D.map st) (k+(D.flatMap fun b=>Ah sep::g b).length)
 | [],C,k,_,ha,_,hn=>by
  rw[List.flatMap_nil,jB,Nat.add_zero] at hn⊢
  rw[E C k ha.1,hn,jP,jH];rfl
 | b::r,C,k,he,ha,hw,hn=>by
  rw[List.flatMap_cons] at ha hw hn⊢
  have e1:k+(Ah sep::g b++r.flatMap fun b=>Ah sep::g b).length=k+1+(g b).length+(r.flatMap fun b=>Ah sep::g b).length:=by
   rw[jC,jA];omega
  rw[e1] at hw hn⊢
  have h1:At l (k+1) (g b++r.flatMap fun b=>Ah sep::g b):=At.tail ha;have h2:=h1.right;have hf:nof W (tk l (k+1+(g b).length)):=by
   cases r with
   | nil=>simpa using hw
   | cons c r'=>
    rw[List.flatMap_cons] at h2;rw[(At.head h2).1];exact I
  rw[E C k ha.1,if_pos (At.word ha),he b (by simp) _ h1.left hf];show fL (C++ [st b]) _=_;rw[Dv9 E I r (C++ [st b]) _ (fun c hc=>he c (by simp [hc])) h2 hw hn];simp
theorem Ar7 {α β:Type} {f:Nat->Res α} {fL:List α->Nat->Res (List α)} {sep:List UInt8} {W:List (List UInt8)} {g:β->List Tok} {st:β->α}
  (E: ∀az k,k<=l.length->fL az k=if isW l k [sep] then(f (k+1)).then fun a k=>fL (az++ [a]) k else .ok az k) (D:nof W (Ah sep))
  {b:β} {r:List β} (he: ∀c∈b::r,∀k,At l k (g c)->nof W (tk l (k+(g c).length))->f k= .ok (st c) (k+(g c).length)) (ha:At l k (Dm sep ((b::r).map g)))
  (C:k'=k+(Dm sep ((b::r).map g)).length) (hw:nof W (tk l k')) (I:isW l k' [sep]=false):
  ∃j,f k= .ok (st b) j/\fL [st b] j= .ok ((b::r).map st) k'/\j<=l.length/\(r≠ []->isW l j [sep]=true)/\(r= []->j=k'):=by
 have e1:Dm sep ((b::r).map g)=g b++r.flatMap fun c=>Ah sep::g c:=by
  rw[jN,Ag1,Yi]
 rw[e1] at ha C;rw[jC,<-Nat.add_assoc] at C;have h2:=ha.right;have hf:nof W (tk l (k+(g b).length)):=by
  cases r with
  | nil=>rw[List.flatMap_nil,jB,Nat.add_zero] at C;rw[<-C];exact hw
  | cons c r'=>
   rw[List.flatMap_cons] at h2;rw[(At.head h2).1];exact D
 refine⟨_,he b (by simp) k ha.left hf, ?_,h2.1,fun hr=> ?_,fun hr=> ?_⟩
 ·subst C;rw[Dv9 E D r [st b] _ (fun c hc=>he c (by simp [hc])) h2 hw I];rfl
 ·cases r with
  | nil=>exact absurd rfl hr
  | cons c r'=>
   rw[List.flatMap_cons] at h2;exact At.word h2
 ·subst hr;rw[C,List.flatMap_nil,jB,Nat.add_zero]
def wA:List (List UInt8):=w0++ [By,Gg]
theorem Br5 {x:Ex} (h:x.kind=3) (hf:Bg x=true):stE x= .mk 3 0 0 x.s [] [] 0 0 0:=by
 obtain⟨a,b,c,d⟩:=ff3 h hf;rw[Ff,h,a,b,c,d];rfl
theorem Gm2 (hz: ∀k,(tk l k).line=0) {a:As} (ha:(a.c.isEmpty || Et a.c)=true) (hp: ∀x∈Fc a,Bg x=true/\RT l p x) (h:At l k (Es a)) (C:nof wA (tk l (k+(Es a).length))):
  p.arg k= .ok (stA a) (k+(Es a).length):=by
 obtain⟨M,D⟩:=hp a.e (Pj a)
 rw[Al3]
 by_cases E:a.c= []
 ·rw[Jl,E,List.isEmpty_nil,if_pos rfl] at h C⊢
  exact Fe1 h.1 ((D _ h).full (Gb C (by decide))) (He C (by decide) [])
 ·obtain⟨c,hc⟩: ∃c,a.c= [c]/\c.kind=1/\ ∃x,c.l= [x]/\x.kind=3:=by
   match hcc:a.c,E with
   | [c],_=>
    rw[hcc] at ha
    simp only[Et,List.isEmpty_cons,Bool.false_or,jF,decide_eq_true_eq] at ha
    refine⟨c,rfl,ha.1, ?_⟩
    match hl:c.l with
    | [x]=>rw[hl] at ha;exact⟨x,rfl,by simpa using ha.2⟩
    | []=>rw[hl] at ha;cases ha.2
    | _::_::_=>rw[hl] at ha;cases ha.2
   | c::d::r,_=>rw[hcc] at ha;simp [Et] at ha
  obtain⟨hc,I,x,hx,J⟩:=hc
  have L:=hp x (Sp (c:=c) (by rw[hc];simp) (by rw[hx];simp))
  have ht:Es a=Dw x.s::Ah By::Ai a.e:=by
   rw[Jl,hc]
   show Cs c++_=_
   rw[Jm,if_pos I,hx,List.map_singleton]
   show Ai x++_=_
   rw[Bo9 J];rfl
  rw[ht] at h C⊢
  have h1:At l (k+1) (Ah By::Ai a.e):=At.tail h
  have h2:At l (k+2) (Ai a.e):=At.tail h1
  have e1:k+(Dw x.s::Ah By::Ai a.e).length=k+2+(Ai a.e).length:=by simp only[jA];omega
  rw[e1] at C⊢
  rw[Gd9 h.1,h.head.1,if_pos ⟨rfl,At.word h1⟩,(D _ h2).full (Gb C (by decide))]
  show Res.ok _ _=_
  rw[hc,List.map_singleton,Bq2,I,hx,List.map_singleton,Br5 J L.1];rfl
theorem Cc2 {n:Nat} {c:Ch} (C:Fs n c=true) (hp: ∀x∈c.l,RT l p x) (h:At l k (Cs c)) (D:nof w0 (tk l (k+(Cs c).length))):p.choice k= .ok (stC c) (k+(Cs c).length):=by
 rw[Bq2];unfold Fs at C;by_cases E:c.kind=1
 ·rw[if_pos E,decide_eq_true_eq] at C;obtain⟨x,hx⟩:=Fe3 C;have ht:Cs c=Ai x:=by rw[Jm,if_pos E,hx];rfl
  rw[ht] at h D⊢
  rw[Bd5 h.1 ((hp x (by rw[hx];simp) _ h).full D) (He D (by decide) []),E,hx];rfl
 ·rw[if_neg E] at C;by_cases I:c.kind=2
  ·rw[if_pos I,decide_eq_true_eq] at C;obtain⟨x,y,hx⟩:=Ek4 C;have ht:Cs c=Ar x 2++Ah Ef::Ar y 2:=by rw[Jm,if_neg E,if_pos I,hx];rfl
   rw[ht] at h D⊢
   have h1:=h.right;have h2:At l (k+(Ar x 2).length+1) (Ar y 2):=At.tail h1;have e1:k+(Ar x 2++Ah Ef::Ar y 2).length=k+(Ar x 2).length+1+(Ar y 2).length:=by rw[jC,jA];omega
   rw[e1] at D⊢
   have s1:=Ac7 (hp x (by rw[hx];simp)) h.left rfl (by rw[h1.head.1];decide+kernel);have s2:=Ac7 (hp y (by rw[hx];simp)) h2 rfl (Gb D (by decide));rw[Ar5 h.1,Az9 s1 (s:=Lt) (by decide),s1];show(if isW l _ [Ef] then _ else _)=_;rw[if_pos (At.word h1),s2,I,hx];rfl
  ·rw[if_neg I] at C;simp only[jF,decide_eq_true_eq] at C;have ht:Cs c= [Ah Lt]:=by rw[Jm,if_neg E,if_neg I]
   rw[ht] at h D⊢
   rw[Ar5 h.1,if_pos (At.word h),C.1.1,List.length_eq_zero_iff.1 C.1.2];rfl
theorem Fe5 {a:As} (ha:(a.c.isEmpty || Dr a.c)=true) (hp: ∀x∈Fc a,RT l p x) (h:At l k (Es a)) (C:nof wA (tk l (k+(Es a).length))):
  p.assoc k= .ok (stA a) (k+(Es a).length):=by
 have he:=hp a.e (Pj a);rw[Al3];cases hc:a.c with
 | nil=>
  rw[Jl,hc,List.isEmpty_nil,if_pos rfl] at h C⊢
  exact Br3 h.1 ((he _ h).full (Gb C (by decide))) (He C (by decide) []) (He C (by decide) []) (He C (by decide) [])
 | cons c r=>
  rw[hc] at ha;simp only[List.isEmpty_cons,Bool.false_or,Dr,jF,decide_eq_true_eq,List.all_eq_true] at ha;have ht:Es a=Dm Gg ((c::r).map Cs)++Ah By::Ai a.e:=by rw[Jl,hc,List.isEmpty_cons,if_neg (by simp)]
  rw[ht] at h C⊢
  have h1:=h.right;have h2:At l (k+(Dm Gg ((c::r).map Cs)).length+1) (Ai a.e):=At.tail h1;have e1:k+(Dm Gg ((c::r).map Cs)++Ah By::Ai a.e).length=k+(Dm Gg ((c::r).map Cs)).length+1+(Ai a.e).length:=by rw[jC,jA];omega
  rw[e1] at C⊢
  have D:=(he _ h2).full (Gb C (by decide));have hw:=At.word h1;obtain⟨j,O,S,Y,U,E⟩:=Ar7 (l:=l) (f:=p.choice) (fL:=p.choicesL) (sep:=Gg) (W:=w0) (g:=Cs) (st:=stC) (fun az k hk=>Br1 az hk) (by decide+kernel) (b:=c) (r:=r)
   (fun d hd k V X=>Cc2 (ha.2 d hd) (fun x hx=>hp x (Sp (c:=d) (by rw[hc];exact hd) hx)) V X) h.left rfl (by rw[h1.head.1];decide+kernel) (Gk hw (by decide))
  rw[Cj6 h.1,O];show(if _ then _ else _)=_;rw[if_neg,Ar3]
  ·by_cases I:c.kind=3
   ·have J:r= []:=by
     have:=ha.2 c (by simp);unfold Fs at this;rw[if_neg (by omega),if_neg (by omega)] at this;simp only[jF,decide_eq_true_eq,jA] at this;exact List.length_eq_zero_iff.1 (by omega)
    rw[if_pos I,E J,must,if_pos hw,D,J];rfl
   ·rw[if_neg I,S];show must l By _ (fun k=>(p.expr k).then fun e k=>Res.ok (As.mk ((c::r).map stC) e) k)=_;rw[must,if_pos hw,D];rfl
  ·rintro⟨_,L,M⟩;cases r with
   | nil=>rw[E rfl,hw] at M;cases M
   | cons d r'=>rw[U (by simp)] at L;cases L
end
theorem Ek5 {az:List As} (h:Vk az=false) (li:Int):Bm8 li az= .mk 9 0 0 [] [] az li 0 0:=by
 match az,h with
 | [],_=>rfl
 | [x],h=>
  show(if x.c= [] then x.e else _)=_
  rw[if_neg]
  intro c
  simp [Vk,c] at h
 | _::_::_,_=>rfl
theorem Sr: ∀ {l:List As},Hy l=true-> ∀a∈l,(a.c.isEmpty || Dr a.c)=true
 | [],_,a,h=>by cases h
 | b::r,h,a,hm=>by
  rw[Hy,jF] at h;rcases List.mem_cons.1 hm with rfl | hm
  ·have:=h.1;rw[Bool.or_eq_true] at this⊢
   rcases this with h1 | h1
   ·exact .inl h1
   ·rw[jF] at h1;exact .inr h1.1
  ·exact Sr h.2 a hm
theorem Ba2 {α β:Type} (x:α) (k:Nat) (f:α->Nat->Res β):(Res.ok x k).then f=f x k:=rfl
theorem Ar8 {l:List Tok} {α:Type} {s:List UInt8} {k:Nat} {f:Nat->Res α} (h:isW l k [s]=true):must l s k f=f (k+1):=by rw[must,if_pos h]
section
variable {l:List Tok} {k k':Nat} {s:List UInt8} {p:PS} [hr:Rdr l p] {e:Ex}
variable (hz: ∀k,(tk l k).line=0) (hf:Bg e=true) (ih: ∀x∈parts e,RT l p x)
include hf hz
theorem rt1 (h:e.kind=1):RT l p e:=by
 obtain⟨a,b,c,d⟩:=ff1 h hf;intro k C;rw[Fc1 h] at C⊢
 refine .of5 ⟨C.1,C.le⟩ (lv5 (by omega)) (fun c=>(Ug (by omega) c).elim) (fun c=>by rw[h] at c;cases c) fun _=> ?_;have ht:=C.head.1;rw[Wy C.1,ht,if_pos (show(Cw2 e.n).kind=3 from rfl),Ff,h,a,b,c,d];rfl
theorem rt2 (h:e.kind=2):RT l p e:=by
 obtain⟨a,b,c,d,D⟩:=ff2 h hf;intro k C;rw[Fc2 h] at C⊢
 refine .of5 ⟨C.1,C.le⟩ (lv5 (by omega)) (fun c=>(Ug (by omega) c).elim) (fun c=>by rw[h] at c;cases c) fun _=> ?_;have hw:=At.word C;rw[Wy C.1,if_neg (Kn hw).2.1,if_pos hw,hz,Ff,h,a,b,c,d,D];rfl
theorem rt3 (h:e.kind=3):RT l p e:=by
 intro k C;rw[Bo9 h] at C⊢
 refine .ofName ⟨C.1,C.le⟩ (Uf (by omega)) ?_;have ht:=C.head.1;rw[Cj7 C.1,Ka,if_pos (by rw[ht];rfl),hz,ht,Br5 h hf];rfl
include ih
theorem rt4 (h:e.kind=4):RT l p e:=by
 obtain⟨⟨x,hx,hn⟩,b,c,d⟩:=Dl8 (.inl h) hf;have ht:Ai e=Ai x++ [Ah Jj,Dw e.s]:=by rw[Cb4 h];unfold tE;rw[hx];rfl
 intro k C;rw[ht] at C⊢
 have r:=ih x (Bh (by rw[hx];simp)) k C.left;have h1:=C.right;have h2:At l (k+(Ai x).length+1) [Dw e.s]:=At.tail h1;have h3:=h2.head.1;have w1:isW l (k+(Ai x).length) [Jj]=true:=At.word h1;have D:isW l (k+(Ai x).length+1) [Zo]=false:=He (ws:= [Zo]) (by rw[h3];exact Wx (.inl rfl)) (by simp) [];refine .ofName ⟨C.1,C.le⟩ (Uf (by omega)) ?_;rw[r.name hn,Af9 _ _ r.le.2,Fc3 (s:=Jj) (t:=Zo),D,Bool.and_false,if_neg (by simp),if_pos w1,Ka,if_pos (by rw[h3];rfl),h3,Ff e,h,hx,b,c,d,jC];rfl
theorem rt5 (h:e.kind=5):RT l p e:=by
 obtain⟨⟨x,hx,hn⟩,b,c,d,D⟩:=ff5 h hf;have ht:Ai e=Ai x++ [Ah Jj,Ah Zo]:=by rw[Du7 h];unfold tE;rw[hx];rfl
 intro k C;rw[ht] at C⊢
 have r:=ih x (Bh (by rw[hx];simp)) k C.left;have w1:isW l (k+(Ai x).length) [Jj,Zo]=true:=At.words (ws:= [Jj,Zo]) (ts:= []) C.right;refine .ofName ⟨C.1,C.le⟩ (Uf (by omega)) ?_;rw[r.name hn,Af9 _ _ r.le.2,if_pos w1,Ff e,h,hx,b,c,d,D,jC];rfl
theorem rt6 (h:e.kind=6):RT l p e:=by
 obtain⟨⟨x,hx,hn⟩,b,c,d⟩:=Dl8 (.inr h) hf;have ht:Ai e=Ai x++ [Ah Hz,Dw e.s]:=by rw[Du8 h];unfold tE;rw[hx];rfl
 intro k C;rw[ht] at C⊢
 have r:=ih x (Bh (by rw[hx];simp)) k C.left;have h1:=C.right;have h2:At l (k+(Ai x).length+1) [Dw e.s]:=At.tail h1;have h3:=h2.head.1;have w1:isW l (k+(Ai x).length) [Hz]=true:=At.word h1;have w2:isW l (k+(Ai x).length) [Jj]=false:=Gk w1 (by decide);have D:isW l (k+(Ai x).length+1) [Bf]=false:=He (ws:= [Bf]) (by rw[h3];exact Wx (.inl rfl)) (by simp) [];refine .ofName ⟨C.1,C.le⟩ (Uf (by omega)) ?_;rw[r.name hn,Af9 _ _ r.le.2,Gw w2,w2,Gk w1 (t:=Bf) (by decide),Fc3 (s:=Hz) (t:=Bf),D,Bool.and_false,if_neg (by simp),if_neg (by simp),if_neg (by simp),if_neg (by simp),if_pos w1,Ka,if_pos (by rw[h3];rfl),h3,Ff e,h,hx,b,c,d,jC];rfl
theorem rt7 (hv: ∀x∈parts e,Bg x=true) (h:e.kind=7):RT l p e:=by
 obtain⟨⟨x,hx,hn⟩,ha,b,c,d⟩:=ff7 h hf;have ht:Ai e=Ai x++Ah Bf::(taE e++ [Ah Bv]):=by rw[Du9 h];unfold tE;rw[hx];rfl
 intro k C;rw[ht] at C⊢
 have r:=ih x (Bh (by rw[hx];simp)) k C.left;have h1:=C.right;have h2:At l (k+(Ai x).length+1) (taE e++ [Ah Bv]):=At.tail h1;have h3:=h2.right;have w1:isW l (k+(Ai x).length) [Bf]=true:=At.word h1;have w2:isW l (k+(Ai x).length) [Jj]=false:=Gk w1 (by decide);have w3:=At.word h3;rw[Of,jF,jF,jF,decide_eq_true_eq,decide_eq_true_eq,List.all_eq_true] at ha;refine .ofName ⟨C.1,C.le⟩ (Uf (by omega)) ?_;cases hea:e.a with
 | nil=>rw[hea] at ha;simp at ha
 | cons a az=>
  have D:taE e=Dm Ee ((a::az).map Es):=by rw[taE,hea]
  obtain⟨j,I,J,M,O,S⟩:=Ar7 (l:=l) (f:=p.arg) (fL:=p.argsL) (sep:=Ee) (W:=wA) (g:=Es) (st:=stA) (fun az k hk=>Fw7 az hk) (by decide+kernel) (b:=a) (r:=az)
   (fun c hc k C L=>Gm2 hz (ha.2 c (by rw[hea];exact hc)) (fun y E=>⟨hv y (Md (by rw[hea];exact hc) E),ih y (Md (by rw[hea];exact hc) E)⟩) C L) (by rw[<-D];exact h2.left) rfl (by rw[<-D,h3.head.1];decide+kernel) (by rw[<-D];exact Gk w3 (by decide))
  rw[r.name hn,Af9 _ _ r.le.2,Gw w2,w2,if_neg (by simp),if_neg (by simp),if_pos w1,I];show(p.argsL [stA a] j).then _=_
  rw[J];show must l Bv _ (fun k=>p.nameL 0 (.mk 7 0 0 [] [stE x] ((a::az).map stA) 0 0 0) k)=_;rw[must,<-D,if_pos w3,Ff e,h,hx,b,c,d,hea,jC,jA,jC];congr 1;simp only[jA,jB];omega
theorem rt8 (h:e.kind=8):RT l p e:=by
 obtain⟨⟨x,y,hx,hn⟩,b,c,d,E⟩:=ff8 h hf;have ht:Ai e=Ai x++Ah Hz::Wb (!Nd y.kind) (Ai y):=by rw[Dv0 h];unfold tE;rw[hx];rfl
 intro k C;rw[ht] at C⊢
 have r:=ih x (Bh (by rw[hx];simp)) k C.left;have D:=ih y (Bh (by rw[hx];simp));have h1:=C.right;have h2:At l (k+(Ai x).length+1) (Wb (!Nd y.kind) (Ai y)):=At.tail h1;have w1:isW l (k+(Ai x).length) [Hz]=true:=At.word h1;have w2:isW l (k+(Ai x).length) [Jj]=false:=Gk w1 (by decide);have key:isW l (k+(Ai x).length+1) [Bf]=true/\p.paren (k+(Ai x).length+1)= .ok (stE y) (k+(Ai x).length+1+(Wb (!Nd y.kind) (Ai y)).length):=by
  cases hb:Nd y.kind with
  | true=>
   rw[hb] at h2;have h2:At l (k+(Ai x).length+1) (Ai y):=h2;have hpr:=(D _ h2).bare hb;refine⟨?_,hpr⟩;have I:y.kind=9\/y.kind=10:=by simpa [Nd] using hb
   rcases I with h9 | h9
   ·rw[Cw4 h9] at h2;exact At.word h2
   ·rw[Bp0 h9] at h2;exact At.word h2
  | false=>
   rw[hb] at h2;have h2:At l (k+(Ai x).length+1) (Ah Bf::(Ai y++ [Ah Bv])):=h2;have h3:At l (k+(Ai x).length+1+1) (Ai y++ [Ah Bv]):=At.tail h2;have h4:=h3.right;refine⟨At.word h2, ?_⟩;rw[Br4 (At.word h2) ((D _ h3.left).full (by rw[h4.head.1];decide+kernel)) (At.word h4)];show _=Res.ok _ (_+(Ah Bf::(Ai y++ [Ah Bv])).length);congr 1;simp only[jA,jC,jB];omega
 refine .ofName ⟨C.1,C.le⟩ (Uf (by omega)) ?_;rw[r.name hn,Af9 _ _ r.le.2,Gw w2,w2,Gk w1 (t:=Bf) (by decide),Fc3,w1,key.1,if_neg (by simp),if_neg (by simp),if_neg (by simp),if_pos (by rfl),key.2];show p.nameL 0 _ _=_;rw[Ff e,h,hx,b,c,d,E,jC,jA];congr 1;omega
theorem rt9 (h:e.kind=9):RT l p e:=by
 obtain⟨hl,ha,b,c,d⟩:=ff9 h hf;intro k C;rw[Cw4 h] at C⊢
 have h2:At l (k+1) (taE e++ [Ah Bv]):=At.tail C;have h3:=h2.right;have w3:=At.word h3;have E:=At.word C;rw[Ji] at ha;simp only[jF,decide_eq_true_eq,Bool.not_eq_true'] at ha;have I:p.paren k= .ok (stE e) (k+(Ah Bf::(taE e++ [Ah Bv])).length):=by
  cases hea:e.a with
  | nil=>rw[hea] at ha;simp at ha
  | cons a az=>
   have D:taE e=Dm Ee ((a::az).map Es):=by rw[taE,hea]
   obtain⟨j,J,L,S,U,V⟩:=Ar7 (l:=l) (f:=p.assoc) (fL:=p.assocsL) (sep:=Ee) (W:=wA) (g:=Es) (st:=stA) (fun az k hk=>Cc0 az hk) (by decide+kernel) (b:=a) (r:=az)
    (fun c hc k C M=>Fe5 (Sr ha.2 c (by rw[hea];exact hc)) (fun y O=>ih y (Md (by rw[hea];exact hc) O)) C M) (by rw[<-D];exact h2.left) rfl (by rw[<-D,h3.head.1];decide+kernel) (by rw[<-D];exact Gk w3 (by decide))
   rw[Ar6 E J L (by rw[<-D];exact w3),hz,Ek5 (by rw[Bq7,<-hea];exact ha.1.2),Ff e,h,hl,b,c,d,hea,<-D];congr 1;simp only[jA,jC,jB];omega
 exact .of5 ⟨C.1,C.le⟩ (lv5 (by omega)) (fun c=>(Ug (by omega) c).elim) (fun _=>I) fun _=>by rw[Al5 E,I]
theorem Gy3 (h:e.kind=10):RT l p e:=by
 obtain⟨⟨x,y,z,hx⟩,b,c,d,I⟩:=Gl9 h hf;have ht:Ai e=Ah Bf::Ah wIf::(Ai x++Ah Pk::(Ai y++Ah Qc::(Ai z++ [Ah Bv]))):=by rw[Bp0 h];unfold tE;rw[hx];rfl
 intro k C;rw[ht] at C⊢
 have D:=At.word C;have h1:At l (k+1) (Ah wIf::_):=At.tail C;have h2:=At.tail h1;have h3:=h2.right;have h4:=(At.tail h3);have h5:=h4.right;have h6:=(At.tail h5);have h7:=h6.right;have J:=(ih x (Bh (by rw[hx];simp)) _ h2.left).full (by rw[h3.head.1];decide+kernel);have L:=(ih y (Bh (by rw[hx];simp)) _ h4.left).full (by rw[h5.head.1];decide+kernel);have M:=(ih z (Bh (by rw[hx];simp)) _ h6.left).full (by rw[h7.head.1];decide+kernel);have E:p.paren k= .ok (stE e) (k+(Ah Bf::Ah wIf::(Ai x++Ah Pk::(Ai y++Ah Qc::(Ai z++ [Ah Bv])))).length):=by
  rw[Dv8 C.1,Ar8 D,if_pos (At.word h1),J];simp only[Ba2,Ar8 (At.word h3),L,Ar8 (At.word h5),M,Ar8 (At.word h7)];rw[hz,Ff e,h,hx,b,c,d,I];congr 1;simp only[jA,jC,jB];omega
 exact .of5 ⟨C.1,C.le⟩ (lv5 (by omega)) (fun c=>(Ug (by omega) c).elim) (fun _=>E) fun _=>by rw[Al5 D,E]
theorem Gy4 (h:e.kind=11):RT l p e:=by
 obtain⟨⟨x,hx⟩,⟨o,ho,O⟩,b,c,d⟩:=Gm0 h hf;have ht:Ai e=(Ay o).map Ah++Ar x (Jx e):=by rw[Dl0 h,ho,jD];unfold pE tE;rw[hx];rfl
 have J:Aq e=if o=18\/o=19 then 2 else 4:=by
  unfold Aq;rw[h,ho,if_neg (by decide),if_pos rfl];rcases O with rfl | rfl | rfl | rfl<;>rfl
 have L:=ih x (Bh (by rw[hx];simp));intro k C;rw[ht] at C⊢
 have h1:=C.right;rw[jK] at h1;have hst: ∀li,li=0->Nw o li (stE x)=stE e:=fun li S=>by
  rw[Nw,if_neg (by omega),Ff e,h,ho,hx,b,c,d,S];rfl
 have e1:k+((Ay o).map Ah++Ar x (Jx e)).length=k+(Ay o).length+(Ar x (Jx e)).length:=by rw[jC,jK];omega
 by_cases M:o=18\/o=19
 ·have D:Aq e=2:=by rw[J,if_pos M]
  have E:Jx e=3:=by rw[Jx,if_pos D]
  rw[E] at C h1 e1⊢
  rw[e1];obtain⟨I,q2⟩:=Cx6 (want:=0) (.inr (.inl ⟨by simp [Fq];omega,rfl⟩)) C (.inl rfl);refine .of2 ⟨C.1,by have:=h1.le;exact this⟩ D fun hn=> ?_;rw[Bq9 C.1,I];show(p.term (k+(Ay o).length)).then _=_
  rw[Fe2 L h1 rfl (s53 hn),Ag0 h1.le hn];show p.addL (Nw o _ (stE x)) _=_;rw[hst _ (hz k)]
 ·have D:Aq e=4:=by rw[J,if_neg M]
  have E:Jx e=5:=by rw[Jx,if_neg (by omega)]
  rw[E] at C h1 e1⊢
  rw[e1];obtain⟨I,q2⟩:=Cx6 (want:=0) (.inr (.inr (.inr (.inr ⟨by simp [It];omega,rfl⟩)))) C (.inl rfl);refine .of4 ⟨C.1,by have:=h1.le;exact this⟩ D fun hn=> ?_;rw[Br0 C.1,I];show(p.primary (k+(Ay o).length)).then _=_
  rw[Gu2 L h1 rfl hn];show Res.ok (Nw o _ (stE x)) _=_;rw[hst _ (hz k)]
end
def hdW (o:Nat):List UInt8:=(Ay o).headD []
theorem Gm3: ∀o,o<18->1<=o->Ay o=hdW o::(Ay o).tail:=by decide+kernel
theorem Fx1: ∀o,o<18->1<=o->(o<3->nof w3 (Ah (hdW o)))/\(o<7->nof w5 (Ah (hdW o)))/\(7<=o->o<13->nof w2 (Ah (hdW o)))/\(13<=o->nof w1 (Ah (hdW o))):=by decide+kernel
section
variable {l:List Tok} {k k':Nat} {s:List UInt8} {p:PS} [hr:Rdr l p] {e:Ex}
theorem Fx2 {o:Nat} {ts:List Tok} (h1:1<=o) (h2:o<=17) (h:At l k ((Ay o).map Ah++ts)):tk l k=Ah (hdW o):=by
 rw[Gm3 o (by omega) h1] at h;exact(At.head h).1
theorem Ek6 {o:Nat} {x y:Ex} (h1:13<=o) (h2:o<=17) (D:RT l p y) (h:At l k ((Ay o).map Ah++Ar y 1)) (E:k'=k+(Ay o).length+(Ar y 1).length) (I:nof w1 (tk l k')) (want:Nat) (hw:want=0\/want=o):
  (opF l want k Em)=(o,k+(Ay o).length)/\p.restL o x k=p.restL o (both o x (stE y)) k':=by
 have h3:=h.right;rw[jK] at h3;have C:=Ge1 D h3 E I;have ho:o∈Em:=by simp [Em];omega
 have hs: ∃z j,p.simple (k+(Ay o).length)= .ok z j:=by
  rw[Ba1] at C;cases c:p.simple (k+(Ay o).length) with
  | bot=>rw[c] at C;cases C
  | fail j=>rw[c] at C;cases C
  | ok z j=>exact⟨z,j,rfl⟩
 obtain⟨z,j,hs⟩:=hs;have q: ∀want,want=0\/want=o->opF l want k Em=(o,k+(Ay o).length):=fun want hw=>Gl8 ho h hw hs;refine⟨q want hw, ?_⟩;rw[Cj5 o x h.1,if_neg (by omega),q o (.inr rfl),if_neg (by dsimp only;omega)];have e1:((p.simple (k+(Ay o).length)).then fun y k=>(p.relation y k).then fun y k=>p.restL o (both o x y) k)=(Ba1 p (k+(Ay o).length)).then fun y k=>p.restL o (both o x y) k:=by rw[Ba1,Bq8]
 show((p.simple (k+(Ay o).length)).then fun y k=>(p.relation y k).then fun y k=>p.restL o (both o x y) k)=_;rw[e1,C];rfl
variable (hz: ∀k,(tk l k).line=0) (hf:Bg e=true) (ih: ∀x∈parts e,RT l p x)
include hf ih
theorem Gy5 (h:e.kind=12):RT l p e:=by
 obtain⟨⟨x,y,hx⟩,⟨o,ho,X,Y⟩,b,c,d⟩:=Gm1 h hf;have ht:Ai e=Ar x (Ei e)++((Ay o).map Ah++Ar y (Fe e)):=by rw[Dl1 h,ho,jD];unfold pE tE;rw[hx];rfl
 have U:Aq e=if 13<=o then 0 else if 7<=o then 1 else if o<=2 then 2 else 3:=by
  unfold Aq;rw[h,ho,if_neg (by decide),if_neg (by decide),if_pos rfl]
  repeat' split
  all_goals omega
 have M:=ih x (Bh (by rw[hx];simp));have V:=ih y (Bh (by rw[hx];simp));have hst:stE e=both o (stE x) (stE y):=by
  rw[Ff e,h,ho,hx,b,c,d,both,Ww];rfl
 have g0:e.l.getD 0 ex0=x:=by rw[hx];rfl
 have O:=Fx1 o (by omega) X;intro k C;rw[ht] at C⊢
 have h1:=C.right;have D:=Fx2 X Y h1;have h2:=h1.right;rw[jK] at h2;have e1:k+(Ar x (Ei e)++((Ay o).map Ah++Ar y (Fe e))).length=k+(Ar x (Ei e)).length+(Ay o).length+(Ar y (Fe e)).length:=by
  rw[jC,jC,jK];omega
 have hle:=C.le;rw[e1] at hle⊢
 by_cases I:13<=o
 ·have hl:Aq e=0:=by rw[U,if_pos I]
  have J:Fe e=1:=by rw[Fe,hl];rfl
  have E:Ei e=if x.kind=12/\x.oper=o then 0 else 1:=by
   rw[Ei,hl,if_neg (by decide),g0,ho];by_cases cc:x.kind=12/\x.oper=o
   ·rw[if_pos cc,if_neg (by rintro⟨_,a | a⟩;exact a cc.1;exact a cc.2)]
   ·rw[if_neg cc,if_pos ⟨rfl,by by_cases Z:x.kind=12;exact .inr fun a=>cc ⟨Z,a⟩;exact .inl Z⟩]
  rw[J] at h1 h2 hle⊢
  refine .of0 ⟨C.1,hle⟩ hl fun hn=> ?_;rw[hst,ho,jD];have L:=fun want hw=>Ek6 (x:=stE x) I Y V h1 rfl hn want hw;by_cases cc:x.kind=12/\x.oper=o
  ·rw[E,if_pos cc] at C L D⊢
   have aa:Ar x 0=Ai x:=by
    rw[Ar,decide_eq_false (by have:=(Pp x).1;omega)];rfl
   rw[aa] at C L D⊢
   have r:=M _ C.left;have ab:Aq x=0:=by
    unfold Aq;rw[cc.1,cc.2,if_neg (by decide),if_neg (by decide),if_pos rfl,if_pos (by omega)]
   rw[r.exp ab (by rw[D];exact O.2.2.2 I),cc.2,jD,(L 0 (.inl rfl)).2]
  ·rw[E,if_neg cc] at C L D⊢
   have ac:=Ge1 M C.left rfl (by rw[D];exact O.2.2.2 I);rw[Br2 C.1,ac];show p.restL (opF l 0 _ Em).1 (stE x) _=_;rw[(L 0 (.inl rfl)).1,(L 0 (.inl rfl)).2]
 ·by_cases W:7<=o
  ·have hl:Aq e=1:=by rw[U,if_neg I,if_pos W]
   have J:Fe e=2:=by rw[Fe,hl];rfl
   have E:Ei e=2:=by rw[Ei,hl];rfl
   rw[E] at C h1 h2 D hle⊢
   rw[J] at h1 h2 hle⊢
   refine .of1 ⟨C.1,hle⟩ hl fun hn=> ?_;have s1:=Ac7 M C.left rfl (by rw[D];exact O.2.2.1 W (by omega));have s2:=Ac7 V h2 rfl (s2d hn);obtain⟨S,q2⟩:=Cx6 (want:=0) (.inl ⟨by simp [Mf];omega,rfl⟩) h1 (.inl rfl);rw[hst,Ba1,s1];show p.relation (stE x) _=_;rw[Ue _ h1.1,S,if_pos (by dsimp only;omega),s2];rfl
  ·by_cases c2:o<=2
   ·have hl:Aq e=2:=by rw[U,if_neg I,if_neg W,if_pos c2]
    have J:Fe e=3:=by rw[Fe,hl];rfl
    have E:Ei e=2:=by rw[Ei,hl,if_neg (by decide),if_neg (by rintro⟨a,_⟩;cases a)]
    rw[E] at C h1 h2 D hle⊢
    rw[J] at h1 h2 hle⊢
    refine .of2 ⟨C.1,hle⟩ hl fun hn=> ?_;obtain⟨S,q2⟩:=Cx6 (want:=0) (.inr (.inr (.inl ⟨by simp [Tz];omega,rfl⟩))) h1 (.inl rfl);rw[hst,Ge0 M C.left rfl (by rw[D];exact O.1 (by omega)),Fd5 _ h1.1,S,if_neg (by dsimp only;omega)];show(p.term (_+(Ay o).length)).then _=_
    rw[Fe2 V h2 rfl (s53 hn),Ag0 hle hn];rfl
   ·have hl:Aq e=3:=by rw[U,if_neg I,if_neg W,if_neg c2]
    have J:Fe e=4:=by rw[Fe,hl];rfl
    have E:Ei e=3:=by rw[Ei,hl,if_neg (by decide),if_neg (by rintro⟨a,_⟩;cases a)]
    rw[E] at C h1 h2 D hle⊢
    rw[J] at h1 h2 hle⊢
    refine .of3 ⟨C.1,hle⟩ hl fun hn=> ?_;obtain⟨S,q2⟩:=Cx6 (want:=0) (.inr (.inr (.inr (.inl ⟨by simp [Ua];omega,rfl⟩)))) h1 (.inl rfl);rw[hst,Fe2 M C.left rfl (by rw[D];exact O.2.1 (by omega)),Fd7 _ h1.1,S,if_neg (by dsimp only;omega)];show(p.factor (_+(Ay o).length)).then _=_
    rw[Gu3 V h2 rfl hn];rfl
theorem Ge2 {j:Nat} {x:Ex} {kind:Int} (M:kind=13\/kind=14) (h:e.kind=kind) (hx:(∃y z,e.l= [x,y,z])\/ ∃y,e.l= [x,y]/\Bu y=true) (b:e.oper=0) (c:e.n=0) (d:e.s= []) (I:e.a= []) (ha:At l j (Jn e)) (C:k'=j+(Jn e).length) (D:nof w2d (tk l k')):
  inK l (stE x) kind j p= .ok (stE e) k':=by
 rcases hx with⟨y,z,hx⟩ | ⟨y,hx,J⟩
 ·have E:=ih y (Bh (by rw[hx];simp));have L:=ih z (Bh (by rw[hx];simp));have ht:Jn e=Ar y 2++Ah Ef::Ar z 2:=by unfold Jn pE tE;rw[hx];rfl
  have hst:stE e= .mk kind 0 0 [] [stE x,stE y,stE z] [] 0 0 0:=by rw[Ff e,h,hx,b,c,d,I];rfl
  rw[ht] at ha C;have h1:=ha.right;have h2:At l (j+(Ar y 2).length+1) (Ar z 2):=At.tail h1;have s1:=Ac7 E ha.left rfl (by rw[h1.head.1];decide+kernel);have s2:=Ac7 L h2 (k':=k') (by rw[C,jC,jA];omega) (s2d D);rw[inK,s1,Ba2,if_pos (At.word h1),s2,Ba2,hst,Ww]
 ·have E:=ih y (Bh (by rw[hx];simp));have ht:Jn e=Ai y:=by unfold Jn pE tE;rw[hx];rfl
  have hst:stE e= .mk kind 0 0 [] [stE x,stE y] [] 0 0 0:=by rw[Ff e,h,hx,b,c,d,I];rfl
  rw[ht] at ha C;subst C;have r:=E _ ha;have s1:p.simple j= .ok (stE y) (j+(Ai y).length):=by
   rw[r.simp (by rw[Rs J];decide) (s32 (s2d D)),Th r.le.2 (s2d D)]
  rw[inK,s1,Ba2,He D (by decide),if_neg (by simp),Ar4,J,if_pos rfl,hst,Ww]
theorem Gu5 (D:e.kind=13\/e.kind=14):RT l p e:=by
 obtain⟨E,b,c,d,I⟩:=Fe4 D hf;have hx: ∃x,(∃y z,e.l= [x,y,z])\/ ∃y,e.l= [x,y]/\Bu y=true:=by
  rcases E with⟨x,y,z,hx⟩ | ⟨x,y,hx⟩
  ·exact⟨x, .inl ⟨y,z,hx⟩⟩
  ·exact⟨x, .inr ⟨y,hx⟩⟩
 clear E;obtain⟨x,hx⟩:=hx;have J:e.l.getD 0 ex0=x/\0<e.l.length:=by rcases hx with⟨y,z,hx⟩ | ⟨y,hx,_⟩<;>(rw[hx];exact⟨rfl,by simp⟩)
 have L:=ih x (Bh (by rcases hx with⟨y,z,hx⟩ | ⟨y,hx,_⟩<;>(rw[hx];simp)));have hl:Aq e=1:=by unfold Aq;rw[if_pos D]
 have M:pE e 0 2=Ar x 2:=by rw[Gd4 J.2,J.1]
 intro k C;rcases D with h | h
 ·rw[Ci9 h,M] at C⊢
  have h1:=C.right;have hw:=At.word h1;have h2:At l (k+(Ar x 2).length+1) (Jn e):=At.tail h1;have e1:k+(Ar x 2++Ah wIn::Jn e).length=k+(Ar x 2).length+1+(Jn e).length:=by rw[jC,jA];omega
  rw[e1];refine .of1 ⟨C.1,h2.le⟩ hl fun hn=> ?_;rw[Ba1,Ac7 L C.left rfl (by rw[h1.head.1];decide+kernel),Ba2,Ue _ h1.1,Af8 hw (by decide),if_neg (by simp),if_pos hw];exact Ge2 hf ih (.inl rfl) h hx b c d I h2 rfl hn
 ·rw[Cj0 h,M] at C⊢
  have h1:=C.right;have hw:=At.word h1;have O:isW l (k+(Ar x 2).length) [Vz,wIn]=true:=At.words (ws:= [Vz,wIn]) h1;have h2:At l (k+(Ar x 2).length+2) (Jn e):=At.tail (At.tail h1);have e1:k+(Ar x 2++Ah Vz::Ah wIn::Jn e).length=k+(Ar x 2).length+2+(Jn e).length:=by rw[jC,jA,jA];omega
  rw[e1];refine .of1 ⟨C.1,h2.le⟩ hl fun hn=> ?_;rw[Ba1,Ac7 L C.left rfl (by rw[h1.head.1];decide+kernel),Ba2,Ue _ h1.1,Af8 hw (by decide),if_neg (by simp),Gk hw (t:=wIn) (by decide),if_neg (by simp),if_pos O];exact Ge2 hf ih (.inr rfl) h hx b c d I h2 rfl hn
end
theorem Jp {d:Nat} {e:Ex} (h:Fd d e=true):Bg e=true/\ ∀x∈parts e,Fd (d+1) x=true:=by
 rw[Qt,jF,jF,List.all_eq_true] at h;exact⟨h.1.2,h.2⟩
theorem Dl9 {l:List Tok} {p:PS} [hr:Rdr l p] (hz: ∀k,(tk l k).line=0) (e:Ex): ∀d,Fd d e=true->RT l p e:=by
 refine Ex.ind (p:=fun e=> ∀d,Fd d e=true->RT l p e) (fun e ih d hv=> ?_) e;obtain⟨hf,hp⟩:=Jp hv;have C: ∀x∈parts e,RT l p x:=fun x hx=>ih x hx _ (hp x hx);have X: ∀x∈parts e,Bg x=true:=fun x hx=>(Jp (hp x hx)).1;by_cases D:e.kind=1
 ·exact rt1 hz hf D
 by_cases E:e.kind=2
 ·exact rt2 hz hf E
 by_cases I:e.kind=3
 ·exact rt3 hz hf I
 by_cases Y:e.kind=4
 ·exact rt4 hz hf C Y
 by_cases J:e.kind=5
 ·exact rt5 hz hf C J
 by_cases c6:e.kind=6
 ·exact rt6 hz hf C c6
 by_cases L:e.kind=7
 ·exact rt7 hz hf C X L
 by_cases M:e.kind=8
 ·exact rt8 hz hf C M
 by_cases O:e.kind=9
 ·exact rt9 hz hf C O
 by_cases S:e.kind=10
 ·exact Gy3 hz hf C S
 by_cases U:e.kind=11
 ·exact Gy4 hz hf C U
 by_cases V:e.kind=12
 ·exact Gy5 hf C V
 by_cases W:e.kind=13\/e.kind=14
 ·exact Gu5 hf C W
 exfalso;have:Bg e=false:=by
  unfold Bg;rw[if_neg D,if_neg E,if_neg I,if_neg (by omega),if_neg J,if_neg L,if_neg M,if_neg O,if_neg S,if_neg U,if_neg V,if_neg W]
 rw[this] at hf;cases hf
end Go.Dl
-- V2
namespace Go.Dl
open Go Go.Proofs
set_option maxRecDepth 100000
theorem lx0 {e:List Ex} {x:Ex} {r:List Ex} (h:e=x::r):(e.flatMap dEx).take 9=dEx x:=by
 rw[h,List.flatMap_cons,List.take_append_of_le_length (by rw[Ad];omega),List.take_of_length_le (by rw[Ad];omega)]
theorem lx1 {e:List Ex} {x y:Ex} {r:List Ex} (h:e=x::y::r):((e.flatMap dEx).drop 9).take 9=dEx y:=by
 rw[h,List.flatMap_cons,List.drop_left' (Ad x)];exact lx0 rfl
theorem lx2 {e:List Ex} {x y z:Ex} {r:List Ex} (h:e=x::y::z::r):((e.flatMap dEx).drop 18).take 9=dEx z:=by
 rw[h,List.flatMap_cons,show 18=9+9 from rfl,<-List.drop_drop,List.drop_left' (Ad x)];exact lx1 rfl
section
variable {G:Nat->DVal}
set_option maxHeartbeats 4000000 in
theorem Ar9 (hG:GX G) (a b:Ex) (ha:WrC Tryz.prog G 187 [.agg (dEx a)] (Ai a)) (hb:WrC Tryz.prog G 187 [.agg (dEx b)] (Ai b)):WrC Tryz.prog G 299 [.agg (dEx a), .agg (dEx b)] (Ar a 2++Ah Ef::Ar b 2):=by
 intro B r ts H hB ab hw;rw[jC,jA] at ab;refine Ab Tryz.func299 Tryz.call299 rfl (by kernel_rfl) ?_;simp(disch:=omega)only[go_sem,DVal.cells];intro D M;dsimp only at M;obtain⟨K,S⟩: ∃K',K'=upd H D (some (.cells (dEx a) 27)):=⟨_,rfl⟩;rw[<-S];have W:K D=some (.cells (dEx a) 27):=by rw[S];exact Aa _ _ _
 have U:WAt (upd B D (some (.cells (dEx a) 27))) r ts K:=by rw[S];exact hw.frame M _
 have n4:r≠D:=hw.ne M;have ac:B D=none:=(hw.lo M).1;simp(disch:=omega)only[go_sem,DVal.cells];intro E I;dsimp only at I;obtain⟨L,O⟩: ∃K',K'=upd K E (some (.cells (dEx b) 27)):=⟨_,rfl⟩;rw[<-O];have af:L E=some (.cells (dEx b) 27):=by rw[O];exact Aa _ _ _
 have X:WAt (upd (upd B D (some (.cells (dEx a) 27))) E (some (.cells (dEx b) 27))) r ts L:=by rw[O];exact U.frame I _
 have Y:r≠E:=U.ne I;have ad:=(U.lo I).1;have Z:D≠E:=Af I W;have ae:L D=some (.cells (dEx a) 27):=by rw[O];exact Aj W Z
 obtain⟨C,J⟩: ∃C,C=upd (upd B D (some (.cells (dEx a) 27))) E (some (.cells (dEx b) 27)):=⟨_,rfl⟩;rw[<-J] at X;have V:C r=none:=by rw[J,Am _ _ _ _ Y,Am _ _ _ _ n4];exact hB
 have c4:C D=some (.cells (dEx a) 27):=by rw[J];exact Aj (Aa _ _ _) Z
 have c5:C E=some (.cells (dEx b) 27):=by rw[J];exact Aa _ _ _
 simp(disch:=omega)only[go_sem,ae];refine(Dt hG a 2 ha C r _ _ V (by omega) X).mono ?_;rintro _ H1 ⟨rfl,h1⟩;simp(disch:=omega)only[go_sem];intro q1 aa;dsimp only at aa;simp(disch:=omega)only[go_sem];refine(Us hG Ef aa V (by simp;omega) h1).mono ?_;rintro _ H2 ⟨rfl,h2⟩;have g5:=h2.keep c5 Y.symm;simp(disch:=omega)only[go_sem,g5];refine(Dt hG b 2 hb C r _ _ V (by simp;omega) h2).mono ?_;rintro _ H3 ⟨rfl,h3⟩;simp(disch:=omega)only[go_sem];refine Fa.refl ⟨rfl, ?_⟩;rw[J] at h3;have:=(h3.drop ad).drop ac;simpa using this
set_option maxHeartbeats 4000000 in
theorem Dm0 (hG:GX G) (e x:Ex) (o:Nat) (hl:e.l= [x]) (U:e.oper=o) (ab:o<22) (hx:WrC Tryz.prog G 187 [.agg (dEx x)] (Ai x)):WrC Tryz.prog G 263 [.agg (dEx e)] ((Ay o).map Ah++Ar x (Jx e)):=by
 intro B r ts H hB J hw;rw[jC,jK] at J;have V:=lx0 hl;have hfl:=Aw Ad e.l;have W:e.l.length=1:=by rw[hl];rfl
 have X:=Ak7 ab;have Y:(Dj6.map dW).length=22:=rfl;refine Ab Tryz.func263 Tryz.call263 rfl (by kernel_rfl) ?_;simp(disch:=omega)only[go_sem,DVal.cells];intro C E;dsimp only at E;obtain⟨K,L⟩: ∃K',K'=upd H C (some (.cells (dEx e) 27)):=⟨_,rfl⟩;rw[<-L];have D:K C=some (.cells (dEx e) 27):=by rw[L];exact Aa _ _ _
 have Z:WAt (upd B C (some (.cells (dEx e) 27))) r ts K:=by rw[L];exact hw.frame E _
 have M:r≠C:=hw.ne E;have aa:B C=none:=(hw.lo E).1;have I:upd B C (some (.cells (dEx e) 27)) r=none:=by rw[Am _ _ _ _ M];exact hB
 simp(disch:=omega)only[go_sem,D];refine(Yc G K e).mono ?_;rintro _ K1 ⟨rfl,rfl⟩;by_cases c:Aq e=2
 ·have O:Jx e=3:=by rw[Jx,if_pos c]
  rw[O] at J⊢
  simp(disch:=omega)only[go_sem,c];refine Ak (by kernel_rfl) pL3 (by kernel_rfl) ?_;simp(disch:=omega)only[go_sem,D];refine(Mi G K1).mono ?_;rintro _ K2 ⟨rfl,rfl⟩;simp(disch:=omega)only[go_sem,D,U,Pn,X,Y,jD];refine(Mk hG (Ay o) _ r _ _ I (by rw[jK];omega) Z).mono ?_;rintro _ H1 ⟨rfl,h1⟩;have S:=h1.keep (Aa _ _ _) M.symm;simp(disch:=omega)only[go_sem,S,W,V,hfl];refine(Dt hG x _ hx _ r _ _ I (by rw[jC,jK];omega) h1).mono ?_;rintro _ H2 ⟨rfl,h2⟩;simp(disch:=omega)only[go_sem];refine Fa.refl ⟨rfl, ?_⟩;have:=h2.drop aa;rw[jO] at this;exact this
 ·have O:Jx e=5:=by rw[Jx,if_neg c]
  rw[O] at J⊢
  simp(disch:=omega)only[go_sem,c];refine Ak (by kernel_rfl) pL3 (by kernel_rfl) ?_;simp(disch:=omega)only[go_sem,D];refine(Mi G K1).mono ?_;rintro _ K2 ⟨rfl,rfl⟩;simp(disch:=omega)only[go_sem,D,U,Pn,X,Y,jD];refine(Mk hG (Ay o) _ r _ _ I (by rw[jK];omega) Z).mono ?_;rintro _ H1 ⟨rfl,h1⟩;have S:=h1.keep (Aa _ _ _) M.symm;simp(disch:=omega)only[go_sem,S,W,V,hfl];refine(Dt hG x _ hx _ r _ _ I (by rw[jC,jK];omega) h1).mono ?_;rintro _ H2 ⟨rfl,h2⟩;simp(disch:=omega)only[go_sem];refine Fa.refl ⟨rfl, ?_⟩;have:=h2.drop aa;rw[jO] at this;exact this
set_option maxHeartbeats 4000000 in
theorem Dm1 (hG:GX G) (e x y:Ex) (o:Nat) (hl:e.l= [x,y]) (I:e.oper=o) (aj:o<22) (hx:WrC Tryz.prog G 187 [.agg (dEx x)] (Ai x)) (Y:WrC Tryz.prog G 187 [.agg (dEx y)] (Ai y)):
  WrC Tryz.prog G 264 [.agg (dEx e)] (Ar x (Ei e)++((Ay o).map Ah++Ar y (Fe e))):=by
 intro B r ts H hB W hw;rw[jC,jC,jK] at W;have Z:=lx0 hl;have aa:=lx1 hl;have hfl:=Aw Ad e.l;have D:e.l.length=2:=by rw[hl];rfl
 have ab:=Ak7 aj;have ac:(Dj6.map dW).length=22:=rfl;have al:=Pp e;have g0:e.l.getD 0 ex0=x:=by rw[hl];rfl
 have ag:(e.l.flatMap dEx)[0]? =some (.int .u8 x.kind):=by rw[hl,List.flatMap_cons,Pm];rfl
 have ah:(e.l.flatMap dEx)[1]? =some (.int .u8 x.oper):=by rw[hl,List.flatMap_cons,Pm];rfl
 refine Ab Tryz.func264 Tryz.call264 rfl (by kernel_rfl) ?_;simp(disch:=omega)only[go_sem,DVal.cells];intro X ai;dsimp only at ai;obtain⟨K,hK⟩: ∃K',K'=upd H X (some (.cells (dEx e) 27)):=⟨_,rfl⟩;rw[<-hK];have L:K X=some (.cells (dEx e) 27):=by rw[hK];exact Aa _ _ _
 have ad:WAt (upd B X (some (.cells (dEx e) 27))) r ts K:=by rw[hK];exact hw.frame ai _
 have J:r≠X:=hw.ne ai;have ae:B X=none:=(hw.lo ai).1;have C:upd B X (some (.cells (dEx e) 27)) r=none:=by rw[Am _ _ _ _ J];exact hB
 simp(disch:=omega)only[go_sem,L];refine(Yc G K e).mono ?_;rintro _ K1 ⟨rfl,rfl⟩;have af:IntKind.i64.wrap (Aq e+1)=Aq e+1:=by rw[IntKind.wrap_i64];omega
 by_cases M:Aq e=1
 ·have S:Ei e=2:=by rw[Ei,if_pos M]
  have V:Fe e=2:=by rw[Fe,if_pos M]
  rw[S,V] at W⊢
  simp(disch:=omega)only[go_sem,M,af];simp(disch:=omega)only[go_sem,L,D,Z,hfl];refine(Dt hG x _ hx _ r _ _ C (by omega) ad).mono ?_;rintro _ H1 ⟨rfl,h1⟩;have E:=h1.keep (Aa _ _ _) J.symm;simp(disch:=omega)only[go_sem];refine Ak (by kernel_rfl) pL3 (by kernel_rfl) ?_;simp(disch:=omega)only[go_sem,E];refine(Mi G H1).mono ?_;rintro _ K2 ⟨rfl,rfl⟩;simp(disch:=omega)only[go_sem,E,I,Pn,ab,ac,jD];refine(Mk hG (Ay o) _ r _ _ C (by rw[jC,jK];omega) h1).mono ?_;rintro _ H3 ⟨rfl,h3⟩;have U:=h3.keep (Aa _ _ _) J.symm;simp(disch:=omega)only[go_sem,U,D,aa,hfl];refine(Dt hG y _ Y _ r _ _ C (by rw[jC,jC,jK];omega) h3).mono ?_;rintro _ H4 ⟨rfl,h4⟩;simp(disch:=omega)only[go_sem];refine Fa.refl ⟨rfl, ?_⟩;have:=h4.drop ae;rw[jO,jO] at this;exact this
 ·have V:Fe e=Aq e+1:=by rw[Fe,if_neg M]
  by_cases O:Aq e=0
  ·have V:Fe e=1:=by rw[Fe,if_neg M,O];rfl
   by_cases ck:x.kind=12
   ·by_cases co:x.oper=(o:Int)
    ·have S:Ei e=0:=by rw[Ei,if_neg M,g0,I,if_neg (by rintro⟨_,a | a⟩;exact a ck;exact a co),O]
     rw[S,V] at W⊢
     have ak: ¬(0:Int)=1:=by decide
     simp(disch:=omega)only[go_sem,O,af,ak];refine Ak (by kernel_rfl) pL0 (by kernel_rfl) ?_;simp(disch:=omega)only[go_sem,L,D,hfl,ag,ah,ck,co,I];simp(disch:=omega)only[go_sem,L,D,Z,hfl];refine(Dt hG x _ hx _ r _ _ C (by omega) ad).mono ?_;rintro _ H1 ⟨rfl,h1⟩;have E:=h1.keep (Aa _ _ _) J.symm;simp(disch:=omega)only[go_sem];refine Ak (by kernel_rfl) pL3 (by kernel_rfl) ?_;simp(disch:=omega)only[go_sem,E];refine(Mi G H1).mono ?_;rintro _ K2 ⟨rfl,rfl⟩;simp(disch:=omega)only[go_sem,E,I,Pn,ab,ac,jD];refine(Mk hG (Ay o) _ r _ _ C (by rw[jC,jK];omega) h1).mono ?_;rintro _ H3 ⟨rfl,h3⟩;have U:=h3.keep (Aa _ _ _) J.symm;simp(disch:=omega)only[go_sem,U,D,aa,hfl];refine(Dt hG y _ Y _ r _ _ C (by rw[jC,jC,jK];omega) h3).mono ?_;rintro _ H4 ⟨rfl,h4⟩;simp(disch:=omega)only[go_sem];refine Fa.refl ⟨rfl, ?_⟩;have:=h4.drop ae;rw[jO,jO] at this;exact this
    ·have S:Ei e=1:=by rw[Ei,if_neg M,g0,I,if_pos ⟨O, .inr co⟩]
     rw[S,V] at W⊢
     simp(disch:=omega)only[go_sem,O,af];refine Ak (by kernel_rfl) pL0 (by kernel_rfl) ?_;simp(disch:=omega)only[go_sem,L,D,hfl,ag,ah,ck,co,I];simp(disch:=omega)only[go_sem,L,D,Z,hfl];refine(Dt hG x _ hx _ r _ _ C (by omega) ad).mono ?_;rintro _ H1 ⟨rfl,h1⟩;have E:=h1.keep (Aa _ _ _) J.symm;simp(disch:=omega)only[go_sem];refine Ak (by kernel_rfl) pL3 (by kernel_rfl) ?_;simp(disch:=omega)only[go_sem,E];refine(Mi G H1).mono ?_;rintro _ K2 ⟨rfl,rfl⟩;simp(disch:=omega)only[go_sem,E,I,Pn,ab,ac,jD];refine(Mk hG (Ay o) _ r _ _ C (by rw[jC,jK];omega) h1).mono ?_;rintro _ H3 ⟨rfl,h3⟩;have U:=h3.keep (Aa _ _ _) J.symm;simp(disch:=omega)only[go_sem,U,D,aa,hfl];refine(Dt hG y _ Y _ r _ _ C (by rw[jC,jC,jK];omega) h3).mono ?_;rintro _ H4 ⟨rfl,h4⟩;simp(disch:=omega)only[go_sem];refine Fa.refl ⟨rfl, ?_⟩;have:=h4.drop ae;rw[jO,jO] at this;exact this
   ·have S:Ei e=1:=by rw[Ei,if_neg M,g0,I,if_pos ⟨O, .inl ck⟩]
    rw[S,V] at W⊢
    simp(disch:=omega)only[go_sem,O,af];refine Ak (by kernel_rfl) pL0 (by kernel_rfl) ?_;simp(disch:=omega)only[go_sem,L,D,hfl,ag,ah,ck,I];simp(disch:=omega)only[go_sem,L,D,Z,hfl];refine(Dt hG x _ hx _ r _ _ C (by omega) ad).mono ?_;rintro _ H1 ⟨rfl,h1⟩;have E:=h1.keep (Aa _ _ _) J.symm;simp(disch:=omega)only[go_sem];refine Ak (by kernel_rfl) pL3 (by kernel_rfl) ?_;simp(disch:=omega)only[go_sem,E];refine(Mi G H1).mono ?_;rintro _ K2 ⟨rfl,rfl⟩;simp(disch:=omega)only[go_sem,E,I,Pn,ab,ac,jD];refine(Mk hG (Ay o) _ r _ _ C (by rw[jC,jK];omega) h1).mono ?_;rintro _ H3 ⟨rfl,h3⟩;have U:=h3.keep (Aa _ _ _) J.symm;simp(disch:=omega)only[go_sem,U,D,aa,hfl];refine(Dt hG y _ Y _ r _ _ C (by rw[jC,jC,jK];omega) h3).mono ?_;rintro _ H4 ⟨rfl,h4⟩;simp(disch:=omega)only[go_sem];refine Fa.refl ⟨rfl, ?_⟩;have:=h4.drop ae;rw[jO,jO] at this;exact this
  ·have S:Ei e=Aq e:=by rw[Ei,if_neg M,if_neg (by rintro⟨a,_⟩;exact O a)]
   rw[S,V] at W⊢
   simp(disch:=omega)only[go_sem,O,M,af];refine Ak (by kernel_rfl) pL0 (by kernel_rfl) ?_;simp(disch:=omega)only[go_sem,L,D,hfl,ag,ah,I,O];simp(disch:=omega)only[go_sem,L,D,Z,hfl];refine(Dt hG x _ hx _ r _ _ C (by omega) ad).mono ?_;rintro _ H1 ⟨rfl,h1⟩;have E:=h1.keep (Aa _ _ _) J.symm;simp(disch:=omega)only[go_sem];refine Ak (by kernel_rfl) pL3 (by kernel_rfl) ?_;simp(disch:=omega)only[go_sem,E];refine(Mi G H1).mono ?_;rintro _ K2 ⟨rfl,rfl⟩;simp(disch:=omega)only[go_sem,E,I,Pn,ab,ac,jD];refine(Mk hG (Ay o) _ r _ _ C (by rw[jC,jK];omega) h1).mono ?_;rintro _ H3 ⟨rfl,h3⟩;have U:=h3.keep (Aa _ _ _) J.symm;simp(disch:=omega)only[go_sem,U,D,aa,hfl];refine(Dt hG y _ Y _ r _ _ C (by rw[jC,jC,jK];omega) h3).mono ?_;rintro _ H4 ⟨rfl,h4⟩;simp(disch:=omega)only[go_sem];refine Fa.refl ⟨rfl, ?_⟩;have:=h4.drop ae;rw[jO,jO] at this;exact this
set_option maxHeartbeats 4000000 in
theorem As0 (hG:GX G) (e x:Ex) (ws:List (List UInt8)) (hl:(∃y z,e.l= [x,y,z])\/ ∃y,e.l= [x,y]) (hp: ∀y∈e.l,WrC Tryz.prog G 187 [.agg (dEx y)] (Ai y)):
  WrC Tryz.prog G 265 [.agg (dEx e),dW ws] (Ar x 2++(ws.map Ah++Jn e)):=by
 intro B r ts H Z L hw;rw[jC,jC,jK] at L;have hx:WrC Tryz.prog G 187 [.agg (dEx x)] (Ai x):=hp x (by rcases hl with⟨y,z,hl⟩ | ⟨y,hl⟩<;>(rw[hl];simp));have U:(e.l.flatMap dEx).take 9=dEx x:=by rcases hl with⟨y,z,hl⟩ | ⟨y,hl⟩<;>exact lx0 hl
 have hfl:=Aw Ad e.l;have V:0<e.l.length:=by rcases hl with⟨y,z,hl⟩ | ⟨y,hl⟩<;>(rw[hl];simp)
 refine Ab Tryz.func265 Tryz.call265 rfl (by kernel_rfl) ?_;simp(disch:=omega)only[go_sem,DVal.cells];intro C E;dsimp only at E;obtain⟨K,M⟩: ∃K',K'=upd H C (some (.cells (dEx e) 27)):=⟨_,rfl⟩;rw[<-M];have W:K C=some (.cells (dEx e) 27):=by rw[M];exact Aa _ _ _
 have X:WAt (upd B C (some (.cells (dEx e) 27))) r ts K:=by rw[M];exact hw.frame E _
 have O:r≠C:=hw.ne E;have Y:B C=none:=(hw.lo E).1;have D:upd B C (some (.cells (dEx e) 27)) r=none:=by rw[Am _ _ _ _ O];exact Z
 rcases hl with⟨y,z,hl⟩ | ⟨y,hl⟩
 ·have I:e.l.length=3:=by rw[hl];rfl
  have S:=lx1 hl;have aa:=lx2 hl;have ht:Jn e=Ar y 2++Ah Ef::Ar z 2:=by unfold Jn pE tE;rw[hl];rfl
  rw[ht] at L⊢
  simp(disch:=omega)only[go_sem,W,U,hfl,V];refine(Dt hG x _ hx _ r _ _ D (by omega) X).mono ?_;rintro _ H1 ⟨rfl,h1⟩;simp(disch:=omega)only[go_sem];refine(Mk hG ws _ r _ _ D (by rw[jC,jK];omega) h1).mono ?_;rintro _ H2 ⟨rfl,h2⟩;have J:=h2.keep (Aa _ _ _) O.symm;simp(disch:=omega)only[go_sem,J,I];refine Ak (by kernel_rfl) pL10 (by kernel_rfl) ?_;simp(disch:=omega)only[go_sem,J,I,S,aa,hfl];refine(Ar9 hG y z (hp y (by rw[hl];simp)) (hp z (by rw[hl];simp)) _ r _ _ D (by rw[jC,jC,jK];omega) h2).mono ?_;rintro _ H4 ⟨rfl,h4⟩;simp(disch:=omega)only[go_sem];refine Fa.refl ⟨rfl, ?_⟩;have:=h4.drop Y;rw[jO,jO] at this;exact this
 ·have I:e.l.length=2:=by rw[hl];rfl
  have S:=lx1 hl;have ht:Jn e=Ai y:=by unfold Jn pE tE;rw[hl];rfl
  rw[ht] at L⊢
  simp(disch:=omega)only[go_sem,W,U,hfl,V];refine(Dt hG x _ hx _ r _ _ D (by omega) X).mono ?_;rintro _ H1 ⟨rfl,h1⟩;simp(disch:=omega)only[go_sem];refine(Mk hG ws _ r _ _ D (by rw[jC,jK];omega) h1).mono ?_;rintro _ H2 ⟨rfl,h2⟩;have J:=h2.keep (Aa _ _ _) O.symm;simp(disch:=omega)only[go_sem,J,I,S,hfl];refine(hp y (by rw[hl];simp) _ r _ _ D (by rw[jC,jC,jK];omega) h2).mono ?_;rintro _ H4 ⟨rfl,h4⟩;simp(disch:=omega)only[go_sem];refine Fa.refl ⟨rfl, ?_⟩;have:=h4.drop Y;rw[jO,jO] at this;exact this
set_option maxHeartbeats 4000000 in
theorem As1 (hG:GX G) (c:Ch) {n:Nat} (C:Fs n c=true) (hp: ∀y∈c.l,WrC Tryz.prog G 187 [.agg (dEx y)] (Ai y)):WrC Tryz.prog G 275 [.agg (dCh c)] (Cs c):=by
 intro B r ts H Y E hw;have hfl:=Aw Ad c.l;unfold Fs at C;refine Ab Tryz.func275 Tryz.call275 rfl (by kernel_rfl) ?_;simp(disch:=omega)only[go_sem,DVal.cells];intro I L;dsimp only at L;obtain⟨K,O⟩: ∃K',K'=upd H I (some (.cells (dCh c) 47)):=⟨_,rfl⟩;rw[<-O];have M:K I=some (.cells (dCh c) 47):=by rw[O];exact Aa _ _ _
 have S:WAt (upd B I (some (.cells (dCh c) 47))) r ts K:=by rw[O];exact hw.frame L _
 have Z:r≠I:=hw.ne L;have U:B I=none:=(hw.lo L).1;have V:upd B I (some (.cells (dCh c) 47)) r=none:=by rw[Am _ _ _ _ Z];exact Y
 by_cases D:c.kind=1
 ·rw[if_pos D,decide_eq_true_eq] at C;obtain⟨x,hx⟩:=Fe3 C;have W:=lx0 hx;have ht:Cs c=Ai x:=by rw[Jm,if_pos D,hx];rfl
  rw[ht] at E⊢
  simp(disch:=omega)only[go_sem,M,D,C,W,hfl];refine(hp x (by rw[hx];simp) _ r _ _ V E S).mono ?_;rintro _ H4 ⟨rfl,h4⟩;simp(disch:=omega)only[go_sem];exact Fa.refl ⟨rfl,h4.drop U⟩
 ·rw[if_neg D] at C;by_cases J:c.kind=2
  ·rw[if_pos J,decide_eq_true_eq] at C;obtain⟨x,y,hx⟩:=Ek4 C;have W:=lx0 hx;have aa:=lx1 hx;have ht:Cs c=Ar x 2++Ah Ef::Ar y 2:=by rw[Jm,if_neg D,if_pos J,hx];rfl
   rw[ht] at E⊢
   simp(disch:=omega)only[go_sem,M,J];refine Ak (by kernel_rfl) pL10 (by kernel_rfl) ?_;simp(disch:=omega)only[go_sem,M,C,W,aa,hfl];refine(Ar9 hG x y (hp x (by rw[hx];simp)) (hp y (by rw[hx];simp)) _ r _ _ V E S).mono ?_;rintro _ H4 ⟨rfl,h4⟩;simp(disch:=omega)only[go_sem];exact Fa.refl ⟨rfl,h4.drop U⟩
  ·have ht:Cs c= [Ah Lt]:=by rw[Jm,if_neg D,if_neg J]
   rw[ht] at E⊢
   simp(disch:=omega)only[go_sem,M,D,J];intro q1 X;dsimp only at X;simp(disch:=omega)only[go_sem];refine(Us hG Lt X V E S).mono ?_;rintro _ H1 ⟨rfl,h1⟩;simp(disch:=omega)only[go_sem];exact Fa.refl ⟨rfl,h1.drop U⟩
end
theorem Ti {α:Type} {l:List α} {j:Nat} (h:j<l.length):l.take (j+1)=l.take j++ [l[j]]:=by rw[List.take_add_one,List.getElem?_eq_getElem h];rfl
theorem Ba3 {α:Type} (g:α->List Tok) (s:List UInt8) (l:List α) (j:Nat) (h:j<l.length):Dm s ((l.take (j+1)).map g)=Dm s ((l.take j).map g)++((if j=0 then [] else [Ah s])++g l[j]):=by
 rw[Ti h,List.map_append,List.map_singleton];by_cases c:j=0
 ·subst c;simp [Dm]
 ·rw[Af2 s _ _ (by cases l with
   | nil=>simp at h
   | cons x l=>cases j with
    | zero=>exact absurd rfl c
    | succ j=>simp),if_neg c];rfl
theorem Cc3 {α:Type} (g:α->List Tok) (s:List UInt8) (l:List α): ∀(n j:Nat),j+n<=l.length->(Dm s ((l.take j).map g)).length<=(Dm s ((l.take (j+n)).map g)).length
 | 0,j,_=>Nat.le_refl _
 | n+1,j,h=>by
  rw[<-Nat.add_assoc,Ba3 g s l (j+n) (by omega),jC];have:=Cc3 g s l n j (by omega);omega
theorem Dw0 {α:Type} (g:α->List Tok) (s:List UInt8) (l:List α) (j:Nat) (h:j<=l.length):(Dm s ((l.take j).map g)).length<=(Dm s (l.map g)).length:=by
 have:=Cc3 g s l (l.length-j) j (by omega);rw[Nat.add_sub_cancel' h,List.take_length] at this;exact this
section
variable {G:Nat->DVal}
set_option maxHeartbeats 4000000 in
theorem Bd6 (hG:GX G) (l:List Ch) (s:List UInt8) (ak:l.length<=1000000000) (hp: ∀c∈l,WrC Tryz.prog G 275 [.agg (dCh c)] (Cs c)) (B:Ac) (r:Nat) (ts:List Tok) (H:Ac) (hB:B r=none) (al:ts.length+(Dm s (l.map Cs)).length<=1000000000) (hw:WAt B r ts H):
  Ag Tryz.prog G 274 [.optr r 0,dCl l, .str s, .func (.func 275) [.optr r 0] []] H (WQ B r (ts++Dm s (l.map Cs))):=by
 refine Ab Tryz.func274 Tryz.call274 rfl (by kernel_rfl) ?_;simp(disch:=omega)only[go_sem,dCl];obtain⟨I,V⟩: ∃I:Nat->(Nat->DVal)->Ac->Prop,∀j env heap,I j env heap↔(env 0= .optr r 0/\env 2= .str s/\env 3= .func (.func 275) [.optr r 0] []/\env 10=dCl l/\env 11=dI l.length/\env 12=dI j/\j<=l.length/\WAt B r (ts++Dm s ((l.take j).map Cs)) heap):=⟨_,fun _ _ _=>Iff.rfl⟩;refine Dr7.run I (fun j=>l.length-j) 0 ((V _ _ _).2 ?_) ?_
 ·simp(disch:=omega)only[go_sem];(repeat' apply And.intro)<;>(try first | rfl | assumption | omega);simpa [Dm] using hw
 ·intro j env heap hi;obtain⟨C,D,E,J,L,M,hj,U⟩:=(V _ _ _).1 hi;by_cases W:j<l.length
  ·have Y:(j:Int)<(l.length:Int):=by omega
   have ac:IntKind.i64.wrap ((j:Int)+1)=((j+1:Nat):Int):=by rw[IntKind.wrap_i64];omega
   have ad:=Co Gs l j W;have hfl:=Aw Gs l;have O:=Ba3 Cs s l j W;have hle:=Dw0 Cs s l (j+1) W;have hpc:=hp l[j] (List.getElem_mem W);obtain⟨c,ai⟩: ∃c,c=l[j]:=⟨_,rfl⟩;rw[<-ai] at ad O hpc;rw[O,jC,jC] at hle;simp(disch:=omega)only[go_sem,C,D,E,J,L,M,Y,dCl,ad,hfl,jD];intro S X;dsimp only at X;simp(disch:=omega)only[go_sem,C,D,E,J,L,M];obtain⟨K,Z⟩: ∃K',K'=upd heap S (some (.cells (dCh c) 47)):=⟨_,rfl⟩;rw[<-Z];have ae:K S=some (.cells (dCh c) 47):=by rw[Z];exact Aa _ _ _
   have af:WAt (upd B S (some (.cells (dCh c) 47))) r (ts++Dm s ((l.take j).map Cs)) K:=by rw[Z];exact U.frame X _
   have n9:r≠S:=U.ne X;have ag:B S=none:=(U.lo X).1;have aa:upd B S (some (.cells (dCh c) 47)) r=none:=by rw[Am _ _ _ _ n9];exact hB
   by_cases c0:j=0
   ·have aj: ¬(j:Int)>0:=by omega
    have ab: ¬(0:Int)<(j:Int):=by omega
    rw[if_pos c0] at O hle;simp(disch:=omega)only[go_sem,C,D,E,J,L,M,ae,aj,ab];refine(hpc _ r _ _ aa (by rw[jC];simp only[jB] at hle;omega) af).mono ?_;rintro _ H2 ⟨rfl,h2⟩;simp(disch:=omega)only[go_sem,C,D,E,J,L,M];refine⟨j+1,_,Rz.refl _,(V _ _ _).2 ?_,by omega⟩;simp(disch:=omega)only[go_sem,C,D,E,J,L,M,ac];(repeat' apply And.intro)<;>(try first | rfl | assumption | omega);have:=h2.drop ag;rw[O,jG,<-jO];exact this
   ·have ab:(0:Int)<(j:Int):=by omega
    rw[if_neg c0] at O hle;simp only[jQ] at hle;simp(disch:=omega)only[go_sem,C,D,E,J,L,M,ae,ab];intro q1 ah;dsimp only at ah;simp(disch:=omega)only[go_sem,C,D,E,J,L,M];refine(Us hG s ah aa (by rw[jC];omega) af).mono ?_;rintro _ H1 ⟨rfl,h1⟩;have g1:=h1.keep (Aa _ _ _) n9.symm;simp(disch:=omega)only[go_sem,C,D,E,J,L,M,g1];refine(hpc _ r _ _ aa (by rw[jC,jC,jQ];omega) h1).mono ?_;rintro _ H2 ⟨rfl,h2⟩;simp(disch:=omega)only[go_sem,C,D,E,J,L,M];refine⟨j+1,_,Rz.refl _,(V _ _ _).2 ?_,by omega⟩;simp(disch:=omega)only[go_sem,C,D,E,J,L,M,ac];(repeat' apply And.intro)<;>(try first | rfl | assumption | omega);have:=h2.drop ag;rw[O,<-jO,<-jO];exact this
  ·have:j=l.length:=by omega
   subst this;have Y: ¬(l.length:Int)<(l.length:Int):=by omega
   rw[List.take_length] at U;simp(disch:=omega)only[go_sem,C,D,E,J,L,M,Y];exact Fa.refl ⟨rfl,U⟩
set_option maxHeartbeats 4000000 in
theorem Bd7 (hG:GX G) (l:List As) (s:List UInt8) (ak:l.length<=1000000000) (hp: ∀c∈l,WrC Tryz.prog G 262 [.agg (dAs c)] (Es c)) (B:Ac) (r:Nat) (ts:List Tok) (H:Ac) (hB:B r=none) (al:ts.length+(Dm s (l.map Es)).length<=1000000000) (hw:WAt B r ts H):
  Ag Tryz.prog G 261 [.optr r 0,dAl l, .str s, .func (.func 262) [.optr r 0] []] H (WQ B r (ts++Dm s (l.map Es))):=by
 refine Ab Tryz.func261 Tryz.call261 rfl (by kernel_rfl) ?_;simp(disch:=omega)only[go_sem,dAl];obtain⟨I,V⟩: ∃I:Nat->(Nat->DVal)->Ac->Prop,∀j env heap,I j env heap↔(env 0= .optr r 0/\env 2= .str s/\env 3= .func (.func 262) [.optr r 0] []/\env 10=dAl l/\env 11=dI l.length/\env 12=dI j/\j<=l.length/\WAt B r (ts++Dm s ((l.take j).map Es)) heap):=⟨_,fun _ _ _=>Iff.rfl⟩;refine Dr7.run I (fun j=>l.length-j) 0 ((V _ _ _).2 ?_) ?_
 ·simp(disch:=omega)only[go_sem];(repeat' apply And.intro)<;>(try first | rfl | assumption | omega);simpa [Dm] using hw
 ·intro j env heap hi;obtain⟨C,D,E,J,L,M,hj,U⟩:=(V _ _ _).1 hi;by_cases W:j<l.length
  ·have Y:(j:Int)<(l.length:Int):=by omega
   have ac:IntKind.i64.wrap ((j:Int)+1)=((j+1:Nat):Int):=by rw[IntKind.wrap_i64];omega
   have ad:=Co Gj l j W;have hfl:=Aw Gj l;have O:=Ba3 Es s l j W;have hle:=Dw0 Es s l (j+1) W;have hpc:=hp l[j] (List.getElem_mem W);obtain⟨c,ai⟩: ∃c,c=l[j]:=⟨_,rfl⟩;rw[<-ai] at ad O hpc;rw[O,jC,jC] at hle;simp(disch:=omega)only[go_sem,C,D,E,J,L,M,Y,dAl,ad,hfl,jD];intro S X;dsimp only at X;simp(disch:=omega)only[go_sem,C,D,E,J,L,M];obtain⟨K,Z⟩: ∃K',K'=upd heap S (some (.cells (dAs c) 44)):=⟨_,rfl⟩;rw[<-Z];have ae:K S=some (.cells (dAs c) 44):=by rw[Z];exact Aa _ _ _
   have af:WAt (upd B S (some (.cells (dAs c) 44))) r (ts++Dm s ((l.take j).map Es)) K:=by rw[Z];exact U.frame X _
   have n9:r≠S:=U.ne X;have ag:B S=none:=(U.lo X).1;have aa:upd B S (some (.cells (dAs c) 44)) r=none:=by rw[Am _ _ _ _ n9];exact hB
   by_cases c0:j=0
   ·have aj: ¬(j:Int)>0:=by omega
    have ab: ¬(0:Int)<(j:Int):=by omega
    rw[if_pos c0] at O hle;simp(disch:=omega)only[go_sem,C,D,E,J,L,M,ae,aj,ab];refine(hpc _ r _ _ aa (by rw[jC];simp only[jB] at hle;omega) af).mono ?_;rintro _ H2 ⟨rfl,h2⟩;simp(disch:=omega)only[go_sem,C,D,E,J,L,M];refine⟨j+1,_,Rz.refl _,(V _ _ _).2 ?_,by omega⟩;simp(disch:=omega)only[go_sem,C,D,E,J,L,M,ac];(repeat' apply And.intro)<;>(try first | rfl | assumption | omega);have:=h2.drop ag;rw[O,jG,<-jO];exact this
   ·have ab:(0:Int)<(j:Int):=by omega
    rw[if_neg c0] at O hle;simp only[jQ] at hle;simp(disch:=omega)only[go_sem,C,D,E,J,L,M,ae,ab];intro q1 ah;dsimp only at ah;simp(disch:=omega)only[go_sem,C,D,E,J,L,M];refine(Us hG s ah aa (by rw[jC];omega) af).mono ?_;rintro _ H1 ⟨rfl,h1⟩;have g1:=h1.keep (Aa _ _ _) n9.symm;simp(disch:=omega)only[go_sem,C,D,E,J,L,M,g1];refine(hpc _ r _ _ aa (by rw[jC,jC,jQ];omega) h1).mono ?_;rintro _ H2 ⟨rfl,h2⟩;simp(disch:=omega)only[go_sem,C,D,E,J,L,M];refine⟨j+1,_,Rz.refl _,(V _ _ _).2 ?_,by omega⟩;simp(disch:=omega)only[go_sem,C,D,E,J,L,M,ac];(repeat' apply And.intro)<;>(try first | rfl | assumption | omega);have:=h2.drop ag;rw[O,<-jO,<-jO];exact this
  ·have:j=l.length:=by omega
   subst this;have Y: ¬(l.length:Int)<(l.length:Int):=by omega
   rw[List.take_length] at U;simp(disch:=omega)only[go_sem,C,D,E,J,L,M,Y];exact Fa.refl ⟨rfl,U⟩
end
section
variable {G:Nat->DVal}
set_option maxHeartbeats 4000000 in
theorem Bd8 (hG:GX G) (a:As) (E:a.c= []\/(a.c.length<=1000000000/\ ∃n,∀c∈a.c,Fs n c=true)) (hp: ∀y∈Fc a,WrC Tryz.prog G 187 [.agg (dEx y)] (Ai y)):WrC Tryz.prog G 262 [.agg (dAs a)] (Es a):=by
 intro B r ts H Y I hw;have he:=hp a.e (Pj a);have O:((dAs a).drop 1).take 9=dEx a.e:=by rw[Ax9,jE,jJ,List.take_of_length_le (by rw[Ad];omega)]
 refine Ab Tryz.func262 Tryz.call262 rfl (by kernel_rfl) ?_;simp(disch:=omega)only[go_sem,DVal.cells];intro C J;dsimp only at J;obtain⟨K,M⟩: ∃K',K'=upd H C (some (.cells (dAs a) 44)):=⟨_,rfl⟩;rw[<-M];have S:K C=some (.cells (dAs a) 44):=by rw[M];exact Aa _ _ _
 have U:WAt (upd B C (some (.cells (dAs a) 44))) r ts K:=by rw[M];exact hw.frame J _
 have V:r≠C:=hw.ne J;have W:B C=none:=(hw.lo J).1;have L:upd B C (some (.cells (dAs a) 44)) r=none:=by rw[Am _ _ _ _ V];exact Y
 by_cases D:a.c= []
 ·have ht:Es a=Ai a.e:=by rw[Jl,D];rfl
  have Z:a.c.length=0:=by rw[D];rfl
  have aa: ¬(0:Int)<((0:Nat):Int):=by omega
  rw[ht] at I⊢
  simp(disch:=omega)only[go_sem,S,Z,aa,O];refine(he _ r _ _ L I U).mono ?_;rintro _ H1 ⟨rfl,h1⟩;simp(disch:=omega)only[go_sem];exact Fa.refl ⟨rfl,h1.drop W⟩
 ·obtain⟨ab,n,ac⟩:=E.resolve_left D;have ae:0<a.c.length:=List.length_pos_iff.2 D;have ad:(0:Int)<(a.c.length:Int):=by omega
  have ht:Es a=Dm Gg (a.c.map Cs)++Ah By::Ai a.e:=by
   rw[Jl,if_neg];simpa using D
  rw[ht] at I⊢
  rw[jC,jA] at I;simp(disch:=omega)only[go_sem,S,ad];refine(Bd6 hG a.c Gg ab (fun c E=>As1 hG c (ac c E) fun y hy=>hp y (Sp E hy)) _ r _ _ L (by omega) U).mono ?_;rintro _ H1 ⟨rfl,h1⟩;simp(disch:=omega)only[go_sem];intro q1 X;dsimp only at X;simp(disch:=omega)only[go_sem];refine(Us hG By X L (by rw[jC];omega) h1).mono ?_;rintro _ H2 ⟨rfl,h2⟩;have g2:=h2.keep (Aa _ _ _) V.symm;simp(disch:=omega)only[go_sem,g2,O];refine(he _ r _ _ L (by rw[jC,jC,jQ];omega) h2).mono ?_;rintro _ H3 ⟨rfl,h3⟩;simp(disch:=omega)only[go_sem];refine Fa.refl ⟨rfl, ?_⟩;have:=h3.drop W;rw[jO,jO] at this;exact this
theorem Cj9 {a:As} (h:(a.c.isEmpty || Et a.c)=true):a.c= []\/(a.c.length<=1000000000/\ ∃n,∀c∈a.c,Fs n c=true):=by
 cases hc:a.c with
 | nil=>exact .inl rfl
 | cons c r=>
  rw[hc] at h
  cases r with
  | nil=>
   simp only[Et,List.isEmpty_cons,Bool.false_or,jF,decide_eq_true_eq] at h
   refine .inr ⟨by simp,1,fun d hd=> ?_⟩
   rw[List.mem_singleton] at hd
   subst hd
   rw[Fs,if_pos h.1,decide_eq_true_eq]
   match hl:d.l with
   | [x]=>rfl
   | []=>rw[hl] at h;cases h.2
   | _::_::_=>rw[hl] at h;cases h.2
  | cons d r=>simp [Et] at h
theorem Cx7 {a:As} (h:(a.c.isEmpty || Dr a.c)=true):a.c= []\/(a.c.length<=1000000000/\ ∃n,∀c∈a.c,Fs n c=true):=by
 cases hc:a.c with
 | nil=>exact .inl rfl
 | cons c r=>
  rw[hc] at h;simp only[List.isEmpty_cons,Bool.false_or,Dr,jF,decide_eq_true_eq,List.all_eq_true] at h;exact .inr ⟨by omega,_,h.2⟩
def ifT (x y z:Ex):Nat->List Tok
 | 0=> []
 | 1=>Ah Bf::Ah wIf::Ai x
 | 2=>Ah Bf::Ah wIf::(Ai x++Ah Pk::Ai y)
 | _=>Ah Bf::Ah wIf::(Ai x++Ah Pk::(Ai y++Ah Qc::Ai z))
set_option maxHeartbeats 8000000 in
theorem Dm2 (hG:GX G) (e:Ex) (hf:Bg e=true) (ih: ∀x∈parts e,WrC Tryz.prog G 187 [.agg (dEx x)] (Ai x)):WrC Tryz.prog G 187 [.agg (dEx e)] (Ai e):=by
 intro B r ts H hB D hw;have hfl:=Aw Ad e.l;refine Ab Tryz.func187 Tryz.call187 rfl (by kernel_rfl) ?_;simp(disch:=omega)only[go_sem,DVal.cells];intro r3 ai;dsimp only at ai;obtain⟨K,hK⟩: ∃K',K'=upd H r3 (some (.cells (dEx e) 27)):=⟨_,rfl⟩;rw[<-hK];have Z:K r3=some (.cells (dEx e) 27):=by rw[hK];exact Aa _ _ _
 have Y:WAt (upd B r3 (some (.cells (dEx e) 27))) r ts K:=by rw[hK];exact hw.frame ai _
 have M:r≠r3:=hw.ne ai;have aa:B r3=none:=(hw.lo ai).1;have J:upd B r3 (some (.cells (dEx e) 27)) r=none:=by rw[Am _ _ _ _ M];exact hB
 simp(disch:=omega)only[go_sem,Z];refine(Vl G _ e).mono ?_;rintro _ K1 ⟨rfl,rfl⟩;by_cases hk:e.kind=1
 ·have hnm:Bu e=false:=by cases h:Bu e with | false=>rfl | true=>exact(Ug (by omega) h).elim
  rw[Fc1 hk] at D⊢
  rw[hnm];simp(disch:=omega)only[go_sem,Z,hk];refine Ak (by kernel_rfl) (.take 0 (.take 1 (.take 2 (.take 3 (.take 4 (.take 5 (.take 6 (.take 7 (.go 8 [4] (.go 9 [] (.take 10 (.take 11 (.go 12 [] .done))))))))))))) (by kernel_rfl) ?_;obtain⟨v,hv⟩:=Y;have gr:=hv.keep (Aa _ _ _);simp(disch:=omega)only[go_sem,Z,gr];intro r6 ak;dsimp only at ak;have n6:r≠r6:=Af ak gr;have m6:=n6.symm;have aw:=hv.new ak (some (.cells (Cq (Cw2 e.n)) 31));simp(disch:=omega)only[go_sem,gr,n6,m6];refine Jw.append (m:=1) aw rfl (by rw[jQ] at D;omega) fun v2 H6 al=> ?_;have g6:=al.keep (Aa _ _ _);obtain⟨j1,j2⟩:=al.cell1;simp(disch:=omega)only[go_sem,g6,j1,j2];have h7:WAt (upd B r3 (some (.cells (dEx e) 27))) r (ts++ [Cw2 e.n]) (upd H6 r (some (.cells [v2] 241))):=by
   refine⟨v2, ?_⟩;have ao:=al.at (Aa _ _ _) (some (.cells [v2] 241));rw[Gr] at ao;rw[Hq,jC,jQ];exact ao
  exact Fa.refl ⟨rfl,h7.drop aa⟩
 have z1:=hk;clear hk;by_cases hk:e.kind=2
 ·have hnm:Bu e=false:=by cases h:Bu e with | false=>rfl | true=>exact(Ug (by omega) h).elim
  rw[Fc2 hk] at D⊢
  rw[hnm];simp(disch:=omega)only[go_sem,Z,hk];intro q1 E;dsimp only at E;simp(disch:=omega)only[go_sem,hk];refine(Us hG Fm E J (by(try simp only[jC,jA,jB,jK]);omega) Y).mono ?_;rintro _ H1 ⟨rfl,h1⟩;have g1:=h1.keep (Aa _ _ _) M.symm;simp(disch:=omega)only[go_sem];refine Fa.refl ⟨rfl, ?_⟩;have:=h1.drop aa
  (try simp only[jO,jI,jG] at this⊢)
  exact this
 have z2:=hk;clear hk;by_cases hk:e.kind=3
 ·have hnm:Bu e=true:=Uf (by omega);rw[Bo9 hk] at D⊢
  rw[hnm];simp(disch:=omega)only[go_sem,Z,hk];refine(Al2 G e.s _ r _ _ J D Y).mono ?_;rintro _ H1 ⟨rfl,h1⟩;simp(disch:=omega)only[go_sem];refine Fa.refl ⟨rfl, ?_⟩;have:=h1.drop aa
  (try simp only[jO,jI,jG] at this⊢)
  exact this
 have z3:=hk;clear hk;by_cases hk:e.kind=4
 ·obtain⟨⟨x,hx,_⟩,_⟩:=Dl8 (.inl hk) hf;have ht:Ai e=Ai x++ [Ah Jj,Dw e.s]:=by rw[Cb4 hk];unfold tE;rw[hx];rfl
  rw[ht,jC] at D;rw[ht];simp only[jA,jB] at D;have S:e.l.length=1:=by rw[hx];rfl
  have ab:=lx0 hx;have hnm:Bu e=true:=Uf (by omega);rw[hnm];simp(disch:=omega)only[go_sem,Z,hk,S,hfl,ab];refine(ih x (Bh (by rw[hx];simp)) _ r _ _ J (by omega) Y).mono ?_;rintro _ H1 ⟨rfl,h1⟩;have g1:=h1.keep (Aa _ _ _) M.symm;simp(disch:=omega)only[go_sem,g1,hk];intro q1 E;dsimp only at E;simp(disch:=omega)only[go_sem,hk];refine(Us hG Jj E J (by(try simp only[jC,jA,jB,jK]);omega) h1).mono ?_;rintro _ H2 ⟨rfl,h2⟩;have g2:=h2.keep (Aa _ _ _) M.symm;simp(disch:=omega)only[go_sem,g2];refine(Al2 G e.s _ r _ _ J (by(try simp only[jC,jA,jB,jK]);omega) h2).mono ?_;rintro _ H3 ⟨rfl,h3⟩;simp(disch:=omega)only[go_sem];refine Fa.refl ⟨rfl, ?_⟩;have:=h3.drop aa
  (try simp only[jO,jI,jG] at this⊢)
  exact this
 have z4:=hk;clear hk;by_cases hk:e.kind=5
 ·obtain⟨⟨x,hx,_⟩,_⟩:=ff5 hk hf;have ht:Ai e=Ai x++ [Ah Jj,Ah Zo]:=by rw[Du7 hk];unfold tE;rw[hx];rfl
  rw[ht,jC] at D;rw[ht];simp only[jA,jB] at D;have S:e.l.length=1:=by rw[hx];rfl
  have ab:=lx0 hx;have hnm:Bu e=true:=Uf (by omega);rw[hnm];simp(disch:=omega)only[go_sem,Z,hk,S,hfl,ab];refine(ih x (Bh (by rw[hx];simp)) _ r _ _ J (by omega) Y).mono ?_;rintro _ H1 ⟨rfl,h1⟩;have g1:=h1.keep (Aa _ _ _) M.symm;simp(disch:=omega)only[go_sem,g1,hk];intro q1 E;dsimp only at E;simp(disch:=omega)only[go_sem];refine(Gy2 hG Jj Zo E J (by(try simp only[jC,jA,jB,jK]);omega) h1).mono ?_;rintro _ H2 ⟨rfl,h2⟩;simp(disch:=omega)only[go_sem];refine Fa.refl ⟨rfl, ?_⟩;have:=h2.drop aa
  (try simp only[jO,jI,jG] at this⊢)
  exact this
 have z5:=hk;clear hk;by_cases hk:e.kind=6
 ·obtain⟨⟨x,hx,_⟩,_⟩:=Dl8 (.inr hk) hf;have ht:Ai e=Ai x++ [Ah Hz,Dw e.s]:=by rw[Du8 hk];unfold tE;rw[hx];rfl
  rw[ht,jC] at D;rw[ht];simp only[jA,jB] at D;have S:e.l.length=1:=by rw[hx];rfl
  have ab:=lx0 hx;have hnm:Bu e=true:=Uf (by omega);rw[hnm];simp(disch:=omega)only[go_sem,Z,hk,S,hfl,ab];refine(ih x (Bh (by rw[hx];simp)) _ r _ _ J (by omega) Y).mono ?_;rintro _ H1 ⟨rfl,h1⟩;have g1:=h1.keep (Aa _ _ _) M.symm;simp(disch:=omega)only[go_sem,g1,hk];intro q1 E;dsimp only at E;simp(disch:=omega)only[go_sem,hk];refine(Us hG Hz E J (by(try simp only[jC,jA,jB,jK]);omega) h1).mono ?_;rintro _ H2 ⟨rfl,h2⟩;have g2:=h2.keep (Aa _ _ _) M.symm;simp(disch:=omega)only[go_sem,g2];refine(Al2 G e.s _ r _ _ J (by(try simp only[jC,jA,jB,jK]);omega) h2).mono ?_;rintro _ H3 ⟨rfl,h3⟩;simp(disch:=omega)only[go_sem];refine Fa.refl ⟨rfl, ?_⟩;have:=h3.drop aa
  (try simp only[jO,jI,jG] at this⊢)
  exact this
 have z6:=hk;clear hk;by_cases hk:e.kind=7
 ·obtain⟨⟨x,hx,_⟩,ha,_⟩:=ff7 hk hf;have ht:Ai e=Ai x++Ah Bf::(taE e++ [Ah Bv]):=by rw[Du9 hk];unfold tE;rw[hx];rfl
  rw[ht,jC,jA,jC] at D;rw[ht];simp only[jA,jB,taE] at D;unfold taE;have S:e.l.length=1:=by rw[hx];rfl
  rw[Of,jF,jF,jF,decide_eq_true_eq,decide_eq_true_eq,List.all_eq_true] at ha;have ab:=lx0 hx;have hnm:Bu e=true:=Uf (by omega);rw[hnm];simp(disch:=omega)only[go_sem,Z,hk,S,hfl,ab];refine(ih x (Bh (by rw[hx];simp)) _ r _ _ J (by omega) Y).mono ?_;rintro _ H1 ⟨rfl,h1⟩;have g1:=h1.keep (Aa _ _ _) M.symm;simp(disch:=omega)only[go_sem,g1,hk];intro q1 E;dsimp only at E;simp(disch:=omega)only[go_sem,hk];refine(Us hG Bf E J (by(try simp only[jC,jA,jB,jK]);omega) h1).mono ?_;rintro _ H2 ⟨rfl,h2⟩;have g2:=h2.keep (Aa _ _ _) M.symm;simp(disch:=omega)only[go_sem,g2];refine(Bd7 hG e.a Ee (by omega) (fun a af=>Bd8 hG a (Cj9 (ha.2 a af)) fun y hy=>ih y (Md af hy)) _ r _ _ J (by(try simp only[jC,jA,jB,jK]);omega) h2).mono ?_;rintro _ H3 ⟨rfl,h3⟩;simp(disch:=omega)only[go_sem];intro q2 ag;dsimp only at ag;simp(disch:=omega)only[go_sem,hk];refine(Us hG Bv ag J (by(try simp only[jC,jA,jB,jK]);omega) h3).mono ?_;rintro _ H4 ⟨rfl,h4⟩;have g4:=h4.keep (Aa _ _ _) M.symm;simp(disch:=omega)only[go_sem];refine Fa.refl ⟨rfl, ?_⟩;have:=h4.drop aa
  (try simp only[jO,jI,jG] at this⊢)
  exact this
 have z7:=hk;clear hk;by_cases hk:e.kind=8
 ·obtain⟨⟨x,y,hx,_⟩,_⟩:=ff8 hk hf;have ht:Ai e=Ai x++Ah Hz::Wb (!Nd y.kind) (Ai y):=by rw[Dv0 hk];unfold tE;rw[hx];rfl
  rw[ht,jC,jA] at D;rw[ht];have S:e.l.length=2:=by rw[hx];rfl
  have ah:=lx1 hx;have am:(e.l.flatMap dEx)[9]? =some (.int .u8 y.kind):=by
   rw[hx,List.flatMap_cons,List.flatMap_cons,Pm x,Pm y];rfl
  have a8:=Pp y;have ab:=lx0 hx;have hnm:Bu e=true:=Uf (by omega);rw[hnm];simp(disch:=omega)only[go_sem,Z,hk,S,hfl,ab];refine(ih x (Bh (by rw[hx];simp)) _ r _ _ J (by omega) Y).mono ?_;rintro _ H1 ⟨rfl,h1⟩;have g1:=h1.keep (Aa _ _ _) M.symm;simp(disch:=omega)only[go_sem,g1,hk];by_cases b9:y.kind=9
  ·have hb:Wb (!Nd y.kind) (Ai y)=Ar y 0:=by rw[b9,Ar,decide_eq_false (by omega)];rfl
   rw[hb] at D⊢
   simp(disch:=omega)only[go_sem,g1,S,hfl,am,b9];intro q1 E;dsimp only at E;simp(disch:=omega)only[go_sem,hk];refine(Us hG Hz E J (by(try simp only[jC,jA,jB,jK]);omega) h1).mono ?_;rintro _ H2 ⟨rfl,h2⟩;have g2:=h2.keep (Aa _ _ _) M.symm;simp(disch:=omega)only[go_sem,g2,S,hfl,ah];refine(Dt hG y 0 (ih y (Bh (by rw[hx];simp))) _ r _ _ J (by(try simp only[jC,jA,jB,jK]);omega) h2).mono ?_;rintro _ H3 ⟨rfl,h3⟩;simp(disch:=omega)only[go_sem];refine Fa.refl ⟨rfl, ?_⟩;have:=h3.drop aa
   (try simp only[jO,jI,jG] at this⊢)
   exact this
  ·by_cases aj:y.kind=10
   ·have hb:Wb (!Nd y.kind) (Ai y)=Ar y 0:=by rw[aj,Ar,decide_eq_false (by omega)];rfl
    rw[hb] at D⊢
    simp(disch:=omega)only[go_sem,g1,S,hfl,am,aj];intro q1 E;dsimp only at E;simp(disch:=omega)only[go_sem,hk];refine(Us hG Hz E J (by(try simp only[jC,jA,jB,jK]);omega) h1).mono ?_;rintro _ H2 ⟨rfl,h2⟩;have g2:=h2.keep (Aa _ _ _) M.symm;simp(disch:=omega)only[go_sem,g2,S,hfl,ah];refine(Dt hG y 0 (ih y (Bh (by rw[hx];simp))) _ r _ _ J (by(try simp only[jC,jA,jB,jK]);omega) h2).mono ?_;rintro _ H3 ⟨rfl,h3⟩;simp(disch:=omega)only[go_sem];refine Fa.refl ⟨rfl, ?_⟩;have:=h3.drop aa
    (try simp only[jO,jI,jG] at this⊢)
    exact this
   ·have hb:Wb (!Nd y.kind) (Ai y)=Ar y 6:=by rw[Ar,decide_eq_true (by omega),Nd,decide_eq_false b9,decide_eq_false aj];rfl
    rw[hb] at D⊢
    simp(disch:=omega)only[go_sem,g1,S,hfl,am,b9,aj];intro q1 E;dsimp only at E;simp(disch:=omega)only[go_sem,hk];refine(Us hG Hz E J (by(try simp only[jC,jA,jB,jK]);omega) h1).mono ?_;rintro _ H2 ⟨rfl,h2⟩;have g2:=h2.keep (Aa _ _ _) M.symm;simp(disch:=omega)only[go_sem,g2,S,hfl,ah];refine(Dt hG y 6 (ih y (Bh (by rw[hx];simp))) _ r _ _ J (by(try simp only[jC,jA,jB,jK]);omega) h2).mono ?_;rintro _ H3 ⟨rfl,h3⟩;simp(disch:=omega)only[go_sem];refine Fa.refl ⟨rfl, ?_⟩;have:=h3.drop aa
    (try simp only[jO,jI,jG] at this⊢)
    exact this
 have z8:=hk;clear hk;by_cases hk:e.kind=9
 ·obtain⟨hx,ha,_⟩:=ff9 hk hf;have ht:Ai e=Ah Bf::(taE e++ [Ah Bv]):=Cw4 hk;rw[ht,jA,jC] at D;rw[ht];simp only[jA,jB,taE] at D;unfold taE;have hnm:Bu e=false:=by cases h:Bu e with | false=>rfl | true=>exact(Ug (by omega) h).elim
  rw[hnm];rw[Ji] at ha;simp only[jF,decide_eq_true_eq,Bool.not_eq_true'] at ha;simp(disch:=omega)only[go_sem,Z,hk];intro q1 E;dsimp only at E;simp(disch:=omega)only[go_sem,hk];refine(Us hG Bf E J (by(try simp only[jC,jA,jB,jK]);omega) Y).mono ?_;rintro _ H2 ⟨rfl,h2⟩;have g2:=h2.keep (Aa _ _ _) M.symm;simp(disch:=omega)only[go_sem,g2];refine(Bd7 hG e.a Ee (by omega) (fun a af=>Bd8 hG a (Cx7 (Sr ha.2 a af)) fun y hy=>ih y (Md af hy)) _ r _ _ J (by(try simp only[jC,jA,jB,jK]);omega) h2).mono ?_;rintro _ H3 ⟨rfl,h3⟩;simp(disch:=omega)only[go_sem];intro q2 ag;dsimp only at ag;simp(disch:=omega)only[go_sem,hk];refine(Us hG Bv ag J (by(try simp only[jC,jA,jB,jK]);omega) h3).mono ?_;rintro _ H4 ⟨rfl,h4⟩;have g4:=h4.keep (Aa _ _ _) M.symm;simp(disch:=omega)only[go_sem];refine Fa.refl ⟨rfl, ?_⟩;have:=h4.drop aa
  (try simp only[jO,jI,jG] at this⊢)
  exact this
 have z9:=hk;clear hk;by_cases hk:e.kind=10
 ·obtain⟨⟨x,y,z,hx⟩,_⟩:=Gl9 hk hf;have ht:Ai e=ifT x y z 3++ [Ah Bv]:=by rw[Bp0 hk];unfold tE;rw[hx];simp [ifT]
  have ad:(ifT x y z 1).length<=(ifT x y z 3).length/\(ifT x y z 2).length<=(ifT x y z 3).length:=by
   simp only[ifT,jA,jC];omega
  rw[ht,jC,jQ] at D;rw[ht];have S:e.l.length=3:=by rw[hx];rfl
  have ax:=lx0 hx;have ah:=lx1 hx;have ay:=lx2 hx;have hnm:Bu e=false:=by cases h:Bu e with | false=>rfl | true=>exact(Ug (by omega) h).elim
  rw[hnm];simp(disch:=omega)only[go_sem,Z,hk];intro q0 hq0;dsimp only at hq0;obtain⟨L,hL⟩: ∃K',K'=upd K1 q0 (some (.cells [.str [105,102], .str [116,104,101,110], .str [101,108,115,101]] 9)):=⟨_,rfl⟩;rw[<-hL];have ap:WAt (upd (upd B r3 (some (.cells (dEx e) 27))) q0 (some (.cells [.str [105,102], .str [116,104,101,110], .str [101,108,115,101]] 9))) r ts L:=by rw[hL];exact Y.frame hq0 _
  have n0:r≠q0:=Y.ne hq0;have a0:=(Y.lo hq0).1;have a1:r3≠q0:=Af hq0 Z;obtain⟨C,hC⟩: ∃C,C=upd (upd B r3 (some (.cells (dEx e) 27))) q0 (some (.cells [.str [105,102], .str [116,104,101,110], .str [101,108,115,101]] 9)):=⟨_,rfl⟩;rw[<-hC] at ap;have ac:C r=none:=by rw[hC,Am _ _ _ _ n0];exact J
  have c3:C r3=some (.cells (dEx e) 27):=by rw[hC];exact Aj (Aa _ _ _) a1
  have c0:C q0=some (.cells [.str [105,102], .str [116,104,101,110], .str [101,108,115,101]] 9):=by rw[hC];exact Aa _ _ _
  simp(disch:=omega)only[go_sem];obtain⟨I,hI⟩: ∃I:Nat->(Nat->DVal)->Ac->Prop,∀j env heap,I j env heap↔(env 0= .optr r 0/\env 3= .optr r3 0/\env 111= .oslice 1 q0 0 3 3/\env 112=dI 3/\env 113=dI j/\j<=3/\WAt C r (ts++ifT x y z j) heap):=⟨_,fun _ _ _=>Iff.rfl⟩;refine Dr7.run I (fun j=>3-j) 0 ((hI _ _ _).2 ?_) ?_
  ·simp(disch:=omega)only[go_sem];(repeat' apply And.intro)<;>(try first | rfl | assumption | omega);simpa [ifT] using ap
  ·intro j env heap hi;obtain⟨O,U,V,W,X,hj,ae⟩:=(hI _ _ _).1 hi;have g3:=ae.keep c3 M.symm;have g0:=ae.keep c0 n0.symm;have a2:j=0\/j=1\/j=2\/j=3:=by omega
   have w1:IntKind.i64.wrap (0+1)=1:=by decide
   have w2:IntKind.i64.wrap (1+1)=2:=by decide
   have w3:IntKind.i64.wrap (2+1)=3:=by decide
   rcases a2 with rfl | rfl | rfl | rfl
   ·have z0:((0:Nat):Int)=0:=rfl;simp(disch:=omega)only[go_sem,O,U,V,W,X,g0,z0];intro p1 hp1;dsimp only at hp1;simp(disch:=omega)only[go_sem,O,U,V,W,X];refine(Us hG Bf hp1 ac (by simp only[ifT,jH];omega) ae).mono ?_;rintro _ H1 ⟨rfl,h1⟩;have f1:=h1.keep c3 M.symm;simp(disch:=omega)only[go_sem,O,U,V,W,X,f1];intro p2 hp2;dsimp only at hp2;simp(disch:=omega)only[go_sem,O,U,V,W,X];refine(Us hG wIf hp2 ac (by simp only[ifT,jH,jC,jA,jB] at ad D⊢;omega) h1).mono ?_;rintro _ H2 ⟨rfl,h2⟩;have f2:=h2.keep c3 M.symm;simp(disch:=omega)only[go_sem,O,U,V,W,X,f2,S,hfl,ax];refine(ih x (Bh (by rw[hx];simp)) _ r _ _ ac (by simp only[ifT,jH,jC,jA,jB] at ad D⊢;omega) h2).mono ?_;rintro _ H4 ⟨rfl,h4⟩;simp(disch:=omega)only[go_sem,O,U,V,W,X];refine⟨1,_,Rz.refl _,(hI _ _ _).2 ?_,by omega⟩;simp(disch:=omega)only[go_sem,O,U,V,W,X,w1];(repeat' apply And.intro)<;>(try first | rfl | assumption | omega);simpa [ifT] using h4
   ·have z0:((1:Nat):Int)=1:=rfl;simp(disch:=omega)only[go_sem,O,U,V,W,X,g0,z0];intro p2 hp2;dsimp only at hp2;simp(disch:=omega)only[go_sem,O,U,V,W,X];refine(Us hG Pk hp2 ac (by simp only[ifT,jH,jC,jA,jB] at ad D⊢;omega) ae).mono ?_;rintro _ H2 ⟨rfl,h2⟩;have f2:=h2.keep c3 M.symm;simp(disch:=omega)only[go_sem,O,U,V,W,X,f2,S,hfl,ah];refine(ih y (Bh (by rw[hx];simp)) _ r _ _ ac (by simp only[ifT,jH,jC,jA,jB] at ad D⊢;omega) h2).mono ?_;rintro _ H4 ⟨rfl,h4⟩;simp(disch:=omega)only[go_sem,O,U,V,W,X];refine⟨2,_,Rz.refl _,(hI _ _ _).2 ?_,by omega⟩;simp(disch:=omega)only[go_sem,O,U,V,W,X,w2];(repeat' apply And.intro)<;>(try first | rfl | assumption | omega);simpa [ifT] using h4
   ·have z0:((2:Nat):Int)=2:=rfl;simp(disch:=omega)only[go_sem,O,U,V,W,X,g0,z0];intro p2 hp2;dsimp only at hp2;simp(disch:=omega)only[go_sem,O,U,V,W,X];refine(Us hG Qc hp2 ac (by simp only[ifT,jH,jC,jA,jB] at ad D⊢;omega) ae).mono ?_;rintro _ H2 ⟨rfl,h2⟩;have f2:=h2.keep c3 M.symm;simp(disch:=omega)only[go_sem,O,U,V,W,X,f2,S,hfl,ay];refine(ih z (Bh (by rw[hx];simp)) _ r _ _ ac (by simp only[ifT,jH,jC,jA,jB] at ad D⊢;omega) h2).mono ?_;rintro _ H4 ⟨rfl,h4⟩;simp(disch:=omega)only[go_sem,O,U,V,W,X];refine⟨3,_,Rz.refl _,(hI _ _ _).2 ?_,by omega⟩;simp(disch:=omega)only[go_sem,O,U,V,W,X,w3];(repeat' apply And.intro)<;>(try first | rfl | assumption | omega);simpa [ifT] using h4
   ·have z0:((3:Nat):Int)=3:=rfl;simp(disch:=omega)only[go_sem,O,U,V,W,X,g0,z0];intro p2 hp2;dsimp only at hp2;simp(disch:=omega)only[go_sem,O,U,V,W,X];refine(Us hG Bv hp2 ac (by simp only[jC] at D⊢;omega) ae).mono ?_;rintro _ H2 ⟨rfl,h2⟩;simp(disch:=omega)only[go_sem,O];refine Fa.refl ⟨rfl, ?_⟩;rw[hC] at h2;have:=(h2.drop a0).drop aa;rw[jO] at this;exact this
 have a3:=hk;clear hk;by_cases hk:e.kind=11
 ·obtain⟨⟨x,hx⟩,⟨o,ho,a4⟩,_⟩:=Gm0 hk hf;have ht:Ai e=(Ay o).map Ah++Ar x (Jx e):=by rw[Dl0 hk,ho,jD];unfold pE tE;rw[hx];rfl
  rw[ht] at D⊢
  have hnm:Bu e=false:=by cases h:Bu e with | false=>rfl | true=>exact(Ug (by omega) h).elim
  rw[hnm];simp(disch:=omega)only[go_sem,Z,hk];refine(Dm0 hG e x o hx ho (by omega) (ih x (Bh (by rw[hx];simp))) _ r _ _ J D Y).mono ?_;rintro _ H1 ⟨rfl,h1⟩;simp(disch:=omega)only[go_sem];exact Fa.refl ⟨rfl,h1.drop aa⟩
 have a5:=hk;clear hk;by_cases hk:e.kind=12
 ·obtain⟨⟨x,y,hx⟩,⟨o,ho,a4⟩,_⟩:=Gm1 hk hf;have ht:Ai e=Ar x (Ei e)++((Ay o).map Ah++Ar y (Fe e)):=by rw[Dl1 hk,ho,jD];unfold pE tE;rw[hx];rfl
  rw[ht] at D⊢
  have hnm:Bu e=false:=by cases h:Bu e with | false=>rfl | true=>exact(Ug (by omega) h).elim
  rw[hnm];simp(disch:=omega)only[go_sem,Z,hk];refine(Dm1 hG e x y o hx ho (by omega) (ih x (Bh (by rw[hx];simp))) (ih y (Bh (by rw[hx];simp))) _ r _ _ J D Y).mono ?_;rintro _ H1 ⟨rfl,h1⟩;simp(disch:=omega)only[go_sem];exact Fa.refl ⟨rfl,h1.drop aa⟩
 have a6:=hk;clear hk;have a7:e.kind=13\/e.kind=14:=by
  by_cases h:e.kind=13\/e.kind=14
  ·exact h
  ·exfalso;have:Bg e=false:=by
    unfold Bg;rw[if_neg z1,if_neg z2,if_neg z3,if_neg (by omega),if_neg z5,if_neg z7,if_neg z8,if_neg z9,if_neg a3,if_neg a5,if_neg a6,if_neg h]
   rw[this] at hf;cases hf
 obtain⟨aq,_⟩:=Fe4 a7 hf;have hx: ∃x,(∃y z,e.l= [x,y,z])\/ ∃y,e.l= [x,y]:=by
  rcases aq with⟨x,y,z,hx⟩ | ⟨x,y,hx,_⟩
  ·exact⟨x, .inl ⟨y,z,hx⟩⟩
  ·exact⟨x, .inr ⟨y,hx⟩⟩
 clear aq;obtain⟨x,hx⟩:=hx;have g0:e.l.getD 0 ex0=x/\0<e.l.length:=by rcases hx with⟨y,z,hx⟩ | ⟨y,hx⟩<;>(rw[hx];exact⟨rfl,by simp⟩)
 have ar:pE e 0 2=Ar x 2:=by rw[Gd4 g0.2,g0.1]
 have au: ∀y∈e.l,WrC Tryz.prog G 187 [.agg (dEx y)] (Ai y):=fun y hy=>ih y (Bh hy);have hnm:Bu e=false:=by cases h:Bu e with | false=>rfl | true=>exact(Ug (by omega) h).elim
 rw[hnm];by_cases hk:e.kind=13
 ·have ht:Ai e=Ar x 2++([wIn].map Ah++Jn e):=by rw[Ci9 hk,ar];rfl
  rw[ht] at D⊢
  simp(disch:=omega)only[go_sem,Z,hk];intro q1 E;dsimp only at E;simp(disch:=omega)only[go_sem];refine Ag.fzA q1 E ?_;simp only[fzs,fz,if_neg (Y.ne E),if_pos,Ci2];refine(As0 hG e x [wIn] hx au _ r _ _ J D Y).mono ?_;rintro _ H1 ⟨rfl,h1⟩;simp(disch:=omega)only[go_sem];exact Fa.refl ⟨rfl,h1.drop aa⟩
 ·have av:e.kind=14:=by omega
  have ht:Ai e=Ar x 2++([Vz,wIn].map Ah++Jn e):=by rw[Cj0 av,ar];rfl
  rw[ht] at D⊢
  simp(disch:=omega)only[go_sem,Z,av];intro q1 E;dsimp only at E;simp(disch:=omega)only[go_sem];refine Ag.fzA q1 E ?_;simp only[fzs,fz,if_neg (Y.ne E),if_pos,Ci2];refine(As0 hG e x [Vz,wIn] hx au _ r _ _ J D Y).mono ?_;rintro _ H1 ⟨rfl,h1⟩;simp(disch:=omega)only[go_sem];exact Fa.refl ⟨rfl,h1.drop aa⟩
end
end Go.Dl
-- Si
namespace Go.Dl
open Go
set_option maxRecDepth 10000
def wt (l:List Ex):Nat:=(l.map fun x=>(Ai x).length+7).sum
theorem Ag2 (l m:List Ex):wt (l++m)=wt l+wt m:=by simp [wt]
theorem Gc (x:Ex) (l:List Ex):wt (x::l)=(Ai x).length+7+wt l:=by simp [wt]
theorem Gm4:wt []=0:=rfl
theorem Mx (x:Ex) (C:Int):(Ar x C).length<=(Ai x).length+2:=by
 rw[Ar,Ub];split<;>omega
theorem Cc4 {n:Nat} {c:Ch} (h:Fs n c=true):(Cs c).length+1<=wt c.l+if c.kind=3 then 2 else 0:=by
 unfold Fs at h;by_cases C:c.kind=1
 ·rw[if_pos C,decide_eq_true_eq] at h;obtain⟨x,hx⟩:=Fe3 h;rw[Jm,if_pos C,hx,Gc];show(Ai x).length+1<=_;omega
 ·rw[if_neg C] at h;by_cases D:c.kind=2
  ·rw[if_pos D,decide_eq_true_eq] at h;obtain⟨x,y,hx⟩:=Ek4 h;rw[Jm,if_neg C,if_pos D,hx,Gc,Gc];show(Ar x 2++Ah Ef::Ar y 2).length+1<=_;have:=Mx x 2;have:=Mx y 2;rw[jC,jA];omega
  ·rw[if_neg D] at h;simp only[jF,decide_eq_true_eq] at h;rw[Jm,if_neg C,if_neg D,if_pos h.1.1];show 1+1<=_;omega
theorem Ba4 (t:List Tok) (C:List (List Tok)):Yg (t::C)=t.length+1+Yg C:=by simp [Yg]
theorem Bd9 {n:Nat} (C:n≠1): ∀(l:List Ch),l.length<=n->(∀c∈l,Fs n c=true)->Yg (l.map Cs)<=wt (l.flatMap Ch.l)
 | [],_,_=>Nat.zero_le _
 | c::r,hl,h=>by
  have ih:=Bd9 C r (by rw[jA] at hl;omega) fun d hd=>h d (by simp [hd]);have hc:=h c (by simp);have h1:=Cc4 hc;rw[if_neg] at h1
  ·rw[jN,Ba4,List.flatMap_cons,Ag2];omega
  ·intro D;unfold Fs at hc;rw[if_neg (by omega),if_neg (by omega)] at hc;simp only[jF,decide_eq_true_eq,jA] at hc hl;omega
theorem Cc5 {l:List Ch} (h:Dr l=true):(Dm Gg (l.map Cs)).length<=wt (l.flatMap Ch.l)+2:=by
 simp only[Dr,jF,decide_eq_true_eq,List.all_eq_true] at h
 have h0:=Bp5 Gg (l.map Cs) (by intro e;rw[List.map_eq_nil_iff] at e;rw[e] at h;simp at h)
 by_cases hn:l.length=1
 ·match l,hn with
  | [c],_=>
   have h1:=Cc4 (h.2 c (by simp))
   have h2:(if c.kind=3 then 2 else 0)<=2:=by split<;>omega
   rw[List.map_singleton,Ba4] at h0
   rw[List.map_singleton,List.flatMap_singleton]
   simp [Yg] at h0
   omega
 ·have:=Bd9 hn l (Nat.le_refl _) h.2
  omega
theorem Bx6 {l:List Ch} (h:Et l=true):Dr l=true:=by
 match l with
 | [c]=>
  simp only[Et,jF,decide_eq_true_eq] at h
  simp only[Dr,jQ,List.all_cons,List.all_nil,Bool.and_true,Fs,if_pos h.1]
  match hl:c.l with
  | [x]=>rfl
  | []=>rw[hl] at h;cases h.2
  | _::_::_=>rw[hl] at h;cases h.2
 | []=>cases h
 | _::_::_=>cases h
theorem Ek7 {a:As} (h:(a.c.isEmpty || Dr a.c)=true):(Es a).length+1<=wt (Fc a):=by
 rw[Fc,Ag2,Gc,Gm4];by_cases C:a.c= []
 ·rw[Jl,C];show(Ai a.e).length+1<=_;omega
 ·have hr:Dr a.c=true:=by
   rw[Bool.or_eq_true] at h;rcases h with h | h
   ·exact absurd (List.isEmpty_iff.1 h) C
   ·exact h
  have h1:=Cc5 hr;rw[Jl,if_neg (by simpa using C),jC,jA];omega
theorem Br6: ∀(l:List As),(∀a∈l,(a.c.isEmpty || Dr a.c)=true)->Yg (l.map Es)<=wt (l.flatMap Fc)
 | [],_=>Nat.zero_le _
 | a::r,h=>by
  have ih:=Br6 r fun d hd=>h d (by simp [hd]);have h1:=Ek7 (h a (by simp));rw[jN,Ba4,List.flatMap_cons,Ag2];omega
theorem Dm3 {l:List As} (h:Of l=true): ∀a∈l,(a.c.isEmpty || Dr a.c)=true:=fun a ha=>by
 rw[Of,jF,List.all_eq_true] at h;have:=h.2 a ha;rw[Bool.or_eq_true] at this⊢
 rcases this with h1 | h1
 ·exact .inl h1
 ·exact .inr (Bx6 h1)
theorem Dw1 {l:List As} (h: ∀a∈l,(a.c.isEmpty || Dr a.c)=true):(Dm Ee (l.map Es)).length<=wt (l.flatMap Fc):=by
 have h1:=Br6 l h;rw[Ac2];unfold Yg at h1;unfold Fc5;omega
theorem Cc6 (o:Nat):(Ay o).length<=2:=by
 rw[Ay,List.getD];by_cases h:o<22
 ·have: ∀i:Fin 22,((Dj6[i.1]?).getD []).length<=2:=by decide
  exact this ⟨o,h⟩
 ·rw[List.getElem?_eq_none (by have:Dj6.length=22:=rfl;omega)];decide
theorem Dm4 {e:Ex} (hf:Bg e=true):(Ai e).length<=10+wt (parts e):=by
 have hpl:wt (parts e)=wt e.l+wt (e.a.flatMap Fc):=Ag2 _ _;by_cases k1:e.kind=1
 ·rw[Fc1 k1];show 1<=_;omega
 by_cases O:e.kind=2
 ·rw[Fc2 O];show 1<=_;omega
 by_cases S:e.kind=3
 ·rw[Bo9 S];show 1<=_;omega
 by_cases U:e.kind=4
 ·obtain⟨⟨x,hx,_⟩,_⟩:=Dl8 (.inl U) hf;rw[Cb4 U,hpl,hx,Gc];unfold tE;rw[hx,jC];show(Ai x).length+2<=_;omega
 by_cases C:e.kind=5
 ·obtain⟨⟨x,hx,_⟩,_⟩:=ff5 C hf;rw[Du7 C,hpl,hx,Gc];unfold tE;rw[hx,jC];show(Ai x).length+2<=_;omega
 by_cases V:e.kind=6
 ·obtain⟨⟨x,hx,_⟩,_⟩:=Dl8 (.inr V) hf;rw[Du8 V,hpl,hx,Gc];unfold tE;rw[hx,jC];show(Ai x).length+2<=_;omega
 by_cases D:e.kind=7
 ·obtain⟨⟨x,hx,_⟩,ha,_⟩:=ff7 D hf;have h1:=Dw1 (Dm3 ha);rw[Du9 D,hpl,hx,Gc];unfold tE taE;rw[hx,jC,jA,jC];show(Ai x).length+(_+1+1)<=_;omega
 by_cases E:e.kind=8
 ·obtain⟨⟨x,y,hx,_⟩,_⟩:=ff8 E hf;rw[Dv0 E,hpl,hx,Gc,Gc];unfold tE;rw[hx,jC,jA,Ub];show(Ai x).length+((Ai y).length+_+1)<=_;split<;>omega
 by_cases I:e.kind=9
 ·obtain⟨hx,ha,_⟩:=ff9 I hf;rw[Ji,jF] at ha;have h1:=Dw1 (fun a hm=>Sr ha.2 a hm);rw[Cw4 I,hpl,jA,jC];unfold taE;show _+1+1<=_;omega
 by_cases J:e.kind=10
 ·obtain⟨⟨x,y,z,hx⟩,_⟩:=Gl9 J hf;rw[Bp0 J,hpl,hx,Gc,Gc,Gc];unfold tE;rw[hx];simp only[jC,jA];show(Ai x).length+((Ai y).length+((Ai z).length+_+1)+1)+1+1<=_;simp only[jB];omega
 by_cases L:e.kind=11
 ·obtain⟨⟨x,hx⟩,⟨o,ho,_⟩,_⟩:=Gm0 L hf;have:=Cc6 e.oper.toNat;have:=Mx x (Jx e);have hp:pE e 0 (Jx e)=Ar x (Jx e):=by unfold pE tE;rw[hx];rfl
  rw[Dl0 L,hpl,hx,Gc,hp,jC,jK];omega
 by_cases M:e.kind=12
 ·obtain⟨⟨x,y,hx⟩,_⟩:=Gm1 M hf;have:=Cc6 e.oper.toNat;have:=Mx x (Ei e);have:=Mx y (Fe e);have hp:pE e 0 (Ei e)=Ar x (Ei e):=by unfold pE tE;rw[hx];rfl
  have hq:pE e 1 (Fe e)=Ar y (Fe e):=by unfold pE tE;rw[hx];rfl
  rw[Dl1 M,hpl,hx,Gc,Gc,hp,hq,jC,jC,jK];omega
 by_cases h:e.kind=13\/e.kind=14
 ·obtain⟨W,_⟩:=Fe4 h hf;have X:(pE e 0 2).length+(Jn e).length+3<=10+wt (parts e):=by
   rcases W with⟨x,y,z,hx⟩ | ⟨x,y,hx,_⟩
   ·have:=Mx x 2;have:=Mx y 2;have:=Mx z 2;have hp:pE e 0 2=Ar x 2:=by unfold pE tE;rw[hx];rfl
    have hq:Jn e=Ar y 2++Ah Ef::Ar z 2:=by unfold Jn pE tE;rw[hx];rfl
    rw[hp,hq,hpl,hx,Gc,Gc,Gc,jC,jA];omega
   ·have:=Mx x 2;have hp:pE e 0 2=Ar x 2:=by unfold pE tE;rw[hx];rfl
    have hq:Jn e=Ai y:=by unfold Jn pE tE;rw[hx];rfl
    rw[hp,hq,hpl,hx,Gc,Gc];omega
  rcases h with k | k
  ·rw[Ci9 k,jC,jA];omega
  ·rw[Cj0 k,jC,jA,jA];omega
 exfalso;have:Bg e=false:=by
  unfold Bg;rw[if_neg k1,if_neg O,if_neg S,if_neg (by omega),if_neg C,if_neg D,if_neg E,if_neg I,if_neg J,if_neg L,if_neg M,if_neg h]
 rw[this] at hf;cases hf
theorem Gu6 {l:List Ex} (h: ∀x∈l,(Ai x).length+7<=17*Hx x):wt l<=17*Py l:=by
 induction l with
 | nil=>exact Nat.zero_le _
 | cons x l ih=>
  have h1:=h x (by simp);have h2:=ih fun y C=>h y (by simp [C]);rw[Gc,Py,jN,List.sum_cons];unfold Py at h2;omega
theorem Ek8 (e:Ex): ∀d,Fd d e=true->(Ai e).length+7<=17*Hx e:=by
 refine Ex.ind (p:=fun e=> ∀d,Fd d e=true->(Ai e).length+7<=17*Hx e) (fun e ih d hv=> ?_) e;obtain⟨hf,hp⟩:=Jp hv;have h1:=Dm4 hf;have h2:=Gu6 fun x hx=>ih x hx _ (hp x hx);rw[Tb e];omega
theorem Rj {e:Ex} (h:Ci e=true):(Ai e).length<=5000:=by
 rw[Ci,jF,decide_eq_true_eq] at h;have:=Ek8 e 1 h.1;omega
theorem Gm5 {l:List Ex} (h: ∀x∈l,Ci x=true):wt l<=5007*l.length:=by
 induction l with
 | nil=>exact Nat.zero_le _
 | cons x l ih=>
  have h1:=Rj (h x (by simp));have h2:=ih fun y C=>h y (by simp [C]);rw[Gc,jA];omega
theorem Cc7 {l:List Ch} (h:Kq l=true):(Dm Gg (l.map Cs)).length<=1000000:=by
 rw[Kq,jF,List.all_eq_true] at h;have h1:=Cc5 h.1;have h2:=h.1;simp only[Dr,jF,decide_eq_true_eq,List.all_eq_true] at h2;have h3: ∀x∈l.flatMap Ch.l,Ci x=true:=fun x hx=>by
  obtain⟨c,hc,hx⟩:=List.mem_flatMap.1 hx;exact List.all_eq_true.1 (h.2 c hc) x hx
 have h4:=Gm5 h3;have h5: ∀c∈l,c.l.length<=2:=fun c hc=>by
  have:=h2.2 c hc;unfold Fs at this;split at this
  ·rw[decide_eq_true_eq] at this;omega
  ·split at this
   ·rw[decide_eq_true_eq] at this;omega
   ·simp only[jF,decide_eq_true_eq] at this;omega
 have h6: ∀m:List Ch,(∀c∈m,c.l.length<=2)->(m.flatMap Ch.l).length<=2*m.length:=fun m=>by
  induction m with
  | nil=>intro _;exact Nat.zero_le _
  | cons c m ih=>
   intro hm;have:=hm c (by simp);have:=ih fun d hd=>hm d (by simp [hd]);rw[List.flatMap_cons,jC,jA];omega
 have h7:=h6 l h5;omega
def As2 (e:Ex):List Tok×Int:=if Ci e then(Ai e,0) else([],2)
def Mn (l:List Ch):List Tok×Int:=if Kq l then(Dm Gg (l.map Cs),0) else([],2)
end Go.Dl
-- V5
namespace Go.Dl
open Go Go.Proofs
set_option maxRecDepth 100000
section
variable {G:Nat->DVal}
theorem Cc8 (hG:GX G) (e:Ex): ∀d,Fd d e=true->WrC Tryz.prog G 187 [.agg (dEx e)] (Ai e):=by
 refine Ex.ind (p:=fun e=> ∀d,Fd d e=true->WrC Tryz.prog G 187 [.agg (dEx e)] (Ai e)) (fun e ih d hv=> ?_) e;obtain⟨hf,hp⟩:=Jp hv;exact Dm2 hG e hf fun x hx=>ih x hx _ (hp x hx)
theorem Qw {e:Ex} (h:Ci e=true):Fd 1 e=true:=by
 rw[Ci,jF] at h;exact h.1
theorem WAt.start {B:Ac} {r:Nat} (hr:B r=none):WAt B r [] (upd B r (some (.cells [.nilSlice] 241))):=⟨_, .inl ⟨rfl,rfl,rfl,Sub.refl _⟩⟩
theorem WAt.cell {B H:Ac} {r:Nat} {ts:List Tok} (h:WAt B r ts H) (hr:B r=none): ∃v,H r=some (.cells [v] 241)/\Mh H v B (Bl ts):=by
 obtain⟨v,h⟩:=h;exact⟨v,h.keep (Aa _ _ _),Mh.own (h.less ((Sub.refl B).up hr _))⟩
set_option maxHeartbeats 4000000 in
theorem Cx8 (hG:GX G) (H:Ac) (e:Ex) (he:Fit e):Ag Tryz.prog G 81 [.agg (dEx e)] H (Ax (.tuple [Bl (As2 e).1,dI (As2 e).2]) H):=by
 rw[As2];refine Ab Tryz.func81 Tryz.call81 rfl (by kernel_rfl) ?_;simp(disch:=omega)only[go_sem,DVal.cells];intro D M;dsimp only at M;obtain⟨K,I⟩: ∃K',K'=upd H D (some (.cells (dEx e) 27)):=⟨_,rfl⟩;rw[<-I];have J:K D=some (.cells (dEx e) 27):=by rw[I];exact Aa _ _ _
 have hs:Sub H K:=by rw[I];exact(Sub.refl H).new M _
 simp(disch:=omega)only[go_sem,J];refine(Ab7 hG K e he).mono ?_;rintro _ E ⟨rfl,rfl⟩;cases hm:Ci e with
 | false=>
  simp(disch:=omega)only[go_sem];exact Mh.fin hs (Mh.tuple (.cons (Mh.nil hs) (Lf.keep hs _))) ⟨rfl,rfl⟩
 | true=>
  have Y:=Rj hm;simp(disch:=omega)only[go_sem];intro L C;dsimp only at C;have O:D≠L:=Af C J;have Z:=O.symm;have hw:=WAt.start C;have U:upd E L (some (.cells [.nilSlice] 241)) D=some (.cells (dEx e) 27):=Aj J O;simp(disch:=omega)only[go_sem,U];refine(Cc8 hG e 1 (Qw hm) E L [] _ C (by simp;omega) hw).mono ?_;rintro _ H1 ⟨rfl,h1⟩;rw[jG] at h1;have V:Sub E H1:=by
   obtain⟨v,h1⟩:=h1;exact(((Sub.refl E).up C _).trans h1.sub)
  obtain⟨v,W,X⟩:=h1.cell C;simp(disch:=omega)only[go_sem,W];have S:Sub H H1:=hs.trans V;refine Mh.fin S (Mh.tuple (.cons (fun w hw x hx=>Rel.lasts (El hs w) _ _ (X w hw x hx)) (Lf.keep S _))) ⟨rfl,rfl⟩
theorem Ac8 {l:List Ch} (h:Kq l=true):(∀c∈l,Fs l.length c=true/\ ∀x∈c.l,Ci x=true)/\l.length<=1000000000:=by
 rw[Kq,jF,List.all_eq_true] at h;have h2:=h.1;simp only[Dr,jF,decide_eq_true_eq,List.all_eq_true] at h2;exact⟨fun c hc=>⟨h2.2 c hc,List.all_eq_true.1 (h.2 c hc)⟩,by omega⟩
set_option maxHeartbeats 4000000 in
theorem As3 (hG:GX G) (H:Ac) (l:List Ch) (hb:Jk l<=1000000000000) (hk:Wu l):Ag Tryz.prog G 206 [dCl l] H (Ax (.tuple [Bl (Mn l).1,dI (Mn l).2]) H):=by
 rw[Mn];refine Ab Tryz.func206 Tryz.call206 rfl (by kernel_rfl) ?_;simp(disch:=omega)only[go_sem];refine(Ob hG H l hb hk).mono ?_;rintro _ D ⟨rfl,rfl⟩;cases hm:Kq l with
 | false=>
  simp(disch:=omega)only[go_sem];exact Mh.fin (Sub.refl _) (Mh.tuple (.cons (Mh.nil (Sub.refl _)) (Lf.keep (Sub.refl _) _))) ⟨rfl,rfl⟩
 | true=>
  have O:=Cc7 hm;simp(disch:=omega)only[go_sem];intro I C;dsimp only at C;have hw:=WAt.start C;simp(disch:=omega)only[go_sem];refine(Bd6 hG l Gg (Ac8 hm).2 (fun c hc=>As1 hG c ((Ac8 hm).1 c hc).1 fun y J=>Cc8 hG y 1 (Qw (((Ac8 hm).1 c hc).2 y J))) D I [] _ C (by simp;omega) hw).mono ?_;rintro _ H1 ⟨rfl,h1⟩;rw[jG] at h1;have E:Sub D H1:=by
   obtain⟨v,h1⟩:=h1;exact(((Sub.refl D).up C _).trans h1.sub)
  obtain⟨v,L,M⟩:=h1.cell C;simp(disch:=omega)only[go_sem,L];exact Mh.fin E (Mh.tuple (.cons M (Lf.keep E _))) ⟨rfl,rfl⟩
end
end Go.Dl
-- W3
namespace Go.Dl
open Go
set_option maxRecDepth 10000
def zT (ts:List Tok):Prop:= ∀t∈ts,t.line=0
theorem Fg:zT []:=fun t h=>by cases h
theorem Dn {t:Tok} {ts:List Tok} (h:t.line=0) (k:zT ts):zT (t::ts):=fun x hx=>by
 rcases List.mem_cons.1 hx with rfl | hx
 ·exact h
 ·exact k x hx
theorem Bp {a b:List Tok} (h:zT a) (k:zT b):zT (a++b):=fun x hx=>by
 rcases List.mem_append.1 hx with hx | hx
 ·exact h x hx
 ·exact k x hx
theorem Ck0 {b:Bool} {t:List Tok} (h:zT t):zT (Wb b t):=by
 cases b with
 | false=>exact h
 | true=>exact Dn rfl (Bp h (Dn rfl Fg))
theorem Cx9 (ws:List (List UInt8)):zT (ws.map Ah):=fun t h=>by
 obtain⟨s,_,rfl⟩:=List.mem_map.1 h;rfl
theorem Br7 (s:List UInt8): ∀ {l:List (List Tok)},(∀t∈l,zT t)->zT (Dm s l)
 | [],_=>Fg
 | [x],h=>h x (by simp)
 | x::y::r,h=>by
  rw[Tf s x _ (by simp)];exact Bp (h x (by simp)) (Dn rfl (Br7 s fun t ht=>h t (List.mem_cons_of_mem _ ht)))
theorem Dw2 {l:List (List Tok)} (h: ∀t∈l,zT t) (i:Nat):zT (l.getD i []):=by
 rw[List.getD];cases hi:l[i]? with
 | none=>exact Fg
 | some t=>exact h t (List.mem_of_getElem? hi)
theorem Iu {c:Prop} [Decidable c] {a b:List Tok} (h:zT a) (k:zT b):zT (if c then a else b):=by
 split
 ·exact h
 ·exact k
theorem Fx3 (e:Ex) {C D:List (List Tok)} (h: ∀t∈C,zT t) (k: ∀t∈D,zT t):zT (Ov e C D):=by
 have g:=fun i=>Dw2 h i;have p:=fun i (b:Bool)=>Ck0 (b:=b) (g i);unfold Ov;dsimp only
 repeat' (refine Iu ?_ ?_)
 ·exact Dn rfl Fg
 ·exact Dn rfl Fg
 ·exact Dn rfl Fg
 ·exact Bp (g 0) (Dn rfl (Dn rfl Fg))
 ·exact Bp (g 0) (Dn rfl (Dn rfl Fg))
 ·exact Bp (g 0) (Dn rfl (Dn rfl Fg))
 ·exact Bp (g 0) (Dn rfl (Bp (Br7 _ k) (Dn rfl Fg)))
 ·exact Bp (g 0) (Dn rfl (p 1 _))
 ·exact Dn rfl (Bp (Br7 _ k) (Dn rfl Fg))
 ·exact Dn rfl (Dn rfl (Bp (g 0) (Dn rfl (Bp (g 1) (Dn rfl (Bp (g 2) (Dn rfl Fg)))))))
 ·exact Bp (Cx9 _) (p 0 _)
 ·exact Bp (p 0 _) (Bp (Cx9 _) (p 1 _))
 ·exact Bp (p 0 _) (Dn rfl (Iu (Bp (p 1 _) (Dn rfl (p 2 _))) (g 1)))
 ·exact Bp (p 0 _) (Dn rfl (Dn rfl (Iu (Bp (p 1 _) (Dn rfl (p 2 _))) (g 1))))
theorem Fe6 (k:Int) (l:List Ex) {C:List (List Tok)} (h: ∀t∈C,zT t):zT (Cw3 k l C):=by
 have g:=fun i=>Dw2 h i;have p:=fun i (b:Bool)=>Ck0 (b:=b) (g i);unfold Cw3;dsimp only
 repeat' (refine Iu ?_ ?_)
 ·exact g 0
 ·exact Bp (p 0 _) (Dn rfl (p 1 _))
 ·exact Dn rfl Fg
mutual
theorem Bx7: ∀e:Ex,zT (Ai e)
 | .mk k o n s l a li en t=>by rw[Ai];exact Fx3 _ (Fe7 l) (Ge3 a)
theorem Fe7: ∀l:List Ex,∀t∈Yf l,zT t
 | []=>fun t h=>by cases h
 | x::l=>fun t h=>by
  rw[Yf] at h
  rcases List.mem_cons.1 h with rfl | h
  ·exact Bx7 x
  ·exact Fe7 l t h
theorem Gy6: ∀a:As,zT (Es a)
 | .mk c e=>by
  rw[Es,Du6]
  split
  ·exact Bx7 e
  ·exact Bp (Br7 _ (Ge4 c)) (Dn rfl (Bx7 e))
theorem Ge3: ∀l:List As,∀t∈Ab9 l,zT t
 | []=>fun t h=>by cases h
 | x::l=>fun t h=>by
  rw[Ab9] at h
  rcases List.mem_cons.1 h with rfl | h
  ·exact Gy6 x
  ·exact Ge3 l t h
theorem Gu7: ∀c:Ch,zT (Cs c)
 | .mk k l=>by rw[Cs];exact Fe6 _ _ (Fe7 l)
theorem Ge4: ∀l:List Ch,∀t∈Ac0 l,zT t
 | []=>fun t h=>by cases h
 | x::l=>fun t h=>by
  rw[Ac0] at h
  rcases List.mem_cons.1 h with rfl | h
  ·exact Gu7 x
  ·exact Ge4 l t h
end
theorem Gm6 {ts:List Tok} (h:zT ts):ts.map stT=ts:=by
 induction ts with
 | nil=>rfl
 | cons t ts ih=>
  rw[jN,ih fun x hx=>h x (List.mem_cons_of_mem _ hx)];congr 1;have:=h t (by simp);cases t;simp [stT] at this⊢
  exact this.symm
theorem Fe8 {ws:List (List UInt8)} {t:Tok}:nof ws (stT t)↔nof ws t:=Iff.rfl
theorem Ck1 {α β:Type} {f:α->β} {r:Res α} {C:Res β} {y:β} {k:Nat} (h:Nt f r C) (e:C= .ok y k): ∃x,r= .ok x k/\f x=y:=by
 cases r with
 | bot=>rw[show C= .bot from h] at e;cases e
 | fail j=>rw[show C= .fail j from h] at e;cases e
 | ok x j=>
  rw[show C= .ok (f x) j from h] at e;cases e;exact⟨x,rfl,rfl⟩
section
variable {l:List Tok} {e:Ex} {k':Nat}
theorem Dw3 (j:Nat):Nt stE (Ur l j) (Ur (l.map stT) j):=by
 have h:=Gd8 (l:=l);unfold Ur;split
 ·exact h.expr 0
 ·exact Df (h.simple 0) fun x k=>h.relation x k
 ·exact h.simple 0
 ·exact h.term 0
 ·exact h.factor 0
 ·exact h.primary 0
 ·exact h.name 0
theorem Gm7 (r:Rd l (Q l) e 0 k') (h:nof w0 (tk l k')) (j:Nat) (C:(j:Int)<=Aq e\/j=6/\Bu e=true):Ur l j= .ok (stE e) k':=by
 have h1:=s10 h;have hg:=Pp e;by_cases c6:j=6
 ·subst c6;rcases C with C | ⟨_,hn⟩
  ·omega
  ·show(Q l).name 0=_;rw[r.name hn,Ba0 r.le.2 (Gb h (by decide))]
 ·have C:(j:Int)<=Aq e:=C.resolve_right fun x=>c6 x.1;have hc:j=0\/j=1\/j=2\/j=3\/j=4\/j=5:=by omega
  rcases hc with rfl | rfl | rfl | rfl | rfl | rfl
  ·exact r.full h
  ·exact r.rel C (sd1 h1) fun _=>h1
  ·show(Q l).simple 0=_;rw[r.simp C (s31 h1),Th r.le.2 (Gb h (by decide))]
  ·show(Q l).term 0=_;rw[r.term C (Gb h (by decide)),Ag0 r.le.2 (s31 h1)]
  ·exact r.fac C (Gb h (by decide))
  ·exact r.prim (by omega) (Gb h (by decide))
theorem Fe9 {rest:List Tok} (hv:Fd 1 e=true) (hl:l.map stT=Ai e++rest) (C:nof w0 (tk l (Ai e).length)) (j:Nat) (D:(j:Int)<=Aq e\/j=6/\Bu e=true):
  ∃x,Ur l j= .ok x (Ai e).length/\stE x=stE e:=by
 have hz: ∀k,(tk (l.map stT) k).line=0:=fun k=>Ky k;have E:At (l.map stT) 0 (Ai e):=⟨Nat.zero_le _,rest,by rw[jJ,hl]⟩;have r:=Dl9 (p:=Q (l.map stT)) hz e 1 hv 0 E;rw[Nat.zero_add] at r;exact Ck1 (Dw3 j) (Gm7 r (by rw[Bd4];exact C) j D)
theorem Dm5 {rest:List Tok} (hm:Ci e=true) (hl:l.map stT=Ai e++rest) (C:nof w0 (tk l (Ai e).length)) (j:Nat) (D:(j:Int)<=Aq e\/j=6/\Bu e=true):
  ∃x,Fu l j=(x,((Ai e).length:Int),0)/\stE x=stE e:=by
 obtain⟨x,h1,h2⟩:=Fe9 (Qw hm) hl C j D;have E: ¬((j:Int)<0\/7<=(j:Int)):=by have:=(Pp e).2;omega
 refine⟨x, ?_,h2⟩;rw[Fu,if_neg E,jD,h1];show(if Ci x=true then _ else _)=_;rw[if_pos (by rw[Lh h2,hm])]
theorem Lj {x y:Ex} (h:stE x=stE y):Fw x y=true:=(Uc x y).2 h
end
end Go.Dl
