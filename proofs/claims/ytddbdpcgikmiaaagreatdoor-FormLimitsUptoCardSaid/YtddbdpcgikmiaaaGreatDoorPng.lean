/- The data level and the contracts of the functions that are reached (part 7). -/
import Derived.Test.YtddbdpcgikmiaaaGreatDoorPnf
set_option linter.unusedSimpArgs false
set_option linter.unusedVariables false
set_option linter.unusedSectionVars false
-- Chapter 3: expressions: the plain laws, 
namespace Go.Dl
open Go
set_option maxRecDepth 10000
section
variable {l:List Tok}
theorem Db {α β:Type} {a:Nat} {r:Res α} {f:α->Nat->Res β} (h:r≠ .bot) (ha:Adv l a r) (k: ∀x n,a<=n->n<=l.length->f x n≠ .bot):r.then f≠ .bot:=by
 cases r with
 | bot=>exact absurd rfl h
 | fail n=>intro e;cases e
 | ok x n=>exact k x n ha.1 ha.2
theorem Kr {α:Type} {x:α} {k:Nat}:(Res.ok x k)≠ .bot:=fun e=>by cases e
theorem Cf2 {α:Type} {k:Nat}:(Res.fail k:Res α)≠ .bot:=fun e=>by cases e
theorem Uu {α:Type} {s:List UInt8} {k:Nat} {f:Nat->Res α} (hk:k<=l.length) (h:k+1<=l.length->f (k+1)≠ .bot):must l s k f≠ .bot:=by
 unfold must;split
 ·rename_i hw
  exact h (Bf hw hk)
 ·exact Cf2
theorem Bl8 {α:Type} {k:Nat} {f:List UInt8->Nat->Res α} (h:k+1<=l.length-> ∀s,f s (k+1)≠ .bot):Iz l k f≠ .bot:=by
 unfold Iz;split
 ·rename_i hw
  exact h (Rs (by rw[hw];decide)) _
 ·exact Cf2
structure PS.Tot (l:List Tok) (n:Nat) (p:PS):Prop where
 expr: ∀k,k<=l.length->8*(l.length-k)+6<=n->p.expr k≠ .bot
 rest: ∀x k,k<=l.length->8*(l.length-k)+2<=n->p.rest x k≠ .bot
 restL: ∀o x k,k<=l.length->8*(l.length-k)+1<=n->p.restL o x k≠ .bot
 relation: ∀x k,k<=l.length->8*(l.length-k)+1<=n->p.relation x k≠ .bot
 simple: ∀k,k<=l.length->8*(l.length-k)+5<=n->p.simple k≠ .bot
 addL: ∀x k,k<=l.length->8*(l.length-k)+1<=n->p.addL x k≠ .bot
 term: ∀k,k<=l.length->8*(l.length-k)+4<=n->p.term k≠ .bot
 mulL: ∀x k,k<=l.length->8*(l.length-k)+1<=n->p.mulL x k≠ .bot
 factor: ∀k,k<=l.length->8*(l.length-k)+3<=n->p.factor k≠ .bot
 primary: ∀k,k<=l.length->8*(l.length-k)+2<=n->p.primary k≠ .bot
 paren: ∀k,k<=l.length->8*(l.length-k)+1<=n->p.paren k≠ .bot
 assoc: ∀k,k<=l.length->8*(l.length-k)+7<=n->p.assoc k≠ .bot
 assocsL: ∀a k,k<=l.length->8*(l.length-k)+1<=n->p.assocsL a k≠ .bot
 choice: ∀k,k<=l.length->8*(l.length-k)+6<=n->p.choice k≠ .bot
 choicesL: ∀a k,k<=l.length->8*(l.length-k)+1<=n->p.choicesL a k≠ .bot
 arg: ∀k,k<=l.length->8*(l.length-k)+7<=n->p.arg k≠ .bot
 argsL: ∀a k,k<=l.length->8*(l.length-k)+1<=n->p.argsL a k≠ .bot
 name: ∀k,k<=l.length->8*(l.length-k)+1<=n->p.name k≠ .bot
 nameL: ∀i x k,k<=l.length->8*(l.length-k)+1<=n->p.nameL i x k≠ .bot
theorem Ee1 {p:PS} {n:Nat} (h:p.Tot l n) (ha:p.Adv l):(Bl l p).Tot l (n+1) where
 expr k hk hn:=Db (h.simple k hk (by omega)) (ha.simple k hk) fun x m h1 h2=>h.rest x m h2 (by omega)
 rest x k hk hn:=Db (h.relation x k hk (by omega)) (ha.relation x k hk) fun x m h1 h2=>h.restL _ x m h2 (by omega)
 restL o x k hk hn:=by
  dsimp only[Bl]
  split
  ·exact Kr
  ·obtain⟨D,q2,C,E⟩:=Ej (want:=o) Gp7.1 hk
   split
   ·exact Kr
   ·rename_i hq
    have:=q2 hq
    exact Db (h.simple _ C (by omega)) (ha.simple _ C) fun y n h1 h2=>Db (h.relation y n h2 (by omega)) (ha.relation y n h2) fun z m h3 h4=>h.restL _ _ m h4 (by omega)
 relation x k hk hn:=by
  dsimp only[Bl]
  obtain⟨D,q2,C,E⟩:=Ej (want:=0) Gp7.2.1 hk
  have J: ∀kind j,k+1<=j->j<=l.length->inK l x kind j p≠ .bot:=fun kind j h1 h2=>by
   refine Db (h.simple j h2 (by omega)) (ha.simple j h2) fun y m h3 h4=> ?_
   split
   ·rename_i hw
    have:=Bf hw h4
    have:=this
    simp only[jA,jB] at this
    exact Db (h.simple (m+1) (by omega) (by omega)) (ha.simple (m+1) (by omega)) fun z m _ _=>Kr
   ·split
    ·exact Kr
    ·exact Cf2
  split
  ·rename_i hq
   have:=q2 hq
   exact Db (h.simple _ C (by omega)) (ha.simple _ C) fun y n h1 h2=>Kr
  ·split
   ·rename_i hw
    have:=Bf hw hk
    simp only[jA,jB] at this
    exact J _ _ (by omega) (by omega)
   ·split
    ·rename_i hw
     have:=Bf hw hk
     simp only[jA,jB] at this
     exact J _ _ (by omega) (by omega)
    ·exact Kr
 simple k hk hn:=by
  obtain⟨D,q2,C,E⟩:=Ej (want:=0) Gp7.2.2.1 hk
  exact Db (h.term _ C (by omega)) (ha.term _ C) fun x n h1 h2=>h.addL _ n h2 (by omega)
 addL x k hk hn:=by
  dsimp only[Bl]
  obtain⟨D,q2,C,E⟩:=Ej (want:=0) Gp7.2.2.2.1 hk
  split
  ·exact Kr
  ·rename_i hq
   have:=q2 hq
   exact Db (h.term _ C (by omega)) (ha.term _ C) fun x n h1 h2=>h.addL _ n h2 (by omega)
 term k hk hn:=Db (h.factor k hk (by omega)) (ha.factor k hk) fun x n h1 h2=>h.mulL _ n h2 (by omega)
 mulL x k hk hn:=by
  dsimp only[Bl]
  obtain⟨D,q2,C,E⟩:=Ej (want:=0) Gp7.2.2.2.2.1 hk
  split
  ·exact Kr
  ·rename_i hq
   have:=q2 hq
   exact Db (h.factor _ C (by omega)) (ha.factor _ C) fun x n h1 h2=>h.mulL _ n h2 (by omega)
 factor k hk hn:=by
  obtain⟨D,q2,C,E⟩:=Ej (want:=0) Gp7.2.2.2.2.2 hk
  exact Db (h.primary _ C (by omega)) (ha.primary _ C) fun x n h1 h2=>Kr
 primary k hk hn:=by
  dsimp only[Bl]
  split
  ·exact Kr
  ·split
   ·exact Kr
   ·split
    ·exact h.paren k hk (by omega)
    ·exact h.name k hk (by omega)
 paren k hk hn:=by
  dsimp only[Bl]
  refine Uu hk fun I=> ?_
  split
  ·rename_i hw
   have:=Bf hw I
   simp only[jA,jB] at this
   refine Db (h.expr _ this (by omega)) (ha.expr _ this) fun a L h1 h2=>Uu h2 fun h3=>Db (h.expr _ h3 (by omega)) (ha.expr _ h3) fun b M h4 h5=>Uu h5 fun h6=>Db (h.expr _ h6 (by omega)) (ha.expr _ h6) fun c O h7 h8=>Uu h8 fun h9=>Kr
  ·exact Db (h.assoc _ I (by omega)) (ha.assoc _ I) fun a L h1 h2=>Db (h.assocsL _ _ h2 (by omega)) (ha.assocsL _ _ h2) fun az M h3 h4=>Uu h4 fun h5=>Kr
 assoc k hk hn:=by
  refine Db (h.choice k hk (by omega)) (ha.choice k hk) fun c n h1 h2=> ?_
  split
  ·exact Kr
  ·split
   ·exact Uu h2 fun h3=>Db (h.expr _ h3 (by omega)) (ha.expr _ h3) fun e m h4 h5=>Kr
   ·exact Db (h.choicesL _ _ h2 (by omega)) (ha.choicesL _ _ h2) fun cs m h3 h4=>Uu h4 fun h5=>Db (h.expr _ h5 (by omega)) (ha.expr _ h5) fun e m h6 h7=>Kr
 assocsL az k hk hn:=by
  dsimp only[Bl]
  split
  ·rename_i hw
   have:=Bf hw hk
   simp only[jA,jB] at this
   exact Db (h.assoc _ this (by omega)) (ha.assoc _ this) fun a n h1 h2=>h.assocsL _ n h2 (by omega)
  ·exact Kr
 choice k hk hn:=by
  dsimp only[Bl]
  split
  ·exact Kr
  ·refine Db (h.simple k hk (by omega)) (ha.simple k hk) fun x n h1 h2=> ?_
   split
   ·rename_i hw
    have:=Bf hw h2
    simp only[jA,jB] at this
    exact Db (h.simple _ this (by omega)) (ha.simple _ this) fun y m h3 h4=>Kr
   ·exact Db (h.rest x n h2 (by omega)) (ha.rest x n h2) fun y m h3 h4=>Kr
 choicesL az k hk hn:=by
  dsimp only[Bl]
  split
  ·rename_i hw
   have:=Bf hw hk
   simp only[jA,jB] at this
   exact Db (h.choice _ this (by omega)) (ha.choice _ this) fun a n h1 h2=>h.choicesL _ n h2 (by omega)
  ·exact Kr
 arg k hk hn:=by
  dsimp only[Bl]
  split
  ·rename_i hw
   have h1:=Rs (l:=l) (k:=k) (by rw[hw.1];decide)
   have:=Bf hw.2 h1
   simp only[jA,jB] at this
   exact Db (h.expr _ this (by omega)) (ha.expr _ this) fun y m h3 h4=>Kr
  ·exact Db (h.expr k hk (by omega)) (ha.expr k hk) fun y m h3 h4=>Kr
 argsL az k hk hn:=by
  dsimp only[Bl]
  split
  ·rename_i hw
   have:=Bf hw hk
   simp only[jA,jB] at this
   exact Db (h.arg _ this (by omega)) (ha.arg _ this) fun a n h1 h2=>h.argsL _ n h2 (by omega)
  ·exact Kr
 name k hk hn:=Bl8 fun h1 s=>h.nameL _ _ _ h1 (by omega)
 nameL i x k hk hn:=by
  dsimp only[Bl]
  split
  ·rename_i hw
   have:=Bf hw hk
   simp only[jA,jB] at this
   exact h.nameL _ _ _ (by omega) (by omega)
  ·split
   ·rename_i hw
    have:=Bf hw hk
    simp only[jA,jB] at this
    exact Bl8 fun h1 s=>h.nameL _ _ _ h1 (by omega)
   ·split
    ·rename_i hw
     have:=Bf hw hk
     simp only[jA,jB] at this
     exact Db (h.arg _ this (by omega)) (ha.arg _ this) fun a n h1 h2=>Db (h.argsL _ _ h2 (by omega)) (ha.argsL _ _ h2) fun az m h3 h4=>Uu h4 fun h5=>h.nameL _ _ _ h5 (by omega)
    ·split
     ·rename_i hw
      have:=Bf hw hk
      simp only[jA,jB] at this
      exact Db (h.paren _ (by omega) (by omega)) (ha.paren _ (by omega)) fun a n h1 h2=>h.nameL _ _ _ h2 (by omega)
     ·split
      ·rename_i hw
       have:=Bf hw hk
       simp only[jA,jB] at this
       exact Bl8 fun h1 s=>h.nameL _ _ _ h1 (by omega)
      ·exact Kr
theorem Fw9: ∀n,(P l n).Tot l n
 | 0=>by constructor<;>intros<;>omega
 | n+1=>Ee1 (Fw9 n) (Jz n)
def Fm (l:List Tok):Nat:=8*l.length+20
def Q (l:List Tok):PS:=P l (Fm l)
theorem Oz {α:Type} {r y:Res α} (h:r.Le y) (C:r≠ .bot):y=r:=by
 rcases h with h | h
 ·exact absurd h C
 ·exact h.symm
structure PS.Fix (l:List Tok) (p:PS):Prop where
 expr: ∀k,k<=l.length->p.expr k=(Bl l p).expr k
 rest: ∀x k,k<=l.length->p.rest x k=(Bl l p).rest x k
 restL: ∀o x k,k<=l.length->p.restL o x k=(Bl l p).restL o x k
 relation: ∀x k,k<=l.length->p.relation x k=(Bl l p).relation x k
 simple: ∀k,k<=l.length->p.simple k=(Bl l p).simple k
 addL: ∀x k,k<=l.length->p.addL x k=(Bl l p).addL x k
 term: ∀k,k<=l.length->p.term k=(Bl l p).term k
 mulL: ∀x k,k<=l.length->p.mulL x k=(Bl l p).mulL x k
 factor: ∀k,k<=l.length->p.factor k=(Bl l p).factor k
 primary: ∀k,k<=l.length->p.primary k=(Bl l p).primary k
 paren: ∀k,k<=l.length->p.paren k=(Bl l p).paren k
 assoc: ∀k,k<=l.length->p.assoc k=(Bl l p).assoc k
 assocsL: ∀a k,k<=l.length->p.assocsL a k=(Bl l p).assocsL a k
 choice: ∀k,k<=l.length->p.choice k=(Bl l p).choice k
 choicesL: ∀a k,k<=l.length->p.choicesL a k=(Bl l p).choicesL a k
 arg: ∀k,k<=l.length->p.arg k=(Bl l p).arg k
 argsL: ∀a k,k<=l.length->p.argsL a k=(Bl l p).argsL a k
 name: ∀k,k<=l.length->p.name k=(Bl l p).name k
 nameL: ∀i x k,k<=l.length->p.nameL i x k=(Bl l p).nameL i x k
theorem Ex0:(Q l).Tot l (Fm l):=Fw9 _
theorem Ex1:(Q l).Adv l:=Jz _
theorem Gm8:(Q l).Fix l:=by
 have h:(Q l).Le (Bl l (Q l)):=Bw8 _;have t:=Ex0 (l:=l);have f: ∀k,8*(l.length-k)+7<=Fm l:=fun k=>by unfold Fm;omega
 have y: ∀ {k a:Nat},a<=7->8*(l.length-k)+a<=Fm l:=fun {k a} ha=>by have:=f k;omega
 exact⟨fun k hk=>(Oz (h.expr k) (t.expr k hk (y (by omega)))).symm,
  fun x k hk=>(Oz (h.rest x k) (t.rest x k hk (y (by omega)))).symm,
  fun o x k hk=>(Oz (h.restL o x k) (t.restL o x k hk (y (by omega)))).symm,
  fun x k hk=>(Oz (h.relation x k) (t.relation x k hk (y (by omega)))).symm,
  fun k hk=>(Oz (h.simple k) (t.simple k hk (y (by omega)))).symm,
  fun x k hk=>(Oz (h.addL x k) (t.addL x k hk (y (by omega)))).symm,
  fun k hk=>(Oz (h.term k) (t.term k hk (y (by omega)))).symm,
  fun x k hk=>(Oz (h.mulL x k) (t.mulL x k hk (y (by omega)))).symm,
  fun k hk=>(Oz (h.factor k) (t.factor k hk (y (by omega)))).symm,
  fun k hk=>(Oz (h.primary k) (t.primary k hk (y (by omega)))).symm,
  fun k hk=>(Oz (h.paren k) (t.paren k hk (y (by omega)))).symm,
  fun k hk=>(Oz (h.assoc k) (t.assoc k hk (y (by omega)))).symm,
  fun x k hk=>(Oz (h.assocsL x k) (t.assocsL x k hk (y (by omega)))).symm,
  fun k hk=>(Oz (h.choice k) (t.choice k hk (y (by omega)))).symm,
  fun x k hk=>(Oz (h.choicesL x k) (t.choicesL x k hk (y (by omega)))).symm,
  fun k hk=>(Oz (h.arg k) (t.arg k hk (y (by omega)))).symm,
  fun x k hk=>(Oz (h.argsL x k) (t.argsL x k hk (y (by omega)))).symm,
  fun k hk=>(Oz (h.name k) (t.name k hk (y (by omega)))).symm,
  fun i x k hk=>(Oz (h.nameL i x k) (t.nameL i x k hk (y (by omega)))).symm⟩
end
def Ah (s:List UInt8):Tok:=⟨Il s,0,s,0⟩
def Ci (s:List UInt8):Tok:=⟨1,0,s,0⟩
def Cs3 (n:Int):Tok:=⟨3,0,[],n⟩
def Yq (b:Bool) (t:List Tok):List Tok:=if b then Ah Bi::(t++ [Ah Bt]) else t
def Ef (s:List UInt8):List (List Tok)->List Tok
 | []=> []
 | [x]=>x
 | x::r=>x++Ah s::Ef s r
def Lb (e:Ex):Int:=if Ba e=2 then 3 else 5
def Fw (e:Ex):Int:=if Ba e=1 then 2 else if Ba e=0/\((e.l.getD 0 ex0).kind≠12\/(e.l.getD 0 ex0).oper≠e.oper) then 1 else Ba e
def Hs (e:Ex):Int:=if Ba e=1 then 2 else Ba e+1
def Qt (k:Int):Bool:=decide (k=9) || decide (k=10)
def Rt (e:Ex) (tl ta:List (List Tok)):List Tok:=
 let p:=fun(i:Nat) (lv:Int)=>Yq (decide (Ba (e.l.getD i ex0)<lv)) (tl.getD i [])
 if e.kind=1 then [Cs3 e.n] else if e.kind=2 then [Ah Ez] else if e.kind=3 then [Ci e.s]
 else if e.kind=4 then tl.getD 0 []++ [Ah Jl,Ci e.s]
 else if e.kind=5 then tl.getD 0 []++ [Ah Jl,Ah Zr]
 else if e.kind=6 then tl.getD 0 []++ [Ah Iq,Ci e.s]
 else if e.kind=7 then tl.getD 0 []++Ah Bi::(Ef Dh ta++ [Ah Bt])
 else if e.kind=8 then tl.getD 0 []++Ah Iq::Yq (!Qt (e.l.getD 1 ex0).kind) (tl.getD 1 [])
 else if e.kind=9 then Ah Bi::(Ef Dh ta++ [Ah Bt])
 else if e.kind=10 then Ah Bi::Ah wIf::(tl.getD 0 []++Ah Pm::(tl.getD 1 []++Ah Qp::(tl.getD 2 []++ [Ah Bt])))
 else if e.kind=11 then(Bd e.oper.toNat).map Ah++p 0 (Lb e)
 else if e.kind=12 then p 0 (Fw e)++((Bd e.oper.toNat).map Ah++p 1 (Hs e))
 else if e.kind=13 then p 0 2++Ah wIn::(if e.l.length=3 then p 1 2++Ah Ev::p 2 2 else tl.getD 1 [])
 else p 0 2++Ah Ve::Ah wIn::(if e.l.length=3 then p 1 2++Ah Ev::p 2 2 else tl.getD 1 [])
def Gm9 (k:Int) (l:List Ex) (tl:List (List Tok)):List Tok:=
 let p:=fun(i:Nat) (lv:Int)=>Yq (decide (Ba (l.getD i ex0)<lv)) (tl.getD i [])
 if k=1 then tl.getD 0 [] else if k=2 then p 0 2++Ah Ev::p 1 2 else [Ah Lf]
def Fx0 (tc:List (List Tok)) (te:List Tok):List Tok:=if tc.isEmpty then te else Ef Gl tc++Ah Bn::te
mutual
def Am:Ex->List Tok
 | .mk k o n s l a li en t=>Rt (.mk k o n s l a li en t) (Bl9 l) (Cf3 a)
def Bl9:List Ex->List (List Tok)
 | []=> []
 | x::l=>Am x::Bl9 l
def Hz:As->List Tok
 | .mk c e=>Fx0 (Cf4 c) (Am e)
def Cf3:List As->List (List Tok)
 | []=> []
 | x::l=>Hz x::Cf3 l
def Dw:Ch->List Tok
 | .mk k l=>Gm9 k l (Bl9 l)
def Cf4:List Ch->List (List Tok)
 | []=> []
 | x::l=>Dw x::Cf4 l
end
theorem Ah3: ∀l:List Ex,Bl9 l=l.map Am
 | []=>rfl
 | x::l=>by rw[Bl9,Ah3 l,jN]
theorem Bm0: ∀l:List As,Cf3 l=l.map Hz
 | []=>rfl
 | x::l=>by rw[Cf3,Bm0 l,jN]
theorem Bm1: ∀l:List Ch,Cf4 l=l.map Dw
 | []=>rfl
 | x::l=>by rw[Cf4,Bm1 l,jN]
theorem Ir (e:Ex):Am e=Rt e (e.l.map Am) (e.a.map Hz):=by
 cases e;rw[Am,Ah3,Bm0];rfl
theorem Qu (x:As):Hz x=if x.c.isEmpty then Am x.e else Ef Gl (x.c.map Dw)++Ah Bn::Am x.e:=by
 cases x with
 | mk c e=>rw[Hz,Bm1,Fx0];cases c<;>rfl
def Ay (e:Ex) (lv:Int):List Tok:=Yq (decide (Ba e<lv)) (Am e)
theorem Ex2 {α β:Type} (f:α->β) (l:List α) (i:Nat) (d:α) (e:β) (h:i<l.length):(l.map f).getD i e=f (l.getD i d):=by
 simp [List.getD,List.getElem?_map,List.getElem?_eq_getElem h]
theorem Ng (c:Ch):Dw c=if c.kind=1 then(c.l.map Am).getD 0 [] else if c.kind=2 then Yq (decide (Ba (c.l.getD 0 ex0)<2)) ((c.l.map Am).getD 0 [])++Ah Ev::Yq (decide (Ba (c.l.getD 1 ex0)<2)) ((c.l.map Am).getD 1 []) else [Ah Lf]:=by
 cases c;rw[Dw,Ah3];rfl
def tE (e:Ex) (i:Nat):List Tok:=(e.l.map Am).getD i []
def pE (e:Ex) (i:Nat) (lv:Int):List Tok:=Yq (decide (Ba (e.l.getD i ex0)<lv)) (tE e i)
def Kb (e:Ex):List Tok:=if e.l.length=3 then pE e 1 2++Ah Ev::pE e 2 2 else tE e 1
def taE (e:Ex):List Tok:=Ef Dh (e.a.map Hz)
section
variable {e:Ex}
theorem Ex3 (h:e.kind=1):Am e= [Cs3 e.n]:=by rw[Ir];unfold Rt;rw[h];rfl
theorem Ex4 (h:e.kind=2):Am e= [Ah Ez]:=by rw[Ir];unfold Rt;rw[h];rfl
theorem Cs4 (h:e.kind=3):Am e= [Ci e.s]:=by rw[Ir];unfold Rt;rw[h];rfl
theorem Dq2 (h:e.kind=4):Am e=tE e 0++ [Ah Jl,Ci e.s]:=by rw[Ir];unfold Rt;rw[h];rfl
theorem Ex5 (h:e.kind=5):Am e=tE e 0++ [Ah Jl,Ah Zr]:=by rw[Ir];unfold Rt;rw[h];rfl
theorem Ex6 (h:e.kind=6):Am e=tE e 0++ [Ah Iq,Ci e.s]:=by rw[Ir];unfold Rt;rw[h];rfl
theorem Ex7 (h:e.kind=7):Am e=tE e 0++Ah Bi::(taE e++ [Ah Bt]):=by rw[Ir];unfold Rt;rw[h];rfl
theorem Ex8 (h:e.kind=8):Am e=tE e 0++Ah Iq::Yq (!Qt (e.l.getD 1 ex0).kind) (tE e 1):=by rw[Ir];unfold Rt;rw[h];rfl
theorem Dq3 (h:e.kind=9):Am e=Ah Bi::(taE e++ [Ah Bt]):=by rw[Ir];unfold Rt;rw[h];rfl
theorem Cf5 (h:e.kind=10):Am e=Ah Bi::Ah wIf::(tE e 0++Ah Pm::(tE e 1++Ah Qp::(tE e 2++ [Ah Bt]))):=by rw[Ir];unfold Rt;rw[h];rfl
theorem Dg3 (h:e.kind=11):Am e=(Bd e.oper.toNat).map Ah++pE e 0 (Lb e):=by rw[Ir];unfold Rt;rw[h];rfl
theorem Dg4 (h:e.kind=12):Am e=pE e 0 (Fw e)++((Bd e.oper.toNat).map Ah++pE e 1 (Hs e)):=by rw[Ir];unfold Rt;rw[h];rfl
theorem Dg5 (h:e.kind=13):Am e=pE e 0 2++Ah wIn::Kb e:=by rw[Ir];unfold Rt;rw[h];rfl
theorem Dg6 (h:e.kind=14):Am e=pE e 0 2++Ah Ve::Ah wIn::Kb e:=by rw[Ir];unfold Rt;rw[h];rfl
theorem Gn0 {i:Nat} (h:i<e.l.length):tE e i=Am (e.l.getD i ex0):=Ex2 Am e.l i ex0 [] h
theorem Fx1 {i:Nat} (h:i<e.l.length) (y:Int):pE e i y=Ay (e.l.getD i ex0) y:=by rw[pE,Gn0 h];rfl
end
theorem Ee2 {s:List UInt8}:Il s≠1/\Il s≠3/\Il s≠0:=by
 unfold Il;split<;>decide
theorem Ac9 (s:List UInt8) (x:List Tok) (r:List (List Tok)) (h:r≠ []):Ef s (x::r)=x++Ah s::Ef s r:=by
 cases r with
 | nil=>exact absurd rfl h
 | cons y r=>rfl
theorem Ad0 (s:List UInt8): ∀(l:List (List Tok)) (x:List Tok),l≠ []->Ef s (l++ [x])=Ef s l++Ah s::x
 | [],_,h=>absurd rfl h
 | [y],x,_=>rfl
 | y::z::r,x,_=>by
  rw[jI,Ac9 s y _ (by simp),Ad0 s (z::r) x (by simp),Ac9 s y (z::r) (by simp)];simp
section
variable {l:List Tok}
theorem Bm2 {k:Nat} {s:List UInt8}:isW l k [s]=(decide ((tk l k).kind=Il s)&&decide ((tk l k).text=s)):=by rw[isW,isW,Bool.and_true]
theorem Ex9 {k:Nat} {s t:List UInt8}:isW l k [s,t]=(isW l k [s]&&isW l (k+1) [t]):=by rw[isW,Bm2 (s:=s),Bm2 (s:=t)]
theorem Ga {k:Nat} {s t:List UInt8} (h:isW l k [s]=true) (hs:s≠t):isW l k [t]=false:=by
 rw[Bm2,jF,decide_eq_true_eq,decide_eq_true_eq] at h;rw[Bm2,h.2,decide_eq_false hs,Bool.and_false]
end
section
variable {l:List Tok} {n:Nat}
theorem Ey0 {k:Nat} {ws:List (List UInt8)} {s:List UInt8} (h:isW l k ws=true) (hs:ws.head? =some s):isW l k [s]=true:=by
 cases ws with
 | nil=>cases hs
 | cons a r=>
  cases hs;rw[isW,jF] at h;rw[Bm2];exact h.1
theorem Bm3 {want k:Nat} {l:List Tok}: ∀ {os:List Nat},(∀o∈os,isW l k (Bd o)=false)->opF l want k os=(0,k)
 | [],_=>rfl
 | o::r,h=>by rw[opF,h o (by simp),if_neg (by simp)];exact Bm3 fun x hx=>h x (by simp [hx])
end
section
variable {l:List Tok}
theorem An4 (b:Bool) (t:List Tok):(Yq b t).length=t.length+if b then 2 else 0:=by
 cases b<;>simp [Yq]
theorem Qv (e:Ex):0<=Ba e/\Ba e<=5:=by
 unfold Ba;repeat' split
 all_goals omega
def Li {α:Type} (R:α->Nat->Prop) (r:Res α):Prop:= ∀x k',r= .ok x k'->R x k'
theorem Bu {α β:Type} {r:Res α} {f:α->Nat->Res β} {R:α->Nat->Prop} {S:β->Nat->Prop} (h:Li R r) (hf: ∀x k1,R x k1->Li S (f x k1)):Li S (r.then f):=fun y k' e=>by
 cases r with
 | bot=>cases e
 | fail n=>cases e
 | ok x n=>exact hf x n (h x n rfl) y k' e
theorem Ey {α:Type} {R:α->Nat->Prop} {k:Nat} {x:α} (h:R x k):Li R (.ok x k):=fun y k' e=>by cases e;exact h
theorem Av6 {α:Type} {R:α->Nat->Prop} {k:Nat}:Li R (.fail k):=fun y k' e=>by cases e
theorem Oe {α:Type} {R:α->Nat->Prop} {k:Nat} {s:List UInt8} {f:Nat->Res α} (h:isW l k [s]=true->Li R (f (k+1))):Li R (must l s k f):=by
 unfold must;split
 ·exact h ‹_›
 ·exact Av6
theorem Av7 {α:Type} {R:α->Nat->Prop} {k:Nat} {f:List UInt8->Nat->Res α} (h:(tk l k).kind=1->Li R (f (tk l k).text (k+1))):Li R (Iz l k f):=by
 unfold Iz;split
 ·exact h ‹_›
 ·exact Av6
theorem Dp {α:Type} {R S:α->Nat->Prop} {r:Res α} (h:Li R r) (g:Li S r):Li (fun x k=>R x k/\S x k) r:=fun x k e=>⟨h x k e,g x k e⟩
theorem Dq {α:Type} {a:Nat} {r:Res α} (h:Adv l a r):Li (fun _ k'=>a<=k'/\k'<=l.length) r:=fun x k' e=>by rw[e] at h;exact h
def Ey1 (ta:List (List Tok)):Nat:=(ta.map fun t=>t.length+1).sum-1
theorem Bm4 (s:List UInt8): ∀l:List (List Tok),(Ef s l).length=Ey1 l
 | []=>rfl
 | [x]=>by simp [Ef,Ey1]
 | x::y::r=>by
  have ih:=Bm4 s (y::r);rw[Ac9 s x _ (by simp),jC,jA,ih];simp only[Ey1,jN,List.sum_cons];omega
def Cf6 (ta:List (List Tok)):Nat:=(ta.map fun t=>t.length+1).sum
theorem Zv {e:Ex} (h:Cd e=true):Ba e=5:=by
 unfold Cd at h;rw[jF,decide_eq_true_eq,decide_eq_true_eq] at h;unfold Ba;rw[if_neg (by omega),if_neg (by omega),if_neg (by omega)]
theorem Cf7 {want k:Nat}: ∀ {os:List Nat},(opF l want k os).1≠0->(opF l want k os).1∈os/\(opF l want k os).2=k+(Bd (opF l want k os).1).length/\isW l k (Bd (opF l want k os).1)=true
 | [],h=>absurd rfl h
 | o::r,h=>by
  rw[opF] at h⊢
  split
  ·rename_i hw
   rw[if_pos hw] at h;split
   ·rename_i hc
    rw[if_pos hc] at h;exact absurd rfl h
   ·exact⟨List.mem_cons_self,rfl,hw⟩
  ·rename_i hw
   rw[if_neg hw] at h;have:=Cf7 h;exact⟨List.mem_cons_of_mem _ this.1,this.2⟩
theorem Ey2 {o:Nat} (h:o∈Gx):o=18\/o=19:=by simp [Gx] at h;omega
theorem Fq0 {o:Nat} (h:o∈La):o=20\/o=21:=by simp [La] at h;omega
theorem Ey3 (s:List UInt8) (y:List (List Tok)) (h:y≠ []):(Ef s y).length+1=Cf6 y:=by
 rw[Bm4,Ey1,Cf6];cases y with
 | nil=>exact absurd rfl h
 | cons t r=>simp only[jN,List.sum_cons];omega
end
end Go.Dl
-- Chapter 3: what was read fits into a mac
namespace Go.Dl
open Go Go.Proofs
set_option maxRecDepth 100000
section
variable {l:List Tok}
theorem Ah4 (a:As): ∀l:List As,Fl (l++ [a])=Fl l+Xg a
 | []=>by simp [Fl]
 | x::l=>by rw[jI,Fl,Fl,Ah4 a l];omega
theorem Bm5 (a:Ch): ∀l:List Ch,Jm (l++ [a])=Jm l+Am5 a
 | []=>by simp [Jm]
 | x::l=>by rw[jI,Jm,Jm,Bm5 a l];omega
theorem Av8 (a:As): ∀l:List As,Ph (l++ [a])↔Ph l/\okA a
 | []=>by simp [Ph]
 | x::l=>by rw[jI,Ph,Ph,Av8 a l];exact and_assoc.symm
theorem Bx7 (a:Ch): ∀l:List Ch,Yp (l++ [a])↔Yp l/\okC a
 | []=>by simp [Yp]
 | x::l=>by rw[jI,Yp,Yp,Bx7 a l];exact and_assoc.symm
def FE (k:Nat) (x:Ex) (k':Nat):Prop:=Fh x+1+2*k<=2*k'/\okE x
def FL (k:Nat) (x y:Ex) (k':Nat):Prop:=Fh y+2*k<=Fh x+2*k'/\okE y
structure PS.Fits (l:List Tok) (p:PS):Prop where
 expr: ∀k,k<=l.length->Li (FE k) (p.expr k)
 rest: ∀x k,k<=l.length->okE x->Li (FL k x) (p.rest x k)
 restL: ∀o x k,k<=l.length->okE x->Li (FL k x) (p.restL o x k)
 relation: ∀x k,k<=l.length->okE x->Li (FL k x) (p.relation x k)
 simple: ∀k,k<=l.length->Li (FE k) (p.simple k)
 addL: ∀x k,k<=l.length->okE x->Li (FL k x) (p.addL x k)
 term: ∀k,k<=l.length->Li (FE k) (p.term k)
 mulL: ∀x k,k<=l.length->okE x->Li (FL k x) (p.mulL x k)
 factor: ∀k,k<=l.length->Li (FE k) (p.factor k)
 primary: ∀k,k<=l.length->Li (FE k) (p.primary k)
 paren: ∀k,k<=l.length->Li (FE k) (p.paren k)
 assoc: ∀k,k<=l.length->Li (fun x k'=>Xg x+1+2*k<=2*k'/\okA x) (p.assoc k)
 assocsL: ∀a k,k<=l.length->Ph a->Li (fun b k'=>Fl b+2*k<=Fl a+2*k'/\Ph b) (p.assocsL a k)
 choice: ∀k,k<=l.length->Li (fun x k'=>Am5 x+2*k<=2*k'/\okC x) (p.choice k)
 choicesL: ∀a k,k<=l.length->Yp a->Li (fun b k'=>Jm b+2*k<=Jm a+2*k'/\Yp b) (p.choicesL a k)
 arg: ∀k,k<=l.length->Li (fun x k'=>Xg x+1+2*k<=2*k'/\okA x) (p.arg k)
 argsL: ∀a k,k<=l.length->Ph a->Li (fun b k'=>Fl b+2*k<=Fl a+2*k'/\Ph b) (p.argsL a k)
 name: ∀k,k<=l.length->Li (FE k) (p.name k)
 nameL: ∀i x k,k<=l.length->okE x->Li (FL k x) (p.nameL i x k)
theorem An5 (o:Nat) (x y:Ex):Fh (both o x y)=1+Fh x+Fh y:=by
 rw[both,Fh];simp only[Ls,Fl];omega
theorem Be3 {o:Nat} {x y:Ex} (h1:okE x) (h2:okE y):okE (both o x y):=by
 rw[both,okE];simp only[okL,Ph];exact⟨by decide,⟨h1,h2,trivial⟩,trivial⟩
theorem Cs5 (o:Nat) (x:Ex) (li:Int):Fh (Qq o li x)=if o=0 then Fh x else 1+Fh x:=by
 unfold Qq;split
 ·rfl
 ·rw[Fh];simp only[Ls,Fl];omega
theorem Dq4 {o:Nat} {x:Ex} {li:Int} (h1:okE x):okE (Qq o li x):=by
 unfold Qq;split
 ·exact h1
 ·rw[okE];simp only[okL,Ph];exact⟨by decide,⟨h1,trivial⟩,trivial⟩
theorem Dg7 (hT: ∀k,(tk l k).text.length<=9223372036854775807) {p:PS} (h:p.Fits l) (J:p.Adv l):(Bl l p).Fits l where
 expr k hk:=Bu (Dp (h.simple k hk) (Dq (J.simple k hk))) fun x m ⟨h1,h2⟩ y k' e=>by
  obtain⟨C,E⟩:=h.rest x m h2.2 h1.2 y k' e
  exact⟨by have:=h1.1;omega,E⟩
 rest x k hk hx:=Bu (Dp (h.relation x k hk hx) (Dq (J.relation x k hk))) fun y m ⟨h1,h2⟩ z k' e=>by
  obtain⟨C,E⟩:=h.restL _ y m h2.2 h1.2 z k' e
  exact⟨by have:=h1.1;omega,E⟩
 restL o x k hk hx:=by
  dsimp only[Bl]
  split
  ·exact Ey ⟨Nat.le_refl _,hx⟩
  ·obtain⟨Y,q2,L,Z⟩:=Ej (want:=o) Gp7.1 hk
   split
   ·exact Ey ⟨Nat.le_refl _,hx⟩
   ·rename_i hq
    have:=q2 hq
    refine Bu (Dp (h.simple _ L) (Dq (J.simple _ L))) fun y j ⟨h1,h2⟩=>Bu (Dp (h.relation y j h2.2 h1.2) (Dq (J.relation y j h2.2))) fun z i ⟨h3,h4⟩ w k' e=> ?_
    obtain⟨C,E⟩:=h.restL o (both o x z) i h4.2 (Be3 hx h3.2) w k' e
    rw[An5] at C
    have:=h1.1
    have:=h3.1
    exact⟨by omega,E⟩
 relation x k hk hx:=by
  dsimp only[Bl]
  obtain⟨Y,q2,L,Z⟩:=Ej (want:=0) Gp7.2.1 hk
  have ad: ∀(kind:Int) (j:Nat),k+1<=j->j<=l.length->Li (FL k x) (inK l x kind j p):=fun kind j af hj=>by
   refine Bu (Dp (h.simple _ hj) (Dq (J.simple _ hj))) fun y i ⟨h1,h2⟩=> ?_
   have:=h1.1
   split
   ·rename_i hw
    have D:=Bf hw h2.2
    simp only[jA,jB] at D
    refine Bu (h.simple _ D) fun z n h3=>Ey ⟨?_, ?_⟩
    ·have:=h3.1
     rw[Fh];simp only[Ls,Fl];omega
    ·rw[okE];simp only[okL,Ph];exact⟨by decide,⟨hx,h1.2,h3.2,trivial⟩,trivial⟩
   ·split
    ·refine Ey ⟨?_, ?_⟩
     ·rw[Fh];simp only[Ls,Fl];omega
     ·rw[okE];simp only[okL,Ph];exact⟨by decide,⟨hx,h1.2,trivial⟩,trivial⟩
    ·exact Av6
  split
  ·rename_i hq
   have:=q2 hq
   refine Bu (h.simple _ L) fun y j h1=>Ey ⟨?_,Be3 hx h1.2⟩
   have:=h1.1
   rw[An5];omega
  ·split
   ·rename_i hw
    have D:=Bf hw hk
    simp only[jA,jB] at D
    exact ad _ _ (by omega) D
   ·split
    ·rename_i hw
     have D:=Bf hw hk
     simp only[jA,jB] at D
     exact ad _ _ (by omega) D
    ·exact Ey ⟨Nat.le_refl _,hx⟩
 simple k hk:=by
  obtain⟨Y,q2,L,Z⟩:=Ej (want:=0) Gp7.2.2.1 hk
  refine Bu (Dp (h.term _ L) (Dq (J.term _ L))) fun x j ⟨h1,h2⟩ y k' e=> ?_
  obtain⟨C,E⟩:=h.addL _ j h2.2 (Dq4 h1.2) y k' e
  have:=h1.1
  rw[Cs5] at C
  refine⟨?_,E⟩
  by_cases c:(opF l 0 k Gx).1=0
  ·rw[if_pos c] at C;omega
  ·have:=q2 c
   rw[if_neg c] at C;omega
 addL x k hk hx:=by
  dsimp only[Bl]
  obtain⟨Y,q2,L,Z⟩:=Ej (want:=0) Gp7.2.2.2.1 hk
  split
  ·exact Ey ⟨Nat.le_refl _,hx⟩
  ·rename_i hq
   have:=q2 hq
   refine Bu (Dp (h.term _ L) (Dq (J.term _ L))) fun y j ⟨h1,h2⟩ z k' e=> ?_
   obtain⟨C,E⟩:=h.addL _ j h2.2 (Be3 hx h1.2) z k' e
   have:=h1.1
   rw[An5] at C
   exact⟨by omega,E⟩
 term k hk:=Bu (Dp (h.factor k hk) (Dq (J.factor k hk))) fun x j ⟨h1,h2⟩ y k' e=>by
  obtain⟨C,E⟩:=h.mulL x j h2.2 h1.2 y k' e
  have:=h1.1
  exact⟨by omega,E⟩
 mulL x k hk hx:=by
  dsimp only[Bl]
  obtain⟨Y,q2,L,Z⟩:=Ej (want:=0) Gp7.2.2.2.2.1 hk
  split
  ·exact Ey ⟨Nat.le_refl _,hx⟩
  ·rename_i hq
   have:=q2 hq
   refine Bu (Dp (h.factor _ L) (Dq (J.factor _ L))) fun y j ⟨h1,h2⟩ z k' e=> ?_
   obtain⟨C,E⟩:=h.mulL _ j h2.2 (Be3 hx h1.2) z k' e
   have:=h1.1
   rw[An5] at C
   exact⟨by omega,E⟩
 factor k hk:=by
  obtain⟨Y,q2,L,Z⟩:=Ej (want:=0) Gp7.2.2.2.2.2 hk
  refine Bu (h.primary _ L) fun x j h1=>Ey ⟨?_,Dq4 h1.2⟩
  have:=h1.1
  rw[Cs5]
  by_cases c:(opF l 0 k La).1=0
  ·rw[if_pos c];omega
  ·have:=q2 c
   rw[if_neg c];omega
 primary k hk:=by
  dsimp only[Bl]
  split
  ·exact Ey ⟨by rw[Fh];simp only[Ls,Fl];omega,by rw[okE];exact⟨by decide,trivial,trivial⟩⟩
  ·split
   ·exact Ey ⟨by rw[Fh];simp only[Ls,Fl];omega,by rw[okE];exact⟨by decide,trivial,trivial⟩⟩
   ·split
    ·exact h.paren k hk
    ·exact h.name k hk
 paren k hk:=by
  dsimp only[Bl]
  refine Oe fun hw=> ?_
  have ab:=Bf hw hk
  simp only[jA,jB] at ab
  split
  ·rename_i ae
   have ac:=Bf ae ab
   simp only[jA,jB] at ac
   refine Bu (Dp (h.expr _ ac) (Dq (J.expr _ ac))) fun a M ⟨C,E⟩=>Oe fun w1=> ?_
   have D:=Bf w1 E.2
   refine Bu (Dp (h.expr _ D) (Dq (J.expr _ D))) fun b W ⟨I,X⟩=>Oe fun w2=> ?_
   have O:=Bf w2 X.2
   refine Bu (Dp (h.expr _ O) (Dq (J.expr _ O))) fun c i3 ⟨g5,g6⟩=>Oe fun w3=>Ey ⟨?_, ?_⟩
   ·have:=C.1;have:=I.1;have:=g5.1
    rw[Fh];simp only[Ls,Fl];omega
   ·rw[okE];simp only[okL,Ph];exact⟨by decide,⟨C.2,I.2,g5.2,trivial⟩,trivial⟩
  ·refine Bu (Dp (h.assoc _ ab) (Dq (J.assoc _ ab))) fun a M ⟨C,E⟩=>Bu (Dp (h.assocsL [a] M E.2 ⟨C.2,trivial⟩) (Dq (J.assocsL [a] M E.2))) fun b W ⟨I,X⟩=>Oe fun w1=>Ey ?_
   have S:=C.1
   have V:=I.1
   simp only[Fl] at V
   have key: ∀li,FE k (.mk 9 0 0 [] [] b li 0 0) (W+1):=fun li=>⟨by rw[Fh];simp only[Ls];omega,by rw[okE];exact⟨by decide,trivial,I.2⟩⟩
   match b,I,V,key with
   | [],I,_,key=>exact key _
   | x::y::r,I,_,key=>exact key _
   | [x],I,V,key=>
    show FE k (if x.c= [] then x.e else _) _
    split
    ·simp only[Fl] at V
     have h6:=Am7 x
     have h5:=I.2
     simp only[Ph] at h5
     exact⟨by omega,(Ge6.1 h5.1).2⟩
    ·exact key _
 assoc k hk:=by
  refine Bu (Dp (h.choice k hk) (Dq (J.choice k hk))) fun c M ⟨⟨C,S⟩,E⟩=> ?_
  rw[Xh] at C
  split
  ·refine Ey ?_
   rw[Ge7] at S
   rw[Xg,okA]
   simp only[Jm,Yp]
   obtain⟨m,hm⟩: ∃m,m=c.l:=⟨_,rfl⟩
   rw[<-hm] at C S⊢
   cases m with
   | nil=>exact⟨by show 0+Fh ex0+1+2*k<=_;rw[show Fh ex0=1 from rfl];omega,trivial,by simp [ex0,okE,okL,Ph]⟩
   | cons x r=>
    rw[Ls] at C
    rw[okL] at S
    exact⟨by show 0+Fh x+1+2*k<=_;omega,trivial,S.1⟩
  ·split
   ·refine Oe fun w1=> ?_
    have D:=Bf w1 E.2
    simp only[jA,jB] at D
    refine Bu (h.expr _ D) fun e W I=>Ey ⟨?_, ?_⟩
    ·have:=I.1
     rw[Xg];simp only[Jm,Xh];omega
    ·rw[okA];exact⟨⟨S,trivial⟩,I.2⟩
   ·refine Bu (Dp (h.choicesL [c] M E.2 ⟨S,trivial⟩) (Dq (J.choicesL [c] M E.2))) fun b W ⟨⟨I,V⟩,X⟩=>Oe fun w1=> ?_
    have D:=Bf w1 X.2
    simp only[jA,jB] at D
    refine Bu (h.expr _ D) fun e i3 g5=>Ey ⟨?_, ?_⟩
    ·have:=g5.1
     simp only[Jm,Xh] at I
     rw[Xg];omega
    ·rw[okA];exact⟨V,g5.2⟩
 assocsL a k hk ha:=by
  dsimp only[Bl]
  split
  ·rename_i hw
   have:=Bf hw hk
   simp only[jA,jB] at this
   refine Bu (Dp (h.assoc _ this) (Dq (J.assoc _ this))) fun x n ⟨h1,h2⟩ y k' e=> ?_
   obtain⟨g,U⟩:=h.assocsL _ n h2.2 ((Av8 _ _).2 ⟨ha,h1.2⟩) y k' e
   rw[Ah4] at g
   have:=h1.1
   exact⟨by omega,U⟩
  ·exact Ey ⟨Nat.le_refl _,ha⟩
 choice k hk:=by
  dsimp only[Bl]
  split
  ·exact Ey ⟨by rw[Am5];simp only[Ls];omega,by rw[okC];trivial⟩
  ·refine Bu (Dp (h.simple k hk) (Dq (J.simple k hk))) fun x M ⟨C,E⟩=> ?_
   have:=C.1
   split
   ·rename_i hw
    have D:=Bf hw E.2
    simp only[jA,jB] at D
    refine Bu (h.simple _ D) fun y W I=>Ey ⟨?_, ?_⟩
    ·have:=I.1
     rw[Am5];simp only[Ls];omega
    ·rw[okC];exact⟨C.2,I.2,trivial⟩
   ·refine Bu (h.rest x M E.2 C.2) fun y W I=>Ey ⟨?_, ?_⟩
    ·have:=I.1
     rw[Am5];simp only[Ls];omega
    ·rw[okC];exact⟨I.2,trivial⟩
 choicesL a k hk ha:=by
  dsimp only[Bl]
  split
  ·rename_i hw
   have:=Bf hw hk
   simp only[jA,jB] at this
   refine Bu (Dp (h.choice _ this) (Dq (J.choice _ this))) fun x n ⟨h1,h2⟩ y k' e=> ?_
   obtain⟨g,U⟩:=h.choicesL _ n h2.2 ((Bx7 _ _).2 ⟨ha,h1.2⟩) y k' e
   rw[Bm5] at g
   have:=h1.1
   exact⟨by omega,U⟩
  ·exact Ey ⟨Nat.le_refl _,ha⟩
 arg k hk:=by
  dsimp only[Bl]
  split
  ·rename_i hw
   have j0:=Rs (l:=l) (k:=k) (by rw[hw.1];decide)
   have D:=Bf hw.2 j0
   simp only[jA,jB] at D
   refine Bu (h.expr _ D) fun e M C=>Ey ⟨?_, ?_⟩
   ·have:=C.1
    rw[Xg];simp only[Jm,Am5,Ls,Fh,Fl];omega
   ·rw[okA];simp only[Yp,okC,okL,okE,Ph];exact⟨⟨⟨⟨hT k,trivial,trivial⟩,trivial⟩,trivial⟩,C.2⟩
  ·refine Bu (h.expr k hk) fun e M C=>Ey ⟨?_, ?_⟩
   ·have:=C.1
    rw[Xg];simp only[Jm];omega
   ·rw[okA];exact⟨trivial,C.2⟩
 argsL a k hk ha:=by
  dsimp only[Bl]
  split
  ·rename_i hw
   have:=Bf hw hk
   simp only[jA,jB] at this
   refine Bu (Dp (h.arg _ this) (Dq (J.arg _ this))) fun x n ⟨h1,h2⟩ y k' e=> ?_
   obtain⟨g,U⟩:=h.argsL _ n h2.2 ((Av8 _ _).2 ⟨ha,h1.2⟩) y k' e
   rw[Ah4] at g
   have:=h1.1
   exact⟨by omega,U⟩
  ·exact Ey ⟨Nat.le_refl _,ha⟩
 name k hk:=by
  dsimp only[Bl]
  refine Av7 fun aa=> ?_
  have j0:=Rs (l:=l) (k:=k) (by rw[aa];decide)
  intro x k' e
  obtain⟨g,U⟩:=h.nameL _ (.mk 3 0 0 (tk l k).text [] [] (tk l k).line 0 0) (k+1) j0 (by rw[okE];exact⟨hT k,trivial,trivial⟩) x k' e
  rw[Fh] at g
  simp only[Ls,Fl] at g
  exact⟨by omega,U⟩
 nameL i x k hk hx:=by
  have hn: ∀(y:Ex) (j:Nat),j<=l.length->okE y->Fh y+2*k<=Fh x+2*j->Li (FL k x) (p.nameL i y j):=fun y j hj hy hl z k' e=>by
   obtain⟨g,U⟩:=h.nameL i y j hj hy z k' e
   exact⟨by omega,U⟩
  dsimp only[Bl]
  split
  ·rename_i hw
   have D:=Bf hw hk
   simp only[jA,jB] at D
   refine hn _ _ D ?_ ?_
   ·rw[okE];exact⟨by decide,⟨hx,trivial⟩,trivial⟩
   ·rw[Fh];simp only[Ls,Fl];omega
  ·split
   ·rename_i hw
    have D:=Bf hw hk
    refine Av7 fun aa=> ?_
    have O:=Rs (l:=l) (k:=k+1) (by rw[aa];decide)
    refine hn _ _ O ?_ ?_
    ·rw[okE];exact⟨hT _,⟨hx,trivial⟩,trivial⟩
    ·rw[Fh];simp only[Ls,Fl];omega
   ·split
    ·rename_i hw
     have D:=Bf hw hk
     simp only[jA,jB] at D
     refine Bu (Dp (h.arg _ D) (Dq (J.arg _ D))) fun a M ⟨C,E⟩=>Bu (Dp (h.argsL [a] M E.2 ⟨C.2,trivial⟩) (Dq (J.argsL [a] M E.2))) fun b W ⟨I,X⟩=>Oe fun w1=> ?_
     have O:=Bf w1 X.2
     have S:=C.1
     have V:=I.1
     simp only[Fl] at V
     refine hn _ _ O ?_ ?_
     ·rw[okE];exact⟨by decide,⟨hx,trivial⟩,I.2⟩
     ·rw[Fh];simp only[Ls];omega
    ·split
     ·rename_i hw
      have D:=Bf hw hk
      simp only[jA,jB] at D
      have O:k+1<=l.length:=by omega
      refine Bu (Dp (h.paren _ O) (Dq (J.paren _ O))) fun y M ⟨C,E⟩=> ?_
      have S:=C.1
      refine hn _ _ E.2 ?_ ?_
      ·rw[okE];exact⟨by decide,⟨hx,C.2,trivial⟩,trivial⟩
      ·rw[Fh];simp only[Ls,Fl];omega
     ·split
      ·rename_i hw
       have D:=Bf hw hk
       refine Av7 fun aa=> ?_
       have O:=Rs (l:=l) (k:=k+1) (by rw[aa];decide)
       refine hn _ _ O ?_ ?_
       ·rw[okE];exact⟨hT _,⟨hx,trivial⟩,trivial⟩
       ·rw[Fh];simp only[Ls,Fl];omega
      ·exact Ey ⟨Nat.le_refl _,hx⟩
theorem Dg8 (h: ∀k,(tk l k).text.length<=9223372036854775807): ∀n,(P l n).Fits l
 | 0=>by constructor<;>intros<;>intro x k' e<;>cases e
 | n+1=>Dg7 h (Dg8 h n) (Jz n)
end
def Vg (l:List Tok):Nat->Res Ex
 | 0=>(Q l).expr 0
 | 1=>((Q l).simple 0).then fun x k=>(Q l).relation x k
 | 2=>(Q l).simple 0
 | 3=>(Q l).term 0
 | 4=>(Q l).factor 0
 | 5=>(Q l).primary 0
 | _=>(Q l).name 0
def Av9 (l:List Tok):Res (List Ch):=((Q l).choice 0).then fun a k=>(Q l).choicesL [a] k
def Fx (l:List Tok) (level:Int):Ex×Int×Int:=
 if level<0\/7<=level then(ex0,0,2) else match Vg l level.toNat with
  | .ok x k=>if Cg x then(x,k,0) else(ex0,0,3)
  | .fail k=>(ex0,k,30)
  | .bot=>(ex0,0,0)
def Jg (l:List Tok):List Ch×Int×Int:=match Av9 l with
  | .ok x k=>if Kp x then(x,k,0) else([],0,3)
  | .fail k=>([],k,30)
  | .bot=>([],0,0)
section
variable {l:List Tok}
theorem Aw0 (j:Nat):Vg l j≠ .bot:=by
 have t:=Ex0 (l:=l);have y: ∀ {k a:Nat},a<=7->8*(l.length-k)+a<=Fm l:=fun {k a} ha=>by unfold Fm;omega
 unfold Vg;split
 ·exact t.expr _ (by omega) (y (by omega))
 ·exact Db (t.simple _ (by omega) (y (by omega))) (Ex1.simple 0 (by omega)) fun x n _ h=>t.relation _ _ h (y (by omega))
 ·exact t.simple _ (by omega) (y (by omega))
 ·exact t.term _ (by omega) (y (by omega))
 ·exact t.factor _ (by omega) (y (by omega))
 ·exact t.primary _ (by omega) (y (by omega))
 ·exact t.name _ (by omega) (y (by omega))
theorem An6:Av9 l≠ .bot:=by
 have t:=Ex0 (l:=l);have y: ∀ {k a:Nat},a<=7->8*(l.length-k)+a<=Fm l:=fun {k a} ha=>by unfold Fm;omega
 exact Db (t.choice _ (by omega) (y (by omega))) (Ex1.choice 0 (by omega)) fun x n _ h=>t.choicesL _ _ h (y (by omega))
theorem Cf8 (j:Nat):Adv l 1 (Vg l j):=by
 have t:=Ex1 (l:=l);unfold Vg;split
 ·exact t.expr _ (by omega)
 ·exact Ce (t.simple _ (by omega)) fun x n h1 h=>Eb (t.relation x n h) h1
 ·exact t.simple _ (by omega)
 ·exact t.term _ (by omega)
 ·exact t.factor _ (by omega)
 ·exact t.primary _ (by omega)
 ·exact t.name _ (by omega)
theorem Ey4:Adv l 1 (Av9 l):=Ce (Ex1.choice 0 (by omega)) fun x n h1 h=>Eb (Ex1.choicesL _ n h) h1
def Cb (l:List Tok):Prop:= ∀k,(tk l k).text.length<=9223372036854775807
theorem Cs6 (h:Cb l) (j:Nat):Li (FE 0) (Vg l j):=by
 have t:=Dg8 h (Fm l);change (Q l).Fits l at t;unfold Vg;split
 ·exact t.expr _ (by omega)
 ·exact Bu (Dp (t.simple _ (by omega)) (Dq (Ex1.simple _ (by omega)))) fun x n ⟨h1,h2⟩ y k' e=>by
   obtain⟨g,C⟩:=t.relation x n h2.2 h1.2 y k' e;have:=h1.1;exact⟨by omega,C⟩
 ·exact t.simple _ (by omega)
 ·exact t.term _ (by omega)
 ·exact t.factor _ (by omega)
 ·exact t.primary _ (by omega)
 ·exact t.name _ (by omega)
theorem Bx8 (h:Cb l):Li (fun a k'=>Jm a<=2*k'/\Yp a) (Av9 l):=by
 have t:=Dg8 h (Fm l);change (Q l).Fits l at t;exact Bu (Dp (t.choice 0 (by omega)) (Dq (Ex1.choice 0 (by omega)))) fun x n ⟨h1,h2⟩ y k' e=>by
  obtain⟨g,C⟩:=t.choicesL [x] n h2.2 ⟨h1.2,trivial⟩ y k' e;simp only[Jm] at g;exact⟨by omega,C⟩
end
section
variable {G:Nat->DVal} {l:List Tok}
theorem Cs7 (hG:GX G) (hl:l.length<=800000) (r:Nat) (H:Ac) (hr:H r=some (rdO l 0)):Af Tryz.prog G 59 [.optr r 0] H (RdR r l H ((Vg l 1).mp dE)):=by
 have ha:=Ew7 (r:=r) hG hl (Fm l);have h:=Aw0 (l:=l) 1;refine Ab Tryz.func59 Tryz.call59 rfl (by kernel_rfl) ?_;simp(disch:=omega)only[go_sem];intro D E;dsimp only at E;have S:r≠D:=Ae E hr;have q2:=S.symm;simp(disch:=omega)only[go_sem];have h0:RAt r l 0 H (upd H D (some (.cells [.int .u8 0, .int .u8 0, .int .i64 0, .str [], .nilSlice, .nilSlice, .int .i64 0, .int .i64 0, .int .i64 0] 27))):=(RAt.refl hr).new E _;have hp:=ha.simple _ 0 h0.get (by omega);have L:=Ex1.simple (l:=l) 0 (by omega);unfold Vg at h⊢
 dsimp only at hp;change ((P l (Fm l)).simple 0).then _≠_ at h
 change Af _ _ _ _ _ _;cases hc:(P l (Fm l)).simple 0 with
 | bot=>rw[hc] at h;exact absurd rfl h
 | fail k=>
  rw[hc] at hp;refine(hp (Cf (by simp))).mono ?_;rintro e I ⟨rfl,rfl⟩;simp(disch:=omega)only[go_sem];have:(Q l).simple 0= .fail k:=hc;rw[this];exact RAt.finP (h0.set k) ⟨rfl,rfl⟩
 | ok x k=>
  rw[hc] at hp h;have hq:(Q l).simple 0= .ok x k:=hc;rw[hq] at L;refine(hp (Cf (by simp))).mono ?_;rintro e I ⟨rfl,M⟩;have h4:RAt r l k H I:=by rw[M];exact h0.set k
  have U:I D=some (.cells [.int .u8 0, .int .u8 0, .int .i64 0, .str [], .nilSlice, .nilSlice, .int .i64 0, .int .i64 0, .int .i64 0] 27):=by rw[M];exact An (Aa _ _ _) q2
  simp(disch:=omega)only[go_sem,dE];have hp2:=ha.relation x I k h4.get L.2;dsimp only at hp2;rw[hq,Nf];change (P l (Fm l)).relation x k≠_ at h;cases hc2:(P l (Fm l)).relation x k with
  | bot=>exact absurd hc2 h
  | fail C=>
   rw[hc2] at hp2;refine(hp2 (Cf (by simp))).mono ?_;rintro e J ⟨rfl,rfl⟩;simp(disch:=omega)only[go_sem];have:(Q l).relation x k= .fail C:=hc2;rw[this];exact RAt.finP (h4.set C) ⟨rfl,rfl⟩
  | ok y C=>
   rw[hc2] at hp2;refine(hp2 (Cf (by simp))).mono ?_;rintro e J ⟨rfl,O⟩;have h5:RAt r l C H J:=by rw[O];exact h4.set C
   have V:J D=some (.cells [.int .u8 0, .int .u8 0, .int .i64 0, .str [], .nilSlice, .nilSlice, .int .i64 0, .int .i64 0, .int .i64 0] 27):=by rw[O];exact An U q2
   have W:=Ad y;have X:=Bo y;simp(disch:=omega)only[go_sem,dE,V,W,X];have:(Q l).relation x k= .ok y C:=hc2;rw[this];exact RAt.fin (h5.own E q2 _) ⟨rfl,rfl⟩
theorem Ee3 (hG:GX G) (hl:l.length<=800000) (j:Nat) (C:j<7): ∃g,([.func (.func 58) [] [], .func (.func 59) [] [], .func (.func 61) [] [], .func (.func 62) [] [], .func (.func 63) [] [], .func (.func 64) [] [], .func (.func 65) [] []]:List DVal)[j]? =some (.func (.func g) [] [])/\ ∀r H,H r=some (rdO l 0)->Af Tryz.prog G g [.optr r 0] H (RdR r l H ((Vg l j).mp dE)):=by
 have ha:=fun r=>Ew7 (r:=r) hG hl (Fm l);have h:=Aw0 (l:=l) j;have y:j=0\/j=1\/j=2\/j=3\/j=4\/j=5\/j=6:=by omega
 rcases y with rfl | rfl | rfl | rfl | rfl | rfl | rfl
 ·exact⟨_,rfl,fun r H hr=>(ha r).expr H 0 hr (by omega) (Cf h)⟩
 ·exact⟨_,rfl,fun r H hr=>Cs7 hG hl r H hr⟩
 ·exact⟨_,rfl,fun r H hr=>(ha r).simple H 0 hr (by omega) (Cf h)⟩
 ·exact⟨_,rfl,fun r H hr=>(ha r).term H 0 hr (by omega) (Cf h)⟩
 ·exact⟨_,rfl,fun r H hr=>(ha r).factor H 0 hr (by omega) (Cf h)⟩
 ·exact⟨_,rfl,fun r H hr=>(ha r).primary H 0 hr (by omega) (Cf h)⟩
 ·exact⟨_,rfl,fun r H hr=>(ha r).name H 0 hr (by omega) (Cf h)⟩
def Bm6 (p:Ex×Int×Int):DVal:= .tuple [dE p.1,dI p.2.1,dI p.2.2]
theorem Lt.ex0 {H H':Ac} (hs:Sub H H'):Lt H' (.agg [.int .u8 0, .int .u8 0, .int .i64 0, .str [], .nilSlice, .nilSlice, .int .i64 0, .int .i64 0, .int .i64 0]) H (dE ex0):=Lt.agg (Lt.ex (l:= []) (a:= []) hs (.exs0 hs) (.as0 hs))
set_option maxHeartbeats 4000000 in
theorem Dg9 (hG:GX G) (H:Ac) (level:Int) (hl:l.length<=800000) (hT:Cb l):Af Tryz.prog G 11 [Bh l,dI level] H (Au (Bm6 (Fx l level)) H):=by
 refine Ab Tryz.func11 Tryz.call11 rfl (by kernel_rfl) ?_
 simp(disch:=omega)only[go_sem]
 intro I h;dsimp only at h
 have ac:=fun z=>(Sub.refl H).new h z
 simp(disch:=omega)only[go_sem]
 intro U D;dsimp only at D
 have C:I≠U:=Ae D (Aa _ _ _)
 have J:=C.symm
 have aj:H U=none:=(ac _).lo D
 simp(disch:=omega)only[go_sem]
 have L:=fun y=>((Sub.refl H).new h (some (.cells [.int .u8 0, .int .u8 0, .int .i64 0, .str [], .nilSlice, .nilSlice, .int .i64 0, .int .i64 0, .int .i64 0] 27))).new D y
 by_cases E:level<0
 ·simp(disch:=omega)only[go_sem,E,C,J]
  have hf:Fx l level=(ex0,0,2):=by rw[Fx,if_pos (.inl E)]
  rw[hf]
  have hs:=fun y z=>((L y).up h z)
  exact Lt.fin (hs _ _) (Lt.tuple (.cons (Lt.ex0 (hs _ _)) (Kq.keep (hs _ _) _))) ⟨rfl,rfl⟩
 ·by_cases M:7<=level
  ·simp(disch:=omega)only[go_sem,E,M,C,J]
   have hf:Fx l level=(ex0,0,2):=by rw[Fx,if_pos (.inr M)]
   rw[hf]
   have hs:=fun y z=>((L y).up h z)
   exact Lt.fin (hs _ _) (Lt.tuple (.cons (Lt.ex0 (hs _ _)) (Kq.keep (hs _ _) _))) ⟨rfl,rfl⟩
  ·obtain⟨j,hj⟩: ∃j:Nat,level=j:=⟨level.toNat,by omega⟩
   subst hj
   obtain⟨g,ad,ae⟩:=Ee3 (l:=l) hG hl j (by omega)
   have hf:Fx l j=match Vg l j with
    | .ok x k=>if Cg x then(x,k,0) else(ex0,0,3)
    | .fail k=>(ex0,k,30)
    | .bot=>(ex0,0,0):=by rw[Fx,if_neg (by omega),jD]
   have af:(j:Int)<7:=by omega
   simp(disch:=omega)only[go_sem,E,M,C,J,ad,jD,af]
   refine(Dg2 hG _ hl g (Vg l j) (Aw0 j) ae).mono ?_
   rintro _ H1 ⟨rfl,V⟩
   have W:=Cf8 (l:=l) j
   have X:=Cs6 hT j
   have Y:Sub H H1:=by rw[V];exact L _
   have Z:H1 I=some (.cells [.int .u8 0, .int .u8 0, .int .i64 0, .str [], .nilSlice, .nilSlice, .int .i64 0, .int .i64 0, .int .i64 0] 27):=by rw[V];exact An (Aa _ _ _) C
   cases hres:Vg l j with
   | bot=>exact absurd hres (Aw0 j)
   | fail k=>
    rw[hres] at hf
    rw[hf,Ew8]
    have ag:=Ad ex0
    have ah:=Bo ex0
    simp(disch:=omega)only[go_sem,dE,Z,ag,ah]
    have hs:=fun z=>Y.up h z
    exact Lt.fin (hs _) (Lt.tuple (.cons (Lt.ex0 (hs _)) (Kq.keep (hs _) _))) ⟨rfl,rfl⟩
   | ok x k=>
    rw[hres] at hf X W
    rw[hf,Ew8]
    obtain⟨hb,hok⟩:=X x k rfl
    have hk:=W.2
    have hF:Fit x:=⟨by omega,hok⟩
    have O:=Ad x
    have S:=Bo x
    simp(disch:=omega)only[go_sem,dE,Z,O,S]
    refine(Zt hG _ x hF).mono ?_
    rintro _ H2 ⟨rfl,aa⟩
    have ab:H2 I=some (.cells (dEx x) 27):=by rw[aa];exact Aa _ _ _
    have ai:Sub H H2:=by rw[aa];exact Y.up h _
    have hs:=fun z=>ai.up h z
    cases hm:Cg x with
    | true=>
     simp(disch:=omega)only[go_sem,ab,O,S]
     exact Es.sub (hs _) (.refl ⟨rfl,rfl⟩)
    | false=>
     simp(disch:=omega)only[go_sem,ab,O,S]
     exact Lt.fin (hs _) (Lt.tuple (.cons (Lt.ex0 (hs _)) (Kq.keep (hs _) _))) ⟨rfl,rfl⟩
def Cs8 (p:List Ch×Int×Int):DVal:= .tuple [dCl p.1,dI p.2.1,dI p.2.2]
set_option maxHeartbeats 4000000 in
theorem Cf9 (hG:GX G) (H:Ac) (hl:l.length<=800000) (C:Cb l):Af Tryz.prog G 304 [Bh l] H (Au (Cs8 (Jg l)) H):=by
 have ha:=fun r=>Ew7 (r:=r) hG hl;refine Ab Tryz.func304 Tryz.call304 rfl (by kernel_rfl) ?_;simp(disch:=omega)only[go_sem];refine(Cs2 hG H hl 319 ((Av9 l).mp dCl) (Cf An6) ?_ ?_).mono ?_
 ·intro v k e;cases hc:Av9 l with
  | bot=>rw[hc] at e;cases e
  | fail k=>rw[hc] at e;cases e
  | ok x k=>rw[hc] at e;cases e;exact⟨rfl,rfl⟩
 ·intro r H hr;exact Cf0 hG hl (Fm l) (fun m _=>(ha r m).choice) H 0 hr (by omega) (Cf An6)
 ·rintro _ H1 ⟨rfl,rfl⟩;have h:=Ey4 (l:=l);have y:=Bx8 C;unfold Jg;cases hres:Av9 l with
  | bot=>exact absurd hres An6
  | fail k=>
   simp(disch:=omega)only[go_sem,Ew9,Res.mp];exact Lt.fin (Sub.refl _) (Lt.tuple (.cons (Lt.nil (Sub.refl _)) (Kq.keep (Sub.refl _) _))) ⟨rfl,rfl⟩
  | ok x k=>
   rw[hres] at y h;obtain⟨hb,hok⟩:=y x k rfl;have hk:=h.2;simp(disch:=omega)only[go_sem,Ew9,Res.mp];refine(Nm hG _ x (by omega) hok).mono ?_;rintro _ H2 ⟨rfl,rfl⟩;cases hm:Kp x with
   | true=>
    simp(disch:=omega)only[go_sem];exact Es.refl ⟨rfl,rfl⟩
   | false=>
    simp(disch:=omega)only[go_sem];exact Lt.fin (Sub.refl _) (Lt.tuple (.cons (Lt.nil (Sub.refl _)) (Kq.keep (Sub.refl _) _))) ⟨rfl,rfl⟩
end
def WAt (B:Ac) (r:Nat) (ts:List Tok) (H:Ac):Prop:= ∃v,Jf (upd B r (some (.cells [v] 241))) 31 4 ts.length (ts.flatMap Cy) v H
def WrC (P:Program) (G:Nat->DVal) (f:FuncId) (args:List DVal) (t:List Tok):Prop:=
 ∀B r ts H,B r=none->ts.length+t.length<=1000000000->WAt B r ts H->Af P G f (.optr r 0::args) H (fun e H'=>e= .ret (.tuple [])/\WAt B r (ts++t) H')
section
variable {B B1 H H':Ac} {r x:Nat} {ts:List Tok}
theorem WAt.keep (h:WAt B r ts H) {o:DObj} (hx:B x=some o) (n:x≠r):H x=some o:=by
 obtain⟨v,h⟩:=h;exact h.keep (by rw[Ak _ _ _ _ n];exact hx)
theorem WAt.lo (h:WAt B r ts H) (hx:H x=none):B x=none/\x≠r:=by
 obtain⟨v,h⟩:=h;have:=h.sub.lo hx;simp only[upd] at this;split at this
 ·cases this
 ·exact⟨this,‹_›⟩
theorem WAt.frame (h:WAt B r ts H) (hx:H x=none) (o:DObj):WAt (upd B x (some o)) r ts (upd H x (some o)):=by
 have n:=(h.lo hx).2;obtain⟨v,h⟩:=h;refine⟨v, ?_⟩;rw[Zi n.symm];exact h.frame hx o
theorem WAt.less (h:WAt B r ts H) (s:Sub B1 B):WAt B1 r ts H:=by
 obtain⟨v,h⟩:=h;exact⟨v,h.less (s.both r _)⟩
theorem WAt.drop {o:DObj} (h:WAt (upd B x (some o)) r ts H) (hx:B x=none):WAt B r ts H:=h.less ((Sub.refl B).new hx _)
end
section
variable {G:Nat->DVal} {H:Ac}
theorem Hl (ts:List Tok) (t:Tok):(ts++ [t]).flatMap Cy=ts.flatMap Cy++Cy t:=by simp
set_option maxHeartbeats 4000000 in
theorem Lw (hG:GX G) (ws:List (List UInt8)):WrC Tryz.prog G 258 [dW ws] (ws.map Ah):=by
 intro B r ts H hB ah hw;rw[jK] at ah;refine Ab Tryz.func258 Tryz.call258 rfl (by kernel_rfl) ?_;simp(disch:=omega)only[go_sem,dW];obtain⟨I,W⟩: ∃I:Nat->(Nat->DVal)->Ac->Prop,∀j env heap,I j env heap↔(env 0= .optr r 0/\env 7=dW ws/\env 8=dI ws.length/\env 9=dI j/\j<=ws.length/\WAt B r (ts++(ws.take j).map Ah) heap):=⟨_,fun _ _ _=>Iff.rfl⟩;refine Dn5.run I (fun j=>ws.length-j) 0 ((W _ _ _).2 ?_) ?_
 ·simp(disch:=omega)only[go_sem];(repeat' apply And.intro)<;>(try first | rfl | assumption | omega);simpa using hw
 ·intro j env heap hi;obtain⟨h,y,C,D,hj,Z⟩:=(W _ _ _).1 hi;by_cases ae:j<ws.length
  ·have aa:(j:Int)<(ws.length:Int):=by omega
   have af:IntKind.i64.wrap ((j:Int)+1)=((j+1:Nat):Int):=by rw[IntKind.wrap_i64];omega
   have ag:(ws.map DVal.str)[j]? =some (.str ws[j]):=by rw[List.getElem?_map,List.getElem?_eq_getElem ae];rfl
   have ai:(ws.map DVal.str).length=ws.length:=jK _;have ab:(ws.take (j+1)).map Ah=(ws.take j).map Ah++ [Ah ws[j]]:=by rw[List.take_add_one,List.getElem?_eq_getElem ae,Option.toList_some,List.map_append,List.map_singleton]
   obtain⟨s,aj⟩: ∃s,s=ws[j]:=⟨_,rfl⟩;rw[<-aj] at ag ab;simp(disch:=omega)only[go_sem,h,y,C,D,aa,dW,ag,ai,jD];intro r6 X;dsimp only at X;simp(disch:=omega)only[go_sem,h,y,C,D];obtain⟨v,hv⟩:=Z;have E:=hv.keep (Aa _ _ _);have J:r≠r6:=Ae X E;have Y:=J.symm;have ak:(ts++(ws.take j).map Ah).length<=1000000000:=by rw[jC,jK,List.length_take];omega
   refine(Vt hG _ s).mono ?_;rintro _ H2 ⟨rfl,rfl⟩;cases hkb:Tw s with
   | true=>
    have hk:Ah s=⟨2,0,s,0⟩:=by rw[Ah,Il,hkb];rfl
    simp(disch:=omega)only[go_sem,h,y,C,D];refine Aj (by kernel_rfl) pL5 (by kernel_rfl) ?_;simp(disch:=omega)only[go_sem,h,y,C,D,E,J,Y];intro ac L;dsimp only at L;have O:r≠ac:=Ae L (An E J);have ad:=O.symm;have S:=(hv.new X _).new L (some (.cells (Cy (Ah s)) 31));simp(disch:=omega)only[go_sem,h,y,C,D,E,J,Y,O,ad];rw[hk] at S;refine Jf.append (m:=1) S rfl (by omega) fun U H6 M=> ?_;have g6:=M.keep (Aa _ _ _);obtain⟨j1,j2⟩:=M.cell1;simp(disch:=omega)only[go_sem,h,y,C,D,g6,j1,j2];refine⟨j+1,_,Ri.refl _,(W _ _ _).2 ?_,by omega⟩;simp(disch:=omega)only[go_sem,h,y,C,D,af];(repeat' apply And.intro)<;>(try first | rfl | assumption | omega);refine⟨U, ?_⟩;have V:=M.at (Aa _ _ _) (some (.cells [U] 241));rw[Fy] at V;rw[ab,<-jO,Hl,hk,jC,jQ];exact V
   | false=>
    have hk:Ah s=⟨4,0,s,0⟩:=by rw[Ah,Il,hkb];rfl
    simp(disch:=omega)only[go_sem,h,y,C,D];refine Aj (by kernel_rfl) pL5 (by kernel_rfl) ?_;simp(disch:=omega)only[go_sem,h,y,C,D,E,J,Y];intro ac L;dsimp only at L;have O:r≠ac:=Ae L (An E J);have ad:=O.symm;have S:=(hv.new X _).new L (some (.cells (Cy (Ah s)) 31));simp(disch:=omega)only[go_sem,h,y,C,D,E,J,Y,O,ad];rw[hk] at S;refine Jf.append (m:=1) S rfl (by omega) fun U H6 M=> ?_;have g6:=M.keep (Aa _ _ _);obtain⟨j1,j2⟩:=M.cell1;simp(disch:=omega)only[go_sem,h,y,C,D,g6,j1,j2];refine⟨j+1,_,Ri.refl _,(W _ _ _).2 ?_,by omega⟩;simp(disch:=omega)only[go_sem,h,y,C,D,af];(repeat' apply And.intro)<;>(try first | rfl | assumption | omega);refine⟨U, ?_⟩;have V:=M.at (Aa _ _ _) (some (.cells [U] 241));rw[Fy] at V;rw[ab,<-jO,Hl,hk,jC,jQ];exact V
  ·have:j=ws.length:=by omega
   subst this;have aa: ¬(ws.length:Int)<(ws.length:Int):=by omega
   rw[List.take_length] at Z;simp(disch:=omega)only[go_sem,h,y,C,D,aa];exact Es.refl ⟨rfl,Z⟩
end
section
variable {G:Nat->DVal} {H B:Ac} {r:Nat} {ts:List Tok}
theorem WAt.ne {x:Nat} (h:WAt B r ts H) (hx:H x=none):r≠x:=fun e=>(h.lo hx).2 e.symm
def WQ (B:Ac) (r:Nat) (ts:List Tok) (e:DEnd) (H':Ac):Prop:=e= .ret (.tuple [])/\WAt B r ts H'
theorem Ty (hG:GX G) (s:List UInt8) {q:Nat} (h:H q=none) (y:B r=none) (C:ts.length+1<=1000000000) (hw:WAt B r ts H):Af Tryz.prog G 258 [.optr r 0, .oslice 1 q 0 1 1] (upd H q (some (.cells [.str s] 9))) (WQ B r (ts++ [Ah s])):=by
 refine Af.fzA q h ?_;have n:r≠q:=hw.ne h;simp only[fzs,fz,if_neg n,if_pos];exact Lw hG [s] B r ts H y C hw
theorem Gq2 (hG:GX G) (s t:List UInt8) {q:Nat} (h:H q=none) (y:B r=none) (C:ts.length+2<=1000000000) (hw:WAt B r ts H):Af Tryz.prog G 258 [.optr r 0, .oslice 1 q 0 2 2] (upd H q (some (.cells [.str s, .str t] 9))) (WQ B r (ts++ [Ah s,Ah t])):=by
 refine Af.fzA q h ?_;have n:r≠q:=hw.ne h;simp only[fzs,fz,if_neg n,if_pos];exact Lw hG [s,t] B r ts H y C hw
theorem Ah5 (G:Nat->DVal) (s:List UInt8):WrC Tryz.prog G 259 [.str s] [Ci s]:=by
 intro B r ts H W J hw;rw[jQ] at J;refine Ab Tryz.func259 Tryz.call259 rfl (by kernel_rfl) ?_;simp(disch:=omega)only[go_sem];obtain⟨v,hv⟩:=hw;have h:=hv.keep (Aa _ _ _);simp(disch:=omega)only[go_sem,h];intro L y;dsimp only at y;have D:r≠L:=Ae y h;have M:=D.symm;have O:=hv.new y (some (.cells (Cy (Ci s)) 31));simp(disch:=omega)only[go_sem,h,D,M];refine Jf.append (m:=1) O rfl (by omega) fun E X C=> ?_;have S:=C.keep (Aa _ _ _);obtain⟨U,V⟩:=C.cell1;simp(disch:=omega)only[go_sem,S,U,V];refine Es.refl ⟨rfl,E, ?_⟩;have I:=C.at (Aa _ _ _) (some (.cells [E] 241));rw[Fy] at I;rw[Hl,jC,jQ];exact I
end
section
variable {G:Nat->DVal}
set_option maxHeartbeats 4000000 in
theorem Dm (hG:GX G) (e:Ex) (h:Int) (he:WrC Tryz.prog G 187 [.agg (dEx e)] (Am e)):WrC Tryz.prog G 260 [.agg (dEx e),dI h] (Ay e h):=by
 intro B r ts H V C hw;refine Ab Tryz.func260 Tryz.call260 rfl (by kernel_rfl) ?_;simp(disch:=omega)only[go_sem,DVal.cells];intro y D;dsimp only at D;obtain⟨K,I⟩: ∃K',K'=upd H y (some (.cells (dEx e) 27)):=⟨_,rfl⟩;rw[<-I];have J:K y=some (.cells (dEx e) 27):=by rw[I];exact Aa _ _ _
 have L:WAt (upd B y (some (.cells (dEx e) 27))) r ts K:=by rw[I];exact hw.frame D _
 have M:r≠y:=hw.ne D;have O:B y=none:=(hw.lo D).1;have E:upd B y (some (.cells (dEx e) 27)) r=none:=by rw[Ak _ _ _ _ M];exact V
 simp(disch:=omega)only[go_sem,J];refine(Xi G K e).mono ?_;rintro _ X ⟨rfl,rfl⟩;by_cases c:Ba e<h
 ·have c': ¬h<=Ba e:=by omega
  have hp:Ay e h=Ah Bi::(Am e++ [Ah Bt]):=by rw[Ay,decide_eq_true c];rfl
  rw[hp] at C⊢
  simp only[jA,jC,jB] at C;simp(disch:=omega)only[go_sem,c'];intro Y S;dsimp only at S;simp(disch:=omega)only[go_sem];refine(Ty hG Bi S E (by omega) L).mono ?_;rintro _ H1 ⟨rfl,h1⟩;have W:=h1.keep (Aa _ _ _) M.symm;simp(disch:=omega)only[go_sem,W];refine(he _ r _ _ E (by simp;omega) h1).mono ?_;rintro _ H2 ⟨rfl,h2⟩;simp(disch:=omega)only[go_sem];intro q2 U;dsimp only at U;simp(disch:=omega)only[go_sem];refine(Ty hG Bt U E (by simp;omega) h2).mono ?_;rintro _ Z ⟨rfl,h3⟩;simp(disch:=omega)only[go_sem];refine Es.refl ⟨rfl, ?_⟩;have:=h3.drop O;simpa using this
 ·have c':h<=Ba e:=by omega
  have hp:Ay e h=Am e:=by rw[Ay,decide_eq_false c];rfl
  rw[hp] at C⊢
  simp(disch:=omega)only[go_sem,c',J];refine(he _ r _ _ E C L).mono ?_;rintro _ H1 ⟨rfl,h1⟩;simp(disch:=omega)only[go_sem];exact Es.refl ⟨rfl,h1.drop O⟩
end
end Go.Dl
-- Chapter 3: expressions: the plain laws, 
namespace Go.Dl
open Go
set_option maxRecDepth 10000
mutual
/-- Without lines, entities, types. -/
def stE:Ex->Ex
 | .mk k o n s l a _ _ _=> .mk k o n s (stL l) (Bm7 a) 0 0 0
def stL:List Ex->List Ex
 | []=> []
 | x::l=>stE x::stL l
def stA:As->As
 | .mk c e=> .mk (Bm8 c) (stE e)
def Bm7:List As->List As
 | []=> []
 | x::l=>stA x::Bm7 l
def stC:Ch->Ch
 | .mk k l=> .mk k (stL l)
def Bm8:List Ch->List Ch
 | []=> []
 | x::l=>stC x::Bm8 l
end
theorem An7: ∀l:List Ex,stL l=l.map stE
 | []=>rfl
 | x::l=>by rw[stL,An7 l,jN]
theorem Bm9: ∀l:List As,Bm7 l=l.map stA
 | []=>rfl
 | x::l=>by rw[Bm7,Bm9 l,jN]
theorem Bn0: ∀l:List Ch,Bm8 l=l.map stC
 | []=>rfl
 | x::l=>by rw[Bm8,Bn0 l,jN]
theorem Pa (e:Ex):(stE e).kind=e.kind:=by cases e;rfl
theorem Ey5 (e:Ex):(stE e).oper=e.oper:=by cases e;rfl
theorem Gn1 (e:Ex):(stE e).n=e.n:=by cases e;rfl
theorem Gn2 (e:Ex):(stE e).s=e.s:=by cases e;rfl
theorem Cs9 (e:Ex):(stE e).l=e.l.map stE:=by cases e;exact An7 _
theorem Fx2 (e:Ex):(stE e).a=e.a.map stA:=by cases e;exact Bm9 _
theorem Vz (e:Ex):(stE e).line=0:=by cases e;rfl
theorem Bn1 (x:As):(stA x).c=x.c.map stC:=by cases x;exact Bn0 _
theorem Fx3 (x:As):(stA x).e=stE x.e:=by cases x;rfl
theorem An8 (c:Ch):(stC c).kind=c.kind:=by cases c;rfl
theorem Dq5 (c:Ch):(stC c).l=c.l.map stE:=by cases c;exact An7 _
theorem Fd (e:Ex):stE e= .mk e.kind e.oper e.n e.s (e.l.map stE) (e.a.map stA) 0 0 0:=by cases e;rw[stE,An7,Bm9];rfl
theorem Ah6 (x:As):stA x= .mk (x.c.map stC) (stE x.e):=by cases x;rw[stA,Bn0];rfl
theorem Bn2 (c:Ch):stC c= .mk c.kind (c.l.map stE):=by cases c;rw[stC,An7];rfl
mutual
theorem Wa: ∀e f:Ex,Hq e f=true↔stE e=stE f
 | .mk k o n s l a li en t, .mk k' o' n' s' l' a' li' en' t'=>by
  rw[Hq,stE,stE]
  show(decide (k=k')&&decide (o=o')&&decide (n=n')&&decide (s=s')&&Lr l l'&&Nu a a')=true↔_
  simp only[jF,decide_eq_true_eq,Bn3 l l',Bx9 a a',Ex.mk.injEq,and_true,and_assoc]
theorem Bn3: ∀l m:List Ex,Lr l m=true↔stL l=stL m
 | [],[]=>by simp [Lr,stL]
 | [],y::m=>by simp [Lr,stL]
 | x::l,[]=>by simp [Lr,stL]
 | x::l,y::m=>by rw[Lr,stL,stL,jF,Wa x y,Bn3 l m,List.cons.injEq]
theorem Ey6: ∀x y:As,Az6 x y=true↔stA x=stA y
 | .mk c e, .mk c' e'=>by
  rw[Az6,stA,stA]
  show(Mv c c'&&Hq e e')=true↔_
  simp only[jF,By0 c c',Wa e e',As.mk.injEq]
theorem Bx9: ∀l m:List As,Nu l m=true↔Bm7 l=Bm7 m
 | [],[]=>by simp [Nu,Bm7]
 | [],y::m=>by simp [Nu,Bm7]
 | x::l,[]=>by simp [Nu,Bm7]
 | x::l,y::m=>by rw[Nu,Bm7,Bm7,jF,Ey6 x y,Bx9 l m,List.cons.injEq]
theorem Ey7: ∀x y:Ch,Az7 x y=true↔stC x=stC y
 | .mk k l, .mk k' l'=>by
  rw[Az7,stC,stC]
  show(decide (k=k')&&Lr l l')=true↔_
  simp only[jF,decide_eq_true_eq,Bn3 l l',Ch.mk.injEq]
theorem By0: ∀l m:List Ch,Mv l m=true↔Bm8 l=Bm8 m
 | [],[]=>by simp [Mv,Bm8]
 | [],y::m=>by simp [Mv,Bm8]
 | x::l,[]=>by simp [Mv,Bm8]
 | x::l,y::m=>by rw[Mv,Bm8,Bm8,jF,Ey7 x y,By0 l m,List.cons.injEq]
end
theorem An9 (e:Ex):Cd (stE e)=Cd e:=by rw[Cd,Cd,Pa]
theorem Aw1 (l:List Ex) (i:Nat):(l.map stE).getD i ex0=stE (l.getD i ex0):=by
 rw[List.getD,List.getD,List.getElem?_map];cases l[i]? <;>rfl
theorem Of {α β:Type} (f:α->β) (l:List α):(l.map f).isEmpty=l.isEmpty:=by cases l<;>rfl
theorem Ee4 (e:Ex) (k:Nat):Jk (stE e) k=Jk e k:=by
 rw[Jk,Jk,Cs9,jK,Aw1,An9]
theorem Bn4: ∀l:List As,Tg (l.map stA)=Tg l
 | []=>rfl
 | [_]=>rfl
 | a::b::r=>by
  have:=Bn4 (b::r);rw[jN] at this;rw[jN,jN,Tg,Tg,this,Bn1,Bn1,Of,Of]
theorem Ct0 (l:List Ch):Eu (l.map stC)=Eu l:=by
 match l with
 | []=>rfl
 | [.mk k []]=>rfl
 | [.mk k [x]]=>show(decide _&&decide ((stE x).kind=3))=_;rw[Pa];rfl
 | [.mk k (x::y::r)]=>rfl
 | c::d::r=>rfl
theorem Ee5 (n:Nat) (c:Ch):Fj n (stC c)=Fj n c:=by simp only[Fj,An8,Dq5,jK]
theorem all_map {α β:Type} (f:α->β) (p:β->Bool) (l:List α):(l.map f).all p=l.all fun x=>p (f x):=by rw[List.all_map];rfl
theorem Bn5 (l:List Ch):Dk (l.map stC)=Dk l:=by
 simp only[Dk,jK,all_map,Ee5]
theorem Ee6 (l:List As):Ns (l.map stA)=Ns l:=by
 simp only[Ns,jK,Bn4,all_map,Bn1,Of,Ct0]
theorem Bn6 (l:List Ch):Oc (l.map stC)=Oc l:=by
 cases l with
 | nil=>rfl
 | cons c r=>simp only[jN,Oc,An8]
theorem Ba1: ∀l:List As,Hy (l.map stA)=Hy l
 | []=>rfl
 | a::r=>by simp only[jN,Hy,Ba1 r,Bn1,Of,Bn5,Bn6]
theorem Bn7 (l:List As):Ur (l.map stA)=Ur l:=by
 match l with
 | []=>rfl
 | [a]=>show(stA a).c.isEmpty=_;rw[Bn1,Of];rfl
 | _::_::_=>rfl
theorem Ct1 (l:List As):Ip (l.map stA)=Ip l:=by
 simp only[Ip,jK,Bn4,Bn7,Ba1]
theorem Ee7 (e:Ex):Bc (stE e)=Bc e:=by
 simp only[Bc,zO,zN,zS,zA,Ee4,Pa,Ey5,Gn1,Gn2,Cs9,Fx2,Of,jK,Ee6,Ct1,Aw1,An9]
theorem Xl {α β γ:Type} (f:α->β) (g:β->List γ) (l:List α):(l.map f).flatMap g=l.flatMap fun x=>g (f x):=by
 induction l with
 | nil=>rfl
 | cons x l ih=>rw[jN,List.flatMap_cons,List.flatMap_cons,ih]
theorem Ee8 (x:As):Fb (stA x)=(Fb x).map stE:=by
 rw[Fb,Fb,Bn1,Fx3,Xl,List.map_append,List.map_flatMap,List.map_singleton];congr 1;simp only[Dq5]
theorem Ct2 (e:Ex):parts (stE e)=(parts e).map stE:=by
 rw[parts,parts,Cs9,Fx2,Xl,List.map_append,List.map_flatMap];simp only[Ee8]
theorem Cg0 (e:Ex):Hx (stE e)=Hx e:=by
 refine Ex.ind (p:=fun e=>Hx (stE e)=Hx e) (fun e ih=> ?_) e;rw[Sl,Sl e,Ct2,Pg,Pg,List.map_map];congr 2;exact List.map_congr_left ih
theorem Ey8 (e:Ex): ∀d,Fc d (stE e)=Fc d e:=by
 refine Ex.ind (p:=fun e=> ∀d,Fc d (stE e)=Fc d e) (fun e ih d=> ?_) e;rw[Py,Py d e,Ee7,Ct2,all_map];congr 1;rw[Bool.eq_iff_iff,List.all_eq_true,List.all_eq_true];exact⟨fun h x hx=>by rw[<-ih x hx];exact h x hx,fun h x hx=>by rw[ih x hx];exact h x hx⟩
theorem Cg1 (e:Ex):Cg (stE e)=Cg e:=by rw[Cg,Cg,Ey8,Cg0]
theorem Jn {e f:Ex} (h:stE e=stE f):Cg e=Cg f:=by rw[<-Cg1 e,h,Cg1]
def stT (t:Tok):Tok:=⟨t.kind,0,t.text,t.n⟩
section
variable {l:List Tok}
theorem Ba2 (k:Nat):tk (l.map stT) k=stT (tk l k):=by
 rw[tk,tk,List.getD,List.getD,List.getElem?_map];cases l[k]? <;>rfl
theorem Th (k:Nat):(tk (l.map stT) k).kind=(tk l k).kind:=by rw[Ba2];rfl
theorem Xm (k:Nat):(tk (l.map stT) k).text=(tk l k).text:=by rw[Ba2];rfl
theorem Fq1 (k:Nat):(tk (l.map stT) k).n=(tk l k).n:=by rw[Ba2];rfl
theorem Kj (k:Nat):(tk (l.map stT) k).line=0:=by rw[Ba2];rfl
theorem Mw: ∀(ws:List (List UInt8)) (k:Nat),isW (l.map stT) k ws=isW l k ws
 | [],_=>rfl
 | s::r,k=>by rw[isW,isW,Th,Xm,Mw r]
theorem Zw (want k:Nat): ∀os:List Nat,opF (l.map stT) want k os=opF l want k os
 | []=>rfl
 | o::r=>by rw[opF,opF,Mw,Zw want k r]
def Nt {α β:Type} (f:α->β):Res α->Res β->Prop
 | .bot,r=>r= .bot
 | .fail k,r=>r= .fail k
 | .ok x k,r=>r= .ok (f x) k
theorem Dc {α α' β β':Type} {f:α->α'} {g:β->β'} {r:Res α} {y:Res α'} {F:α->Nat->Res β} {C:α'->Nat->Res β'} (h:Nt f r y) (k: ∀x j,Nt g (F x j) (C (f x) j)):Nt g (r.then F) (y.then C):=by
 cases r with
 | bot=>cases h;exact rfl
 | fail j=>cases h;exact rfl
 | ok x j=>cases h;exact k x j
theorem Dt {α β:Type} {f:α->β} {c:Prop} [Decidable c] {a b:Res α} {y C:Res β} (h:Nt f a y) (k:Nt f b C):Nt f (if c then a else b) (if c then y else C):=by
 split
 ·exact h
 ·exact k
theorem Ks {α β:Type} {f:α->β} {x:α} {y:β} {k:Nat} (h:y=f x):Nt f (.ok x k) (.ok y k):=by rw[h];exact rfl
theorem Nn {α β:Type} {f:α->β} {k:Nat}:Nt f (.fail k) (.fail k):=rfl
theorem Be4 (o:Nat) (x y:Ex):stE (both o x y)=both o (stE x) (stE y):=by
 simp only[Fd (both o x y),both,Vz];rfl
theorem Dq6 (o:Nat) (li:Int) (x:Ex):stE (Qq o li x)=Qq o 0 (stE x):=by
 unfold Qq;split
 ·rfl
 ·rw[Fd];rfl
theorem Fq2 (li:Int) (az:List As):stE (Bj9 li az)=Bj9 0 (az.map stA):=by
 match az with
 | []=>rfl
 | [x]=>
  show stE (if x.c= [] then x.e else _)=if(stA x).c= [] then(stA x).e else _
  rw[Bn1,Fx3]
  by_cases c:x.c= []
  ·rw[if_pos c,if_pos (by rw[c];rfl)]
  ·rw[if_neg c,if_neg (by simpa using c),Fd];rfl
 | x::y::r=>show stE (.mk 9 0 0 [] [] _ li 0 0)=_;rw[Fd];rfl
structure PS.Nat (p q:PS):Prop where
 expr: ∀k,Nt stE (p.expr k) (q.expr k)
 rest: ∀x k,Nt stE (p.rest x k) (q.rest (stE x) k)
 restL: ∀o x k,Nt stE (p.restL o x k) (q.restL o (stE x) k)
 relation: ∀x k,Nt stE (p.relation x k) (q.relation (stE x) k)
 simple: ∀k,Nt stE (p.simple k) (q.simple k)
 addL: ∀x k,Nt stE (p.addL x k) (q.addL (stE x) k)
 term: ∀k,Nt stE (p.term k) (q.term k)
 mulL: ∀x k,Nt stE (p.mulL x k) (q.mulL (stE x) k)
 factor: ∀k,Nt stE (p.factor k) (q.factor k)
 primary: ∀k,Nt stE (p.primary k) (q.primary k)
 paren: ∀k,Nt stE (p.paren k) (q.paren k)
 assoc: ∀k,Nt stA (p.assoc k) (q.assoc k)
 assocsL: ∀a k,Nt (List.map stA) (p.assocsL a k) (q.assocsL (a.map stA) k)
 choice: ∀k,Nt stC (p.choice k) (q.choice k)
 choicesL: ∀a k,Nt (List.map stC) (p.choicesL a k) (q.choicesL (a.map stC) k)
 arg: ∀k,Nt stA (p.arg k) (q.arg k)
 argsL: ∀a k,Nt (List.map stA) (p.argsL a k) (q.argsL (a.map stA) k)
 name: ∀k,Nt stE (p.name k) (q.name k)
 nameL: ∀i x k,Nt stE (p.nameL i x k) (q.nameL 0 (stE x) k)
theorem Dq7 {p q:PS} (h:p.Nat q) (x:Ex) (kind:Int) (k:Nat):Nt stE (inK l x kind k p) (inK (l.map stT) (stE x) kind k q):=by
 unfold inK;simp only[Mw];refine Dc (h.simple _) fun y j=> ?_;simp only[An9];exact Dt (Dc (h.simple _) fun z i=>Ks (by rw[Vz,Fd (.mk _ _ _ _ _ _ _ _ _)];rfl)) (Dt (Ks (by rw[Vz,Fd (.mk _ _ _ _ _ _ _ _ _)];rfl)) Nn)
theorem Ee9 {p q:PS} (h:p.Nat q):(Bl l p).Nat (Bl (l.map stT) q) where
 expr k:=Dc (h.simple k) fun x k=>h.rest x k
 rest x k:=Dc (h.relation x k) fun x k=>by simp only[Zw];exact h.restL _ x k
 restL o x k:=by
  dsimp only[Bl];simp only[Zw]
  exact Dt (Ks rfl) (Dt (Ks rfl) (Dc (h.simple _) fun y k=>Dc (h.relation y k) fun y k=>by rw[<-Be4];exact h.restL _ _ k))
 relation x k:=by
  dsimp only[Bl];simp only[Zw,Mw]
  exact Dt (Dc (h.simple _) fun y k=>Ks (Be4 _ _ _).symm) (Dt (Dq7 h _ _ _) (Dt (Dq7 h _ _ _) (Ks rfl)))
 simple k:=by
  dsimp only[Bl];simp only[Zw,Kj]
  exact Dc (h.term _) fun x k'=>by rw[<-Dq6 _ (tk l k).line];exact h.addL _ _
 addL x k:=by
  dsimp only[Bl];simp only[Zw]
  exact Dt (Ks rfl) (Dc (h.term _) fun y k=>by rw[<-Be4];exact h.addL _ _)
 term k:=Dc (h.factor k) fun x k=>h.mulL x k
 mulL x k:=by
  dsimp only[Bl];simp only[Zw]
  exact Dt (Ks rfl) (Dc (h.factor _) fun y k=>by rw[<-Be4];exact h.mulL _ _)
 factor k:=by
  dsimp only[Bl];simp only[Zw,Kj]
  exact Dc (h.primary _) fun x k'=>Ks (Dq6 _ _ _).symm
 primary k:=by
  dsimp only[Bl];simp only[Mw,Th,Fq1,Kj]
  exact Dt (Ks (by rw[Fd (.mk _ _ _ _ _ _ _ _ _)];rfl)) (Dt (Ks (by rw[Fd (.mk _ _ _ _ _ _ _ _ _)];rfl)) (Dt (h.paren k) (h.name k)))
 paren k:=by
  dsimp only[Bl,must];simp only[Mw,Kj]
  refine Dt (Dt (Dc (h.expr _) fun a k=>Dt (Dc (h.expr _) fun b k=>Dt (Dc (h.expr _) fun c k=>Dt (Ks (by rw[Fd (.mk _ _ _ _ _ _ _ _ _)];rfl)) Nn) Nn) Nn) ?_) Nn
  exact Dc (h.assoc _) fun a k=>Dc (h.assocsL [a] k) fun az k=>Dt (Ks (Fq2 _ _).symm) Nn
 assoc k:=by
  dsimp only[Bl,must];simp only[Mw]
  refine Dc (h.choice k) fun c k=> ?_
  rw[An8,Dq5,Aw1]
  exact Dt (Ks (by rw[Ah6 (.mk _ _)];rfl)) (Dt (Dt (Dc (h.expr _) fun e k=>Ks (by rw[Ah6 (.mk _ _)];rfl)) Nn) (Dc (h.choicesL [c] k) fun cs k=>Dt (Dc (h.expr _) fun e k=>Ks (by rw[Ah6 (.mk _ _)];rfl)) Nn))
 assocsL az k:=by
  dsimp only[Bl];simp only[Mw]
  exact Dt (Dc (h.assoc _) fun a k=>by
   have:=h.assocsL (az++ [a]) k
   rw[List.map_append] at this;exact this) (Ks rfl)
 choice k:=by
  dsimp only[Bl];simp only[Mw]
  exact Dt (Ks (by rw[Bn2 (.mk _ _)];rfl)) (Dc (h.simple k) fun x k=>Dt (Dc (h.simple _) fun y k=>Ks (by rw[Bn2 (.mk _ _)];rfl)) (Dc (h.rest x k) fun y k=>Ks (by rw[Bn2 (.mk _ _)];rfl)))
 choicesL az k:=by
  dsimp only[Bl];simp only[Mw]
  exact Dt (Dc (h.choice _) fun a k=>by
   have:=h.choicesL (az++ [a]) k
   rw[List.map_append] at this;exact this) (Ks rfl)
 arg k:=by
  dsimp only[Bl];simp only[Mw,Th,Xm,Kj]
  exact Dt (Dc (h.expr _) fun e k=>Ks (by rw[Ah6 (.mk _ _)];rfl)) (Dc (h.expr _) fun e k=>Ks (by rw[Ah6 (.mk _ _)];rfl))
 argsL az k:=by
  dsimp only[Bl];simp only[Mw]
  exact Dt (Dc (h.arg _) fun a k=>by
   have:=h.argsL (az++ [a]) k
   rw[List.map_append] at this;exact this) (Ks rfl)
 name k:=by
  dsimp only[Bl,Iz];simp only[Th,Xm,Kj]
  refine Dt ?_ Nn
  have:=h.nameL (tk l k).line (.mk 3 0 0 (tk l k).text [] [] (tk l k).line 0 0) (k+1)
  rw[Fd (.mk _ _ _ _ _ _ _ _ _)] at this
  exact this
 nameL i x k:=by
  have hn: ∀y z j,stE y=z->Nt stE (p.nameL i y j) (q.nameL 0 z j):=fun y z j e=>by rw[<-e];exact h.nameL i y j
  dsimp only[Bl,Iz,must];simp only[Mw,Th,Xm]
  refine Dt (hn _ _ _ (by rw[Fd (.mk _ _ _ _ _ _ _ _ _)];rfl)) (Dt (Dt (hn _ _ _ (by rw[Fd (.mk _ _ _ _ _ _ _ _ _)];rfl)) Nn) (Dt ?_ (Dt ?_ (Dt (Dt (hn _ _ _ (by rw[Fd (.mk _ _ _ _ _ _ _ _ _)];rfl)) Nn) (Ks rfl)))))
  ·exact Dc (h.arg _) fun a k=>Dc (h.argsL [a] k) fun az k=>Dt (hn _ _ _ (by rw[Fd (.mk _ _ _ _ _ _ _ _ _)];rfl)) Nn
  ·exact Dc (h.paren _) fun y k=>hn _ _ _ (by rw[Fd (.mk _ _ _ _ _ _ _ _ _)];rfl)
theorem Fx4: ∀m,(P l m).Nat (P (l.map stT) m)
 | 0=>by constructor<;>intros<;>exact rfl
 | m+1=>Ee9 (Fx4 m)
theorem Fx5:(Q l).Nat (Q (l.map stT)):=by
 have:=Fx4 (l:=l) (Fm l);rw[Q,Q,Fm,Fm,jK];exact this
end
theorem Bn8 {α β γ:Type} (r:Res α) (f:α->Nat->Res β) (g:β->Nat->Res γ):(r.then f).then g=r.then fun x k=>(f x k).then g:=by cases r<;>rfl
def w5:List (List UInt8):= [Jl,Bi,Iq]
def w3:List (List UInt8):=w5++ [[42],[47],Gl4,Gl5]
def w2:List (List UInt8):=w3++ [[43],[45]]
def w2d:List (List UInt8):=w2++ [Ev]
def w1:List (List UInt8):=w2d++ [[61],[47,61],[60],[60,61],[62],[62,61],wIn,Ve]
def w0:List (List UInt8):=w1++ [Cq1,wOr,Fo7]
def nof (ws:List (List UInt8)) (t:Tok):Prop:= ∀s∈ws,¬(t.kind=Il s/\t.text=s)
instance (ws:List (List UInt8)) (t:Tok):Decidable (nof ws t):=inferInstanceAs (Decidable (∀s∈ws,¬(t.kind=Il s/\t.text=s)))
theorem Gy {ws y:List (List UInt8)} {t:Tok} (h:nof ws t) (hs: ∀s∈y,s∈ws):nof y t:=fun s m=>h s (hs s m)
theorem Gn3 (ws:List (List UInt8)):nof ws Am3:=fun s _ h=>Bk0 s h.1.symm
class Rdr (l:outParam (List Tok)) (p:PS):Prop where
 fix:p.Fix l
 adv:p.Adv l
instance (l:List Tok):Rdr l (Q l):=⟨Gm8,Ex1⟩
theorem Pb {ws:List (List UInt8)} {t:Tok} (h:t.kind=1\/t.kind=3):nof ws t:=fun s _ e=>by
 have:=Ee2 (s:=s);rcases h with h | h
 ·rw[h] at e;exact this.1 e.1.symm
 ·rw[h] at e;exact this.2.1 e.1.symm
section
variable {l:List Tok} {k k':Nat} {s:List UInt8}
theorem Gm {t:List UInt8} (h:isW l k [t]=false) (r:List (List UInt8)):isW l k (t::r)=false:=by
 rw[Bm2] at h;rw[isW,h];rfl
theorem Gz {ws:List (List UInt8)} (h:nof ws (tk l k)) (hs:s∈ws) (r:List (List UInt8)):isW l k (s::r)=false:=by
 refine Gm ?_ r;have:=h s hs;rw[Bm2];by_cases y:(tk l k).kind=Il s
 ·by_cases C:(tk l k).text=s
  ·exact absurd ⟨y,C⟩ this
  ·rw[decide_eq_false C,Bool.and_false]
 ·rw[decide_eq_false y,jT]
theorem Be5 {ws:List (List UInt8)} {os:List Nat} {want:Nat} (h:nof ws (tk l k)) (y:(os.all fun o=>(Bd o).head?.any fun s=>decide (s∈ws))=true):opF l want k os=(0,k):=by
 refine Bm3 fun o hm=> ?_;have:=List.all_eq_true.1 y o hm;cases hw:Bd o with
 | nil=>rw[hw] at this;simp at this
 | cons s r=>
  rw[hw] at this;exact Gz h (by simpa using this) r
theorem Jo (h:isW l k [s]=true):(tk l k).kind≠1/\(tk l k).kind≠3/\k<l.length:=by
 rw[Bm2,jF,decide_eq_true_eq,decide_eq_true_eq] at h;rw[h.1];exact⟨Ee2.1,Ee2.2.1,Rs (by rw[h.1];exact Bk0 s)⟩
theorem Ad1 {os:List Nat} {want:Nat} (h:isW l k [s]=true) (y:(os.all fun o=>(Bd o).head?.any fun t=>decide (s≠t))=true):opF l want k os=(0,k):=by
 refine Bm3 fun o hm=> ?_;have:=List.all_eq_true.1 y o hm;cases hw:Bd o with
 | nil=>rw[hw] at this;simp at this
 | cons t r=>
  rw[hw] at this;exact Gm (Ga h (by simpa using this)) r
variable {p:PS} [hr:Rdr l p]
theorem Dh0 (hk:k<=l.length):p.expr k=(p.simple k).then fun x k=>p.rest x k:=hr.fix.expr k hk
theorem Ey9 (x:Ex) (hk:k<=l.length):p.rest x k=(p.relation x k).then fun x k=>p.restL (opF l 0 k Fp).1 x k:=hr.fix.rest x k hk
theorem Cg2 (o:Nat) (x:Ex) (hk:k<=l.length):p.restL o x k=if o=0 then .ok x k else if(opF l o k Fp).1=0 then .ok x k else(p.simple (opF l o k Fp).2).then fun y k=>(p.relation y k).then fun y k=>p.restL o (both o x y) k:=hr.fix.restL o x k hk
theorem Ti (x:Ex) (hk:k<=l.length):p.relation x k=if(opF l 0 k Nv).1≠0 then(p.simple (opF l 0 k Nv).2).then fun y j=> .ok (both (opF l 0 k Nv).1 x y) j else if isW l k [wIn] then inK l x 13 (k+1) p else if isW l k [Ve,wIn] then inK l x 14 (k+2) p else .ok x k:=hr.fix.relation x k hk
theorem Bn9 (hk:k<=l.length):p.simple k=(p.term (opF l 0 k Gx).2).then fun x k'=>p.addL (Qq (opF l 0 k Gx).1 (tk l k).line x) k':=hr.fix.simple k hk
theorem Ez0 (x:Ex) (hk:k<=l.length):p.addL x k=if(opF l 0 k Xd).1=0 then .ok x k else(p.term (opF l 0 k Xd).2).then fun y j=>p.addL (both (opF l 0 k Xd).1 x y) j:=hr.fix.addL x k hk
theorem Ez1 (hk:k<=l.length):p.term k=(p.factor k).then fun x k=>p.mulL x k:=hr.fix.term k hk
theorem Ez2 (x:Ex) (hk:k<=l.length):p.mulL x k=if(opF l 0 k Xe).1=0 then .ok x k else(p.factor (opF l 0 k Xe).2).then fun y j=>p.mulL (both (opF l 0 k Xe).1 x y) j:=hr.fix.mulL x k hk
theorem Bo0 (hk:k<=l.length):p.factor k=(p.primary (opF l 0 k La).2).then fun x k'=> .ok (Qq (opF l 0 k La).1 (tk l k).line x) k':=hr.fix.factor k hk
theorem Wb (hk:k<=l.length):p.primary k=if(tk l k).kind=3 then .ok (.mk 1 0 (tk l k).n [] [] [] (tk l k).line 0 0) (k+1) else if isW l k [Ez] then .ok (.mk 2 0 0 [] [] [] (tk l k).line 0 0) (k+1) else if isW l k [Bi] then p.paren k else p.name k:=hr.fix.primary k hk
theorem Dq8 (hk:k<=l.length):p.paren k=must l Bi k fun k1=>
  if isW l k1 [wIf] then(p.expr (k1+1)).then fun a k=>must l Pm k fun k=>(p.expr k).then fun b k=>must l Qp k fun k=>(p.expr k).then fun c k'=>must l Bt k' fun k'=> .ok (.mk 10 0 0 [] [a,b,c] [] (tk l (k1-1)).line 0 0) k'
  else(p.assoc k1).then fun a k=>(p.assocsL [a] k).then fun az k=>must l Bt k fun k=> .ok (Bj9 (tk l (k1-1)).line az) k:=hr.fix.paren k hk
theorem Cg3 (hk:k<=l.length):p.assoc k=(p.choice k).then fun c k=>
  if c.kind=1/\isW l k [Gl]=false/\isW l k [Bn]=false then .ok (.mk [] (c.l.getD 0 ex0)) k
  else if c.kind=3 then must l Bn k fun k=>(p.expr k).then fun e k=> .ok (.mk [c] e) k
  else(p.choicesL [c] k).then fun cs k=>must l Bn k fun k=>(p.expr k).then fun e k=> .ok (.mk cs e) k:=hr.fix.assoc k hk
theorem By1 (az:List As) (hk:k<=l.length):p.assocsL az k=if isW l k [Dh] then(p.assoc (k+1)).then fun a k=>p.assocsL (az++ [a]) k else .ok az k:=hr.fix.assocsL az k hk
theorem Ao0 (hk:k<=l.length):p.choice k=if isW l k [Lf] then .ok (.mk 3 []) (k+1) else
  (p.simple k).then fun x k=>if isW l k [Ev] then(p.simple (k+1)).then fun y k=> .ok (.mk 2 [x,y]) k
   else(p.rest x k).then fun x k=> .ok (.mk 1 [x]) k:=hr.fix.choice k hk
theorem Bo1 (cs:List Ch) (hk:k<=l.length):p.choicesL cs k=if isW l k [Gl] then(p.choice (k+1)).then fun c k=>p.choicesL (cs++ [c]) k else .ok cs k:=hr.fix.choicesL cs k hk
theorem Fx6 (hk:k<=l.length):p.arg k=if(tk l k).kind=1/\isW l (k+1) [Bn]=true then(p.expr (k+2)).then fun e k'=> .ok (.mk [.mk 1 [.mk 3 0 0 (tk l k).text [] [] (tk l k).line 0 0]] e) k'
  else(p.expr k).then fun e k=> .ok (.mk [] e) k:=hr.fix.arg k hk
theorem Fq3 (az:List As) (hk:k<=l.length):p.argsL az k=if isW l k [Dh] then(p.arg (k+1)).then fun a k=>p.argsL (az++ [a]) k else .ok az k:=hr.fix.argsL az k hk
theorem Cg4 (hk:k<=l.length):p.name k=Iz l k fun s k1=>p.nameL (tk l k).line (.mk 3 0 0 s [] [] (tk l k).line 0 0) k1:=hr.fix.name k hk
theorem Ad2 (line:Int) (x:Ex) (hk:k<=l.length):p.nameL line x k=if isW l k [Jl,Zr] then p.nameL line (.mk 5 0 0 [] [x] [] line 0 0) (k+2)
  else if isW l k [Jl] then Iz l (k+1) fun s k=>p.nameL line (.mk 4 0 0 s [x] [] line 0 0) k
  else if isW l k [Bi] then(p.arg (k+1)).then fun a k=>(p.argsL [a] k).then fun az k=>must l Bt k fun k=>p.nameL line (.mk 7 0 0 [] [x] az line 0 0) k
  else if isW l k [Iq,Bi] then(p.paren (k+1)).then fun y k=>p.nameL line (.mk 8 0 0 [] [x,y] [] line 0 0) k
  else if isW l k [Iq] then Iz l (k+1) fun s k=>p.nameL line (.mk 6 0 0 s [x] [] line 0 0) k
  else .ok x k:=hr.fix.nameL line x k hk
def Aw2:List (List UInt8):= [Ez,Bi,Ec3,Ve,[43],[45]]
theorem Aw3 (h:isW l k [s]=true) (h1:s≠Ez) (h2:s≠Bi):p.primary k= .fail k:=by
 obtain⟨a,b,c⟩:=Jo h;have hk:k<=l.length:=by omega
 rw[Wb hk,if_neg b,Ga h h1,Ga h h2,if_neg (by simp),if_neg (by simp),Cg4 hk,Iz,if_neg a]
theorem Ez3 (h:isW l k [s]=true) (h1:s≠Ez) (h2:s≠Bi) (h3:s≠Ec3) (y:s≠Ve):p.factor k= .fail k:=by
 obtain⟨a,b,c⟩:=Jo h;have hk:k<=l.length:=by omega
 rw[Bo0 hk,Ad1 h (by simp [La,show Bd 21= [Ve] from rfl,show Bd 20= [Ec3] from rfl,h3,y]),Aw3 h h1 h2];rfl
theorem Aw4 (h:isW l k [s]=true) (h1:s≠Ez) (h2:s≠Bi) (h3:s≠Ec3) (y:s≠Ve):p.term k= .fail k:=by
 obtain⟨a,b,c⟩:=Jo h;rw[Ez1 (by omega),Ez3 h h1 h2 h3 y];rfl
theorem Zx (h:isW l k [s]=true) (hs:s∉Aw2):p.simple k= .fail k:=by
 simp only[Aw2,List.mem_cons,List.not_mem_nil,or_false,not_or] at hs;obtain⟨h1,h2,h3,h4,h5,h6⟩:=hs;obtain⟨a,b,c⟩:=Jo h;rw[Bn9 (by omega),Ad1 h (by simp [Gx,show Bd 19= [[45]] from rfl,show Bd 18= [[43]] from rfl,h5,h6]),Aw4 h h1 h2 h3 h4];rfl
theorem Ef0 (h:isW l k [s]=true) (hs:s∉Aw2):p.expr k= .fail k:=by
 obtain⟨a,b,c⟩:=Jo h;rw[Dh0 (by omega),Zx h hs];rfl
theorem Aw5 {y:Ex} (h:p.simple k= .ok y k') (hs:s∉Aw2):isW l k [s]=false:=by
 cases c:isW l k [s] with
 | false=>rfl
 | true=>rw[Zx c hs] at h;cases h
theorem Fq4 {y:Ex} (h:p.expr k= .ok y k') (hs:s∉Aw2):isW l k [s]=false:=by
 cases c:isW l k [s] with
 | false=>rfl
 | true=>rw[Ef0 c hs] at h;cases h
theorem Aw6 {i:Int} {x:Ex} (hk:k<=l.length) (h:nof w5 (tk l k)):p.nameL i x k= .ok x k:=by
 rw[Ad2 i x hk,Gz h (by decide),Gz h (by decide),Gz h (by decide),Gz h (by decide),Gz h (by decide)];rfl
theorem Ad3 {x:Ex} (hk:k<=l.length) (h:nof w3 (tk l k)):p.mulL x k= .ok x k:=by
 rw[Ez2 x hk,Be5 h (by decide)];rfl
theorem So {x:Ex} (hk:k<=l.length) (h:nof w2 (tk l k)):p.addL x k= .ok x k:=by
 rw[Ez0 x hk,Be5 h (by decide)];rfl
theorem Ez4 {x:Ex} (hk:k<=l.length) (h:nof w1 (tk l k)):p.relation x k= .ok x k:=by
 rw[Ti x hk,Be5 h (by decide),Gz h (by decide),Gz h (by decide)];rfl
theorem Dh1 {x:Ex} (hk:k<=l.length):p.restL 0 x k= .ok x k:=by rw[Cg2 0 x hk];rfl
theorem Ah7 {o:Nat} {x:Ex} (hk:k<=l.length) (h:nof w0 (tk l k)):p.restL o x k= .ok x k:=by
 rw[Cg2 o x hk,Be5 h (by decide)];simp
theorem Lx {x:Ex} (hk:k<=l.length) (h:p.primary k= .ok x k'):p.factor k= .ok x k':=by
 by_cases c:(opF l 0 k La).1=0
 ·have:=(Ej (want:=0) Gp7.2.2.2.2.2 hk).1 c;rw[Bo0 hk,c,this,h];rfl
 ·exfalso;obtain⟨h1,h2,h3⟩:=Cf7 c;rcases Fq0 h1 with e | e
  ·rw[e] at h3;rw[Aw3 (s:=Ec3) h3 (by decide) (by decide)] at h;cases h
  ·rw[e] at h3;rw[Aw3 (s:=Ve) h3 (by decide) (by decide)] at h;cases h
theorem Ly {x:Ex} (hk:k<=l.length) (h:p.factor k= .ok x k'):p.term k=p.mulL x k':=by rw[Ez1 hk,h];rfl
theorem Kk {x:Ex} (hk:k<=l.length) (y:k'<=l.length) (h:p.term k=p.mulL x k') (C:nof w3 (tk l k')):p.simple k=p.addL x k':=by
 rw[Ad3 y C] at h;by_cases c:(opF l 0 k Gx).1=0
 ·have:=(Ej (want:=0) Gp7.2.2.1 hk).1 c;rw[Bn9 hk,c,this,h];rfl
 ·exfalso;obtain⟨h1,h2,h3⟩:=Cf7 c;rcases Ey2 h1 with e | e
  ·rw[e] at h3;rw[Aw4 (s:= [43]) h3 (by decide) (by decide) (by decide) (by decide)] at h;cases h
  ·rw[e] at h3;rw[Aw4 (s:= [45]) h3 (by decide) (by decide) (by decide) (by decide)] at h;cases h
def Aw7 (p:PS) (k:Nat):Res Ex:=(p.simple k).then fun x k=>p.relation x k
theorem Og {x:Ex} (y:k'<=l.length) (h:p.simple k=p.addL x k') (C:nof w1 (tk l k')):Aw7 p k= .ok x k':=by
 rw[Aw7,h,So y (Gy C (by decide))];exact Ez4 y C
theorem Bo2 (hk:k<=l.length):p.expr k=(Aw7 p k).then fun x k=>p.restL (opF l 0 k Fp).1 x k:=by
 rw[Dh0 hk,Aw7,Bn8];have ha:=hr.adv.simple k hk;cases c:p.simple k with
 | bot=>rfl
 | fail j=>rfl
 | ok x j=>
  rw[c] at ha;exact Ey9 x ha.2
theorem Ef1 {x y:Ex} {j:Nat} (D:j<=l.length) (C:isW l j [Ev]=true) (h:p.rest x j= .ok y k'):k'=j:=by
 have e1:opF l 0 j Nv=(0,j):=Ad1 C (by decide);have E:opF l 0 j Fp=(0,j):=Ad1 C (by decide);have I:isW l j [wIn]=false:=Ga C (by decide);have J:isW l j [Ve,wIn]=false:=Gm (Ga C (by decide)) _;have L:p.relation x j= .ok x j:=by rw[Ti x D,e1,I,J];rfl
 rw[Ey9 x D,L] at h;change p.restL (opF l 0 j Fp).1 x j=_ at h;rw[E,Dh1 D] at h;cases h;rfl
theorem Ba3 {y:Ex} (hk:k<=l.length) (h:p.expr k= .ok y k') (C:isW l k' [Ev]=false):p.choice k= .ok (.mk 1 [y]) k':=by
 rw[Ao0 hk,Fq4 h (s:=Lf) (by decide)];rw[Dh0 hk] at h;have ha:=hr.adv.simple k hk;cases c:p.simple k with
 | bot=>rw[c] at h;cases h
 | fail j=>rw[c] at h;cases h
 | ok x j=>
  rw[c] at h ha;change p.rest x j=_ at h;show(if isW l j [Ev] then _ else _)=_;cases cd:isW l j [Ev] with
  | true=>rw[Ef1 ha.2 cd h,cd] at C;cases C
  | false=>
   show(p.rest x j).then _=_
   rw[h];rfl
theorem Bo3 {y:Ex} (hk:k<=l.length) (h:p.expr k= .ok y k') (C:isW l k' [Ev]=false) (hb:isW l k' [Gl]=false) (ha:isW l k' [Bn]=false):p.assoc k= .ok (.mk [] y) k':=by
 rw[Cg3 hk,Ba3 hk h C];show(if _ then _ else _)=_;rw[if_pos ⟨rfl,hb,ha⟩];rfl
theorem Ez5 {x:As} (h:p.assoc k= .ok x k') (hs:s∉Aw2) (y:s≠Lf):isW l k [s]=false:=by
 cases c:isW l k [s] with
 | false=>rfl
 | true=>
  have hk:k<=l.length:=by have:=(Jo c).2.2;omega
  rw[Cg3 hk,Ao0 hk,Ga c y,Zx c hs] at h;cases h
theorem Ao1 {a:As} {az:List As} {j h:Nat} (h0:isW l k [Bi]=true) (h1:p.assoc (k+1)= .ok a j) (h2:p.assocsL [a] j= .ok az h) (h3:isW l h [Bt]=true):p.paren k= .ok (Bj9 (tk l k).line az) (h+1):=by
 have hk:k<=l.length:=by have:=(Jo h0).2.2;omega
 rw[Dq8 hk,must,if_pos h0,Ez5 h1 (s:=wIf) (by decide) (by decide),if_neg (by simp),h1];show(p.assocsL [a] j).then _=_
 rw[h2];show must l Bt h _=_;rw[must,if_pos h3,Nat.add_sub_cancel]
theorem Fq5 (h:isW l k [Bt]=true):isW l k [Ev]=false/\isW l k [Gl]=false/\isW l k [Bn]=false/\isW l k [Dh]=false:=⟨Ga h (by decide),Ga h (by decide),Ga h (by decide),Ga h (by decide)⟩
theorem Bo4 {y:Ex} (h0:isW l k [Bi]=true) (h1:p.expr (k+1)= .ok y k') (h3:isW l k' [Bt]=true):p.paren k= .ok y (k'+1):=by
 obtain⟨a,b,c,d⟩:=Fq5 h3;have hk:k<l.length:=(Jo h0).2.2;have h:k'<l.length:=(Jo h3).2.2;rw[Ao1 (a:= .mk [] y) (az:= [.mk [] y]) h0 (Bo3 (by omega) h1 a b c) (by rw[By1 _ (by omega),d];rfl) h3];rfl
theorem Ah8 (h0:isW l k [Bi]=true):p.primary k=p.paren k:=by
 obtain⟨a,b,c⟩:=Jo h0;rw[Wb (by omega),if_neg b,Ga h0 (t:=Ez) (by decide),h0];rfl
theorem By2 (hk:k<=l.length) (h:(tk l k).kind=1):p.primary k=p.name k:=by
 have hn:nof [Ez,Bi] (tk l k):=Pb (.inl h);rw[Wb hk,if_neg (by rw[h];decide),Gz hn (by decide),Gz hn (by decide)];rfl
theorem Dh2 {y:Ex} (h:p.expr k= .ok y k') (h1:(tk l k).kind=1) (h2:isW l (k+1) [Bn]=true):k'=k+1:=by
 have hk:k<l.length:=Rs (by rw[h1];decide);have hn: ∀ws,(∀s∈ws,s≠Bn)->nof ws (tk l (k+1)):=fun ws hs s hm ⟨e1,C⟩=>by
  rw[Bm2,jF,decide_eq_true_eq,decide_eq_true_eq] at h2;exact hs s hm (C.symm.trans h2.2)
 have hp:p.primary k= .ok (.mk 3 0 0 (tk l k).text [] [] (tk l k).line 0 0) (k+1):=by
  rw[By2 (by omega) h1,Cg4 (by omega),Iz,if_pos h1,Aw6 (by omega) (hn _ (by decide))]
 have hr:=Og (by omega) (Kk (by omega) (by omega) (Ly (by omega) (Lx (by omega) hp)) (hn _ (by decide))) (hn _ (by decide));rw[Bo2 (by omega),hr] at h;change p.restL _ _ (k+1)=_ at h;rw[Ah7 (by omega) (hn _ (by decide))] at h;cases h;rfl
theorem Ez6 {y:Ex} (hk:k<=l.length) (h:p.expr k= .ok y k') (ha:isW l k' [Bn]=false):p.arg k= .ok (.mk [] y) k':=by
 rw[Fx6 hk,if_neg,h]
 ·rfl
 ·rintro⟨h1,h2⟩;rw[Dh2 h h1 h2,h2] at ha;cases ha
end
def At (l:List Tok) (k:Nat) (ts:List Tok):Prop:=k<=l.length/\ts<+:l.drop k
section
variable {l:List Tok} {k k':Nat} {s:List UInt8} {p:PS} [hr:Rdr l p]
theorem At.le {ts:List Tok} (h:At l k ts):k+ts.length<=l.length:=by
 have:=h.2.length_le;rw[List.length_drop] at this;have:=h.1;omega
theorem At.left {a b:List Tok} (h:At l k (a++b)):At l k a:=⟨h.1,(List.prefix_append a b).trans h.2⟩
theorem At.right {a b:List Tok} (h:At l k (a++b)):At l (k+a.length) b:=by
 obtain⟨r,hr⟩:=h.2;have:=h.le;rw[jC] at this;refine⟨by omega,r, ?_⟩;rw[<-List.drop_drop,<-hr,jO,List.drop_left]
theorem At.head {t:Tok} {ts:List Tok} (h:At l k (t::ts)):tk l k=t/\k<l.length:=by
 obtain⟨r,hr⟩:=h.2;have hl:=h.le;rw[jA] at hl;have hk:k<l.length:=by omega
 refine⟨?_,hk⟩;have:(l.drop k)[0]? =some t:=by rw[<-hr];rfl
 rw[List.getElem?_drop,Nat.add_zero] at this;rw[tk,List.getD,this];rfl
theorem At.tail {t:Tok} {ts:List Tok} (h:At l k (t::ts)):At l (k+1) ts:=At.right (a:= [t]) h
theorem At.word {ts:List Tok} (h:At l k (Ah s::ts)):isW l k [s]=true:=by
 rw[Bm2,h.head.1];simp [Ah]
theorem At.words: ∀ {ws:List (List UInt8)} {k:Nat} {ts:List Tok},At l k (ws.map Ah++ts)->isW l k ws=true
 | [],_,_,_=>rfl
 | s::r,k,ts,h=>by
  have h1:=At.word (s:=s) h;have h2:=At.words (ws:=r) (At.tail h);rw[Bm2] at h1;rw[isW,h1,h2];rfl
theorem Ah9 {want o:Nat} (hw:isW l k (Bd o)=true) (y:want=0\/want=o): ∀ {pre post:List Nat},(∀p∈pre,isW l k (Bd p)=false)->opF l want k (pre++o::post)=(o,k+(Bd o).length)
 | [],post,_=>by
  rw[jG,opF,if_pos hw,if_neg];rintro⟨h1,h2⟩;rcases y with h | h
  ·exact h1 h
  ·exact h2 h.symm
 | p::pre,post,h=>by
  rw[jI,opF,h p (by simp)];exact Ah9 hw y fun q hq=>h q (by simp [hq])
theorem Kc {o:Nat} {s t:List UInt8} {r:List (List UInt8)} (h:isW l k [s]=true) (e:Bd o=t::r) (hs:s≠t):isW l k (Bd o)=false:=by
 rw[e];exact Gm (Ga h hs) r
theorem Ct3 {want o:Nat} {os:List Nat} {ts:List Tok} (C:(o∈Nv/\os=Nv)\/(o∈Gx/\os=Gx)\/(o∈Xd/\os=Xd)\/(o∈Xe/\os=Xe)\/(o∈La/\os=La))
  (h:At l k ((Bd o).map Ah++ts)) (D:want=0\/want=o):opF l want k os=(o,k+(Bd o).length)/\(Bd o).length=1:=by
 have hw:=At.words h;have key: ∀(pre post:List Nat) (s:List UInt8),os=pre++o::post->Bd o= [s]->(pre.all fun p=>(Bd p).head?.any fun t=>decide (s≠t))=true->opF l want k os=(o,k+(Bd o).length)/\(Bd o).length=1:=fun pre post s e1 y E=>by
  rw[e1];refine⟨Ah9 hw D fun p hp=> ?_,by rw[y];rfl⟩;have:=List.all_eq_true.1 E p hp;rw[y] at hw;cases hp2:Bd p with
  | nil=>rw[hp2] at this;simp at this
  | cons t r=>
   rw[hp2] at this;exact Gm (Ga hw (by simpa using this)) r
 rcases C with⟨h1,rfl⟩ | ⟨h1,rfl⟩ | ⟨h1,rfl⟩ | ⟨h1,rfl⟩ | ⟨h1,rfl⟩
 ·simp only[Nv,List.mem_cons,List.not_mem_nil,or_false] at h1;rcases h1 with rfl | rfl | rfl | rfl | rfl | rfl
  ·exact key [] [11,10,9,8,7] _ rfl rfl (by decide)
  ·exact key [12] [10,9,8,7] _ rfl rfl (by decide)
  ·exact key [12,11] [9,8,7] _ rfl rfl (by decide)
  ·exact key [12,11,10] [8,7] _ rfl rfl (by decide)
  ·exact key [12,11,10,9] [7] _ rfl rfl (by decide)
  ·exact key [12,11,10,9,8] [] _ rfl rfl (by decide)
 ·simp only[Gx,List.mem_cons,List.not_mem_nil,or_false] at h1;rcases h1 with rfl | rfl
  ·exact key [] [18] _ rfl rfl (by decide)
  ·exact key [19] [] _ rfl rfl (by decide)
 ·simp only[Xd,List.mem_cons,List.not_mem_nil,or_false] at h1;rcases h1 with rfl | rfl
  ·exact key [] [1] _ rfl rfl (by decide)
  ·exact key [2] [] _ rfl rfl (by decide)
 ·simp only[Xe,List.mem_cons,List.not_mem_nil,or_false] at h1;rcases h1 with rfl | rfl | rfl | rfl
  ·exact key [] [5,4,3] _ rfl rfl (by decide)
  ·exact key [6] [4,3] _ rfl rfl (by decide)
  ·exact key [6,5] [3] _ rfl rfl (by decide)
  ·exact key [6,5,4] [] _ rfl rfl (by decide)
 ·simp only[La,List.mem_cons,List.not_mem_nil,or_false] at h1;rcases h1 with rfl | rfl
  ·exact key [] [20] _ rfl rfl (by decide)
  ·exact key [21] [] _ rfl rfl (by decide)
theorem Gf2 {want o:Nat} {ts:List Tok} {y:Ex} {j:Nat} (D:o∈Fp) (h:At l k ((Bd o).map Ah++ts)) (C:want=0\/want=o) (hs:p.simple (k+(Bd o).length)= .ok y j):opF l want k Fp=(o,k+(Bd o).length):=by
 have hw:=At.words h;simp only[Fp,List.mem_cons,List.not_mem_nil,or_false] at D;rcases D with rfl | rfl | rfl | rfl | rfl
 ·exact Ah9 hw C (pre:= []) (post:= [16,15,14,13]) (by simp)
 ·have h1:isW l k [Cq1]=true:=Ey0 hw rfl;refine Ah9 hw C (pre:= [17]) (post:= [15,14,13]) fun p hp=> ?_;simp only[List.mem_cons,List.not_mem_nil,or_false] at hp;subst hp;exact Kc h1 rfl (by decide)
 ·refine Ah9 hw C (pre:= [17,16]) (post:= [14,13]) fun p hp=> ?_;simp only[List.mem_cons,List.not_mem_nil,or_false] at hp;rcases hp with rfl | rfl
  ·exact Kc (s:=Fo7) hw rfl (by decide)
  ·exact Kc (s:=Fo7) hw rfl (by decide)
 ·have h3:isW l (k+1) [Qp]=false:=Aw5 hs (by decide);refine Ah9 hw C (pre:= [17,16,15]) (post:= [13]) fun p hp=> ?_;simp only[List.mem_cons,List.not_mem_nil,or_false] at hp;rcases hp with rfl | rfl | rfl
  ·show isW l k [wOr,Qp]=false;rw[Ex9,h3,Bool.and_false]
  ·exact Kc (s:=wOr) hw rfl (by decide)
  ·exact Kc (s:=wOr) hw rfl (by decide)
 ·have h3:isW l (k+1) [Pm]=false:=Aw5 hs (by decide);refine Ah9 hw C (pre:= [17,16,15,14]) (post:= []) fun p hp=> ?_;simp only[List.mem_cons,List.not_mem_nil,or_false] at hp;rcases hp with rfl | rfl | rfl | rfl
  ·exact Kc (s:=Cq1) hw rfl (by decide)
  ·show isW l k [Cq1,Pm]=false;rw[Ex9,h3,Bool.and_false]
  ·exact Kc (s:=Cq1) hw rfl (by decide)
  ·exact Kc (s:=Cq1) hw rfl (by decide)
theorem lv5 {e:Ex} (h:1<=e.kind/\e.kind<=10):Ba e=5:=by unfold Ba;rw[if_neg (by omega),if_neg (by omega),if_neg (by omega)]
theorem Zy {e:Ex} {n:Int} (h:Ba e=n) (y:n≠5):Qt e.kind=true->False:=fun c=>y (h.symm.trans (lv5 (by rw[Qt,Bool.or_eq_true,decide_eq_true_eq,decide_eq_true_eq] at c;omega)))
structure Rd (l:List Tok) (p:PS) (e:Ex) (k k':Nat):Prop where
 le:k<=l.length/\k'<=l.length
 name:Cd e=true->p.name k=p.nameL 0 (stE e) k'
 bare:Qt e.kind=true->p.paren k= .ok (stE e) k'
 prim:Ba e=5->nof w5 (tk l k')->p.primary k= .ok (stE e) k'
 fac:4<=Ba e->nof w5 (tk l k')->p.factor k= .ok (stE e) k'
 term:3<=Ba e->nof w5 (tk l k')->p.term k=p.mulL (stE e) k'
 simp:2<=Ba e->nof w3 (tk l k')->p.simple k=p.addL (stE e) k'
 rel:1<=Ba e->nof w2d (tk l k')->(Ba e≠1->nof w1 (tk l k'))->Aw7 p k= .ok (stE e) k'
 exp:Ba e=0->nof w1 (tk l k')->p.expr k=p.restL e.oper.toNat (stE e) k'
theorem s53 {t:Tok} (h:nof w3 t):nof w5 t:=Gy h (by decide)
theorem s31 {t:Tok} (h:nof w1 t):nof w3 t:=Gy h (by decide)
theorem s32 {t:Tok} (h:nof w2 t):nof w3 t:=Gy h (by decide)
theorem s2d {t:Tok} (h:nof w2d t):nof w2 t:=Gy h (by decide)
theorem sd1 {t:Tok} (h:nof w1 t):nof w2d t:=Gy h (by decide)
theorem s10 {t:Tok} (h:nof w0 t):nof w1 t:=Gy h (by decide)
theorem Wc {e:Ex} {n:Int} (h:Ba e=n) (y:n≠5):Cd e=true->False:=fun c=>y (h.symm.trans (Zv c))
theorem Rd.of1 {e:Ex} (hk:k<=l.length/\k'<=l.length) (hl:Ba e=1) (h:nof w2d (tk l k')->Aw7 p k= .ok (stE e) k'):Rd l p e k k':=
 ⟨hk,fun c=>(Wc hl (by decide) c).elim,fun c=>(Zy hl (by decide) c).elim,fun c=>by omega,fun c=>by omega,fun c=>by omega,fun c=>by omega,fun _ a _=>h a,fun c=>by omega⟩
theorem Rd.of0 {e:Ex} (hk:k<=l.length/\k'<=l.length) (hl:Ba e=0) (h:nof w1 (tk l k')->p.expr k=p.restL e.oper.toNat (stE e) k'):Rd l p e k k':=
 ⟨hk,fun c=>(Wc hl (by decide) c).elim,fun c=>(Zy hl (by decide) c).elim,fun c=>by omega,fun c=>by omega,fun c=>by omega,fun c=>by omega,fun c=>by omega,fun _=>h⟩
theorem Rd.of2 {e:Ex} (hk:k<=l.length/\k'<=l.length) (hl:Ba e=2) (h:nof w3 (tk l k')->p.simple k=p.addL (stE e) k'):Rd l p e k k':=
 ⟨hk,fun c=>(Wc hl (by decide) c).elim,fun c=>(Zy hl (by decide) c).elim,fun c=>by omega,fun c=>by omega,fun c=>by omega,fun _=>h,fun _ _ a=>Og hk.2 (h (s31 (a (by omega)))) (a (by omega)),fun c=>by omega⟩
theorem Rd.of3 {e:Ex} (hk:k<=l.length/\k'<=l.length) (hl:Ba e=3) (h:nof w5 (tk l k')->p.term k=p.mulL (stE e) k'):Rd l p e k k':=
 have h2:nof w3 (tk l k')->p.simple k=p.addL (stE e) k':=fun a=>Kk hk.1 hk.2 (h (s53 a)) a
 ⟨hk,fun c=>(Wc hl (by decide) c).elim,fun c=>(Zy hl (by decide) c).elim,fun c=>by omega,fun c=>by omega,fun _=>h,fun _=>h2,fun _ _ a=>Og hk.2 (h2 (s31 (a (by omega)))) (a (by omega)),fun c=>by omega⟩
theorem Rd.of4 {e:Ex} (hk:k<=l.length/\k'<=l.length) (hl:Ba e=4) (h:nof w5 (tk l k')->p.factor k= .ok (stE e) k'):Rd l p e k k':=
 have h3:nof w5 (tk l k')->p.term k=p.mulL (stE e) k':=fun a=>Ly hk.1 (h a)
 have h2:nof w3 (tk l k')->p.simple k=p.addL (stE e) k':=fun a=>Kk hk.1 hk.2 (h3 (s53 a)) a
 ⟨hk,fun c=>(Wc hl (by decide) c).elim,fun c=>(Zy hl (by decide) c).elim,fun c=>by omega,fun _=>h,fun _=>h3,fun _=>h2,fun _ _ a=>Og hk.2 (h2 (s31 (a (by omega)))) (a (by omega)),fun c=>by omega⟩
theorem Rd.of5 {e:Ex} (hk:k<=l.length/\k'<=l.length) (hl:Ba e=5) (y:Cd e=true->p.name k=p.nameL 0 (stE e) k') (hb:Qt e.kind=true->p.paren k= .ok (stE e) k') (h:nof w5 (tk l k')->p.primary k= .ok (stE e) k'):Rd l p e k k':=
 have h4:nof w5 (tk l k')->p.factor k= .ok (stE e) k':=fun a=>Lx hk.1 (h a)
 have h3:nof w5 (tk l k')->p.term k=p.mulL (stE e) k':=fun a=>Ly hk.1 (h4 a)
 have h2:nof w3 (tk l k')->p.simple k=p.addL (stE e) k':=fun a=>Kk hk.1 hk.2 (h3 (s53 a)) a
 ⟨hk,y,hb,fun _=>h,fun _=>h4,fun _=>h3,fun _=>h2,fun _ _ a=>Og hk.2 (h2 (s31 (a (by omega)))) (a (by omega)),fun c=>by omega⟩
theorem Rd.ofName {e:Ex} (hk:k<=l.length/\k'<=l.length) (hl:Cd e=true) (h:p.name k=p.nameL 0 (stE e) k'):Rd l p e k k':=
 .of5 hk (Zv hl) (fun _=>h) (fun c=>by
  rw[Qt,Bool.or_eq_true,decide_eq_true_eq,decide_eq_true_eq] at c;rw[Cd,jF,decide_eq_true_eq,decide_eq_true_eq] at hl;omega) fun a=>by
  rw[Aw6 hk.2 a] at h;have:(tk l k).kind=1:=by
   rw[Cg4 hk.1,Iz] at h;split at h
   ·assumption
   ·cases h
  rw[By2 hk.1 this,h]
theorem Rd.full {e:Ex} (r:Rd l p e k k') (h:nof w0 (tk l k')):p.expr k= .ok (stE e) k':=by
 have hg:=(Qv e).1;by_cases c:Ba e=0
 ·rw[r.exp c (s10 h),Ah7 r.le.2 h]
 ·rw[Bo2 r.le.1,r.rel (by omega) (sd1 (s10 h)) fun _=>s10 h];exact Ah7 r.le.2 h
def RT (l:List Tok) (p:PS) (e:Ex):Prop:= ∀k,At l k (Am e)->Rd l p e k (k+(Am e).length)
theorem Wd {e:Ex} {y:Int} (R:RT l p e) (h:At l k (Ay e y)) (C:k'=k+(Ay e y).length):(Ba e<y/\p.primary k= .ok (stE e) k')\/(y<=Ba e/\Rd l p e k k'):=by
 subst C;unfold Ay at h⊢
 by_cases c:Ba e<y
 ·refine .inl ⟨c, ?_⟩;rw[decide_eq_true c] at h⊢
  have h1:At l (k+1) (Am e++ [Ah Bt]):=At.tail h;have h2:=h1.right;have hs:=At.word h2;have r:=R _ h1.left;have he:=r.full (by rw[h2.head.1];decide+kernel);rw[Ah8 (At.word h),Bo4 (At.word h) he hs];simp only[Yq,if_true,jA,jC,jB];congr 1;omega
 ·refine .inr ⟨by omega, ?_⟩;rw[decide_eq_false c] at h⊢
  exact R _ h
section
variable {e:Ex} (R:RT l p e)
include R
theorem Gn4 (h:At l k (Ay e 5)) (y:k'=k+(Ay e 5).length) (C:nof w5 (tk l k')):p.primary k= .ok (stE e) k':=by
 rcases Wd R h y with⟨_,h1⟩ | ⟨h1,r⟩
 ·exact h1
 ·exact r.prim (by have:=(Qv e).2;omega) C
theorem Gn5 (h:At l k (Ay e 4)) (y:k'=k+(Ay e 4).length) (C:nof w5 (tk l k')):p.factor k= .ok (stE e) k':=by
 rcases Wd R h y with⟨_,h1⟩ | ⟨h1,r⟩
 ·exact Lx h.1 h1
 ·exact r.fac h1 C
theorem Ez7 (h:At l k (Ay e 3)) (y:k'=k+(Ay e 3).length) (C:nof w5 (tk l k')):p.term k=p.mulL (stE e) k':=by
 rcases Wd R h y with⟨_,h1⟩ | ⟨h1,r⟩
 ·exact Ly h.1 (Lx h.1 h1)
 ·exact r.term h1 C
theorem Fx7 (h:At l k (Ay e 2)) (C:k'=k+(Ay e 2).length) (y:nof w3 (tk l k')):p.simple k=p.addL (stE e) k':=by
 rcases Wd R h C with⟨_,h1⟩ | ⟨h1,r⟩
 ·exact Kk h.1 (by have:=h.le;omega) (Ly h.1 (Lx h.1 h1)) y
 ·exact r.simp h1 y
theorem Zz (h:At l k (Ay e 2)) (C:k'=k+(Ay e 2).length) (y:nof w2 (tk l k')):p.simple k= .ok (stE e) k':=by
 rw[Fx7 R h C (s32 y),So (by have:=h.le;omega) y]
theorem Fx8 (h:At l k (Ay e 1)) (D:k'=k+(Ay e 1).length) (y:nof w1 (tk l k')):Aw7 p k= .ok (stE e) k':=by
 rcases Wd R h D with⟨_,h1⟩ | ⟨h1,r⟩
 ·have C:k'<=l.length:=by have:=h.le;omega
  exact Og C (Kk h.1 C (Ly h.1 (Lx h.1 h1)) (s31 y)) y
 ·exact r.rel h1 (sd1 y) fun _=>y
end
end
theorem Ez8 {l:List Ex} (h:l.length=1): ∃x,l= [x]:=by
 match l,h with
 | [x],_=>exact⟨x,rfl⟩
theorem Ef2 {l:List Ex} (h:l.length=2): ∃x y,l= [x,y]:=by
 match l,h with
 | [x,y],_=>exact⟨x,y,rfl⟩
theorem Gn6 {l:List Ex} (h:l.length=3): ∃x y z,l= [x,y,z]:=by
 match l,h with
 | [x,y,z],_=>exact⟨x,y,z,rfl⟩
theorem Cg5 {e:Ex} (h:Jk e 1=true): ∃x,e.l= [x]/\Cd x=true:=by
 rw[Jk,jF,decide_eq_true_eq] at h;obtain⟨x,hx⟩:=Ez8 h.1;rw[hx] at h;exact⟨x,hx,h.2⟩
theorem Fq6 {e:Ex} (h:Jk e 2=true): ∃x y,e.l= [x,y]/\Cd x=true:=by
 rw[Jk,jF,decide_eq_true_eq] at h;obtain⟨x,y,hx⟩:=Ef2 h.1;rw[hx] at h;exact⟨x,y,hx,h.2⟩
section
variable {e:Ex}
theorem ff1 (h:e.kind=1) (hf:Bc e=true):e.l= []/\e.oper=0/\e.s= []/\e.a= []:=by
 have:Bc e=(e.l.isEmpty&&decide (0<=e.n)&&decide (e.n<=2147483647)&&zO e&&zS e&&zA e):=by unfold Bc;rw[h];rfl
 rw[this] at hf;simp only[jF,zO,zS,zA,decide_eq_true_eq,List.isEmpty_iff] at hf;exact⟨hf.1.1.1.1.1,hf.1.1.2,hf.1.2,hf.2⟩
theorem ff2 (h:e.kind=2) (hf:Bc e=true):e.l= []/\e.oper=0/\e.n=0/\e.s= []/\e.a= []:=by
 have:Bc e=(e.l.isEmpty&&zO e&&zN e&&zS e&&zA e):=by unfold Bc;rw[h];rfl
 rw[this] at hf;simp only[jF,zO,zN,zS,zA,decide_eq_true_eq,List.isEmpty_iff] at hf;exact⟨hf.1.1.1.1,hf.1.1.1.2,hf.1.1.2,hf.1.2,hf.2⟩
theorem ff3 (h:e.kind=3) (hf:Bc e=true):e.l= []/\e.oper=0/\e.n=0/\e.a= []:=by
 have:Bc e=(e.l.isEmpty&&Lo e.s&&zO e&&zN e&&zA e):=by unfold Bc;rw[h];rfl
 rw[this] at hf;simp only[jF,zO,zN,zA,decide_eq_true_eq,List.isEmpty_iff] at hf;exact⟨hf.1.1.1.1,hf.1.1.2,hf.1.2,hf.2⟩
theorem Dh3 (h:e.kind=4\/e.kind=6) (hf:Bc e=true):(∃x,e.l= [x]/\Cd x=true)/\e.oper=0/\e.n=0/\e.a= []:=by
 have:Bc e=(Jk e 1&&Lo e.s&&zO e&&zN e&&zA e):=by rcases h with h | h<;>(unfold Bc;rw[h];rfl)
 rw[this] at hf;simp only[jF,zO,zN,zA,decide_eq_true_eq,List.isEmpty_iff] at hf;exact⟨Cg5 hf.1.1.1.1,hf.1.1.2,hf.1.2,hf.2⟩
theorem ff5 (h:e.kind=5) (hf:Bc e=true):(∃x,e.l= [x]/\Cd x=true)/\e.oper=0/\e.n=0/\e.s= []/\e.a= []:=by
 have:Bc e=(Jk e 1&&zO e&&zN e&&zS e&&zA e):=by unfold Bc;rw[h];rfl
 rw[this] at hf;simp only[jF,zO,zN,zS,zA,decide_eq_true_eq,List.isEmpty_iff] at hf;exact⟨Cg5 hf.1.1.1.1,hf.1.1.1.2,hf.1.1.2,hf.1.2,hf.2⟩
theorem ff7 (h:e.kind=7) (hf:Bc e=true):(∃x,e.l= [x]/\Cd x=true)/\Ns e.a=true/\e.oper=0/\e.n=0/\e.s= []:=by
 have:Bc e=(Jk e 1&&Ns e.a&&zO e&&zN e&&zS e):=by unfold Bc;rw[h];rfl
 rw[this] at hf;simp only[jF,zO,zN,zS,decide_eq_true_eq] at hf;exact⟨Cg5 hf.1.1.1.1,hf.1.1.1.2,hf.1.1.2,hf.1.2,hf.2⟩
theorem ff8 (h:e.kind=8) (hf:Bc e=true):(∃x y,e.l= [x,y]/\Cd x=true)/\e.oper=0/\e.n=0/\e.s= []/\e.a= []:=by
 have:Bc e=(Jk e 2&&zO e&&zN e&&zS e&&zA e):=by unfold Bc;rw[h];rfl
 rw[this] at hf;simp only[jF,zO,zN,zS,zA,decide_eq_true_eq,List.isEmpty_iff] at hf;exact⟨Fq6 hf.1.1.1.1,hf.1.1.1.2,hf.1.1.2,hf.1.2,hf.2⟩
theorem ff9 (h:e.kind=9) (hf:Bc e=true):e.l= []/\Ip e.a=true/\e.oper=0/\e.n=0/\e.s= []:=by
 have:Bc e=(e.l.isEmpty&&Ip e.a&&zO e&&zN e&&zS e):=by unfold Bc;rw[h];rfl
 rw[this] at hf;simp only[jF,zO,zN,zS,decide_eq_true_eq,List.isEmpty_iff] at hf;exact⟨hf.1.1.1.1,hf.1.1.1.2,hf.1.1.2,hf.1.2,hf.2⟩
theorem Gf3 (h:e.kind=10) (hf:Bc e=true):(∃x y z,e.l= [x,y,z])/\e.oper=0/\e.n=0/\e.s= []/\e.a= []:=by
 have:Bc e=(decide (e.l.length=3)&&zO e&&zN e&&zS e&&zA e):=by unfold Bc;rw[h];rfl
 rw[this] at hf;simp only[jF,zO,zN,zS,zA,decide_eq_true_eq,List.isEmpty_iff] at hf;exact⟨Gn6 hf.1.1.1.1,hf.1.1.1.2,hf.1.1.2,hf.1.2,hf.2⟩
theorem Gf4 (h:e.kind=11) (hf:Bc e=true):(∃x,e.l= [x])/\(∃o:Nat,e.oper=o/\(o=18\/o=19\/o=20\/o=21))/\e.n=0/\e.s= []/\e.a= []:=by
 have:Bc e=(decide (e.l.length=1)&&decide (18<=e.oper)&&decide (e.oper<=21)&&zN e&&zS e&&zA e):=by unfold Bc;rw[h];rfl
 rw[this] at hf;simp only[jF,zN,zS,zA,decide_eq_true_eq,List.isEmpty_iff] at hf;exact⟨Ez8 hf.1.1.1.1.1,⟨e.oper.toNat,by omega,by omega⟩,hf.1.1.2,hf.1.2,hf.2⟩
theorem Gf5 (h:e.kind=12) (hf:Bc e=true):(∃x y,e.l= [x,y])/\(∃o:Nat,e.oper=o/\1<=o/\o<=17)/\e.n=0/\e.s= []/\e.a= []:=by
 have:Bc e=(decide (e.l.length=2)&&decide (1<=e.oper)&&decide (e.oper<=17)&&zN e&&zS e&&zA e):=by unfold Bc;rw[h];rfl
 rw[this] at hf;simp only[jF,zN,zS,zA,decide_eq_true_eq,List.isEmpty_iff] at hf;exact⟨Ef2 hf.1.1.1.1.1,⟨e.oper.toNat,by omega,by omega,by omega⟩,hf.1.1.2,hf.1.2,hf.2⟩
theorem Ez9 (h:e.kind=13\/e.kind=14) (hf:Bc e=true):((∃x y z,e.l= [x,y,z])\/ ∃x y,e.l= [x,y]/\Cd y=true)/\e.oper=0/\e.n=0/\e.s= []/\e.a= []:=by
 have:Bc e=((decide (e.l.length=3) || decide (e.l.length=2)&&Cd (e.l.getD 1 ex0))&&zO e&&zN e&&zS e&&zA e):=by rcases h with h | h<;>(unfold Bc;rw[h];rfl)
 rw[this] at hf;simp only[jF,Bool.or_eq_true,zO,zN,zS,zA,decide_eq_true_eq,List.isEmpty_iff] at hf;refine⟨?_,hf.1.1.1.2,hf.1.1.2,hf.1.2,hf.2⟩;rcases hf.1.1.1.1 with h3 | h2
 ·exact .inl (Gn6 h3)
 ·obtain⟨x,y,hx⟩:=Ef2 h2.1;rw[hx] at h2;exact .inr ⟨x,y,hx,h2.2⟩
theorem Yd (h:3<=e.kind/\e.kind<=8):Cd e=true:=by rw[Cd,decide_eq_true h.1,decide_eq_true h.2];rfl
theorem Tj (h:e.kind<3\/8<e.kind):Cd e=true->False:=fun c=>by
 rw[Cd,jF,decide_eq_true_eq,decide_eq_true_eq] at c;omega
end
theorem Ad4 (s:List UInt8): ∀(x:List Tok) (xs:List (List Tok)),Ef s (x::xs)=x++xs.flatMap fun t=>Ah s::t
 | x,[]=>by simp [Ef]
 | x,y::ys=>by rw[Ac9 s x _ (by simp),Ad4 s y ys,List.flatMap_cons];simp
section
variable {l:List Tok} {k k':Nat} {s:List UInt8} {p:PS} [hr:Rdr l p]
theorem Dq9 {α β:Type} {f:Nat->Res α} {fL:List α->Nat->Res (List α)} {sep:List UInt8} {W:List (List UInt8)} {g:β->List Tok} {st:β->α}
  (C: ∀az k,k<=l.length->fL az k=if isW l k [sep] then(f (k+1)).then fun a k=>fL (az++ [a]) k else .ok az k) (D:nof W (Ah sep)):
  ∀(y:List β) (h:List α) (k:Nat),(∀b∈y,∀k,At l k (g b)->nof W (tk l (k+(g b).length))->f k= .ok (st b) (k+(g b).length))->At l k (y.flatMap fun b=>Ah sep::g b)->
   nof W (tk l (k+(y.flatMap fun b=>Ah sep::g b).length))->isW l (k+(y.flatMap fun b=>Ah sep::g b).length) [sep]=false->fL h k= .ok (h++y.map st) (k+(y.flatMap fun b=>Ah sep::g b).length)
 | [],h,k,_,ha,_,hn=>by
  rw[List.flatMap_nil,jB,Nat.add_zero] at hn⊢
  rw[C h k ha.1,hn,jP,jH];rfl
 | b::r,h,k,he,ha,hw,hn=>by
  rw[List.flatMap_cons] at ha hw hn⊢
  have e1:k+(Ah sep::g b++r.flatMap fun b=>Ah sep::g b).length=k+1+(g b).length+(r.flatMap fun b=>Ah sep::g b).length:=by
   rw[jC,jA];omega
  rw[e1] at hw hn⊢
  have h1:At l (k+1) (g b++r.flatMap fun b=>Ah sep::g b):=At.tail ha;have h2:=h1.right;have hf:nof W (tk l (k+1+(g b).length)):=by
   cases r with
   | nil=>simpa using hw
   | cons c r'=>
    rw[List.flatMap_cons] at h2;rw[(At.head h2).1];exact D
  rw[C h k ha.1,if_pos (At.word ha),he b (by simp) _ h1.left hf];show fL (h++ [st b]) _=_;rw[Dq9 C D r (h++ [st b]) _ (fun c hc=>he c (by simp [hc])) h2 hw hn];simp
theorem Ao2 {α β:Type} {f:Nat->Res α} {fL:List α->Nat->Res (List α)} {sep:List UInt8} {W:List (List UInt8)} {g:β->List Tok} {st:β->α}
  (C: ∀az k,k<=l.length->fL az k=if isW l k [sep] then(f (k+1)).then fun a k=>fL (az++ [a]) k else .ok az k) (y:nof W (Ah sep))
  {b:β} {r:List β} (he: ∀c∈b::r,∀k,At l k (g c)->nof W (tk l (k+(g c).length))->f k= .ok (st c) (k+(g c).length)) (ha:At l k (Ef sep ((b::r).map g)))
  (h:k'=k+(Ef sep ((b::r).map g)).length) (hw:nof W (tk l k')) (D:isW l k' [sep]=false):
  ∃j,f k= .ok (st b) j/\fL [st b] j= .ok ((b::r).map st) k'/\j<=l.length/\(r≠ []->isW l j [sep]=true)/\(r= []->j=k'):=by
 have e1:Ef sep ((b::r).map g)=g b++r.flatMap fun c=>Ah sep::g c:=by
  rw[jN,Ad4,Xl]
 rw[e1] at ha h;rw[jC,<-Nat.add_assoc] at h;have h2:=ha.right;have hf:nof W (tk l (k+(g b).length)):=by
  cases r with
  | nil=>rw[List.flatMap_nil,jB,Nat.add_zero] at h;rw[<-h];exact hw
  | cons c r'=>
   rw[List.flatMap_cons] at h2;rw[(At.head h2).1];exact y
 refine⟨_,he b (by simp) k ha.left hf, ?_,h2.1,fun hr=> ?_,fun hr=> ?_⟩
 ·subst h;rw[Dq9 C y r [st b] _ (fun c hc=>he c (by simp [hc])) h2 hw D];rfl
 ·cases r with
  | nil=>exact absurd rfl hr
  | cons c r'=>
   rw[List.flatMap_cons] at h2;exact At.word h2
 ·subst hr;rw[h,List.flatMap_nil,jB,Nat.add_zero]
def wA:List (List UInt8):=w0++ [Bn,Gl]
theorem Bo5 {x:Ex} (h:x.kind=3) (hf:Bc x=true):stE x= .mk 3 0 0 x.s [] [] 0 0 0:=by
 obtain⟨a,b,c,d⟩:=ff3 h hf;rw[Fd,h,a,b,c,d];rfl
theorem Gf6 (hz: ∀k,(tk l k).line=0) {a:As} (ha:(a.c.isEmpty || Eu a.c)=true) (hp: ∀x∈Fb a,Bc x=true/\RT l p x) (h:At l k (Hz a)) (y:nof wA (tk l (k+(Hz a).length))):
  p.arg k= .ok (stA a) (k+(Hz a).length):=by
 obtain⟨L,C⟩:=hp a.e (Ow a)
 rw[Ah6]
 by_cases D:a.c= []
 ·rw[Qu,D,List.isEmpty_nil,if_pos rfl] at h y⊢
  exact Ez6 h.1 ((C _ h).full (Gy y (by decide))) (Gz y (by decide) [])
 ·obtain⟨c,hc⟩: ∃c,a.c= [c]/\c.kind=1/\ ∃x,c.l= [x]/\x.kind=3:=by
   match hcc:a.c,D with
   | [c],_=>
    rw[hcc] at ha
    simp only[Eu,List.isEmpty_cons,Bool.false_or,jF,decide_eq_true_eq] at ha
    refine⟨c,rfl,ha.1, ?_⟩
    match hl:c.l with
    | [x]=>rw[hl] at ha;exact⟨x,rfl,by simpa using ha.2⟩
    | []=>rw[hl] at ha;cases ha.2
    | _::_::_=>rw[hl] at ha;cases ha.2
   | c::d::r,_=>rw[hcc] at ha;simp [Eu] at ha
  obtain⟨hc,E,x,hx,I⟩:=hc
  have J:=hp x (Sa (c:=c) (by rw[hc];simp) (by rw[hx];simp))
  have ht:Hz a=Ci x.s::Ah Bn::Am a.e:=by
   rw[Qu,hc]
   show Dw c++_=_
   rw[Ng,if_pos E,hx,List.map_singleton]
   show Am x++_=_
   rw[Cs4 I];rfl
  rw[ht] at h y⊢
  have h1:At l (k+1) (Ah Bn::Am a.e):=At.tail h
  have h2:At l (k+2) (Am a.e):=At.tail h1
  have e1:k+(Ci x.s::Ah Bn::Am a.e).length=k+2+(Am a.e).length:=by simp only[jA];omega
  rw[e1] at y⊢
  rw[Fx6 h.1,h.head.1,if_pos ⟨rfl,At.word h1⟩,(C _ h2).full (Gy y (by decide))]
  show Res.ok _ _=_
  rw[hc,List.map_singleton,Bn2,E,hx,List.map_singleton,Bo5 I J.1];rfl
theorem By3 {n:Nat} {c:Ch} (C:Fj n c=true) (hp: ∀x∈c.l,RT l p x) (h:At l k (Dw c)) (D:nof w0 (tk l (k+(Dw c).length))):p.choice k= .ok (stC c) (k+(Dw c).length):=by
 rw[Bn2];unfold Fj at C;by_cases E:c.kind=1
 ·rw[if_pos E,decide_eq_true_eq] at C;obtain⟨x,hx⟩:=Ez8 C;have ht:Dw c=Am x:=by rw[Ng,if_pos E,hx];rfl
  rw[ht] at h D⊢
  rw[Ba3 h.1 ((hp x (by rw[hx];simp) _ h).full D) (Gz D (by decide) []),E,hx];rfl
 ·rw[if_neg E] at C;by_cases I:c.kind=2
  ·rw[if_pos I,decide_eq_true_eq] at C;obtain⟨x,y,hx⟩:=Ef2 C;have ht:Dw c=Ay x 2++Ah Ev::Ay y 2:=by rw[Ng,if_neg E,if_pos I,hx];rfl
   rw[ht] at h D⊢
   have h1:=h.right;have h2:At l (k+(Ay x 2).length+1) (Ay y 2):=At.tail h1;have e1:k+(Ay x 2++Ah Ev::Ay y 2).length=k+(Ay x 2).length+1+(Ay y 2).length:=by rw[jC,jA];omega
   rw[e1] at D⊢
   have s1:=Zz (hp x (by rw[hx];simp)) h.left rfl (by rw[h1.head.1];decide+kernel);have s2:=Zz (hp y (by rw[hx];simp)) h2 rfl (Gy D (by decide));rw[Ao0 h.1,Aw5 s1 (s:=Lf) (by decide),s1];show(if isW l _ [Ev] then _ else _)=_;rw[if_pos (At.word h1),s2,I,hx];rfl
  ·rw[if_neg I] at C;simp only[jF,decide_eq_true_eq] at C;have ht:Dw c= [Ah Lf]:=by rw[Ng,if_neg E,if_neg I]
   rw[ht] at h D⊢
   rw[Ao0 h.1,if_pos (At.word h),C.1.1,List.length_eq_zero_iff.1 C.1.2];rfl
theorem Fa0 {a:As} (ha:(a.c.isEmpty || Dk a.c)=true) (hp: ∀x∈Fb a,RT l p x) (h:At l k (Hz a)) (y:nof wA (tk l (k+(Hz a).length))):
  p.assoc k= .ok (stA a) (k+(Hz a).length):=by
 have he:=hp a.e (Ow a);rw[Ah6];cases hc:a.c with
 | nil=>
  rw[Qu,hc,List.isEmpty_nil,if_pos rfl] at h y⊢
  exact Bo3 h.1 ((he _ h).full (Gy y (by decide))) (Gz y (by decide) []) (Gz y (by decide) []) (Gz y (by decide) [])
 | cons c r=>
  rw[hc] at ha;simp only[List.isEmpty_cons,Bool.false_or,Dk,jF,decide_eq_true_eq,List.all_eq_true] at ha;have ht:Hz a=Ef Gl ((c::r).map Dw)++Ah Bn::Am a.e:=by rw[Qu,hc,List.isEmpty_cons,if_neg (by simp)]
  rw[ht] at h y⊢
  have h1:=h.right;have h2:At l (k+(Ef Gl ((c::r).map Dw)).length+1) (Am a.e):=At.tail h1;have e1:k+(Ef Gl ((c::r).map Dw)++Ah Bn::Am a.e).length=k+(Ef Gl ((c::r).map Dw)).length+1+(Am a.e).length:=by rw[jC,jA];omega
  rw[e1] at y⊢
  have C:=(he _ h2).full (Gy y (by decide));have hw:=At.word h1;obtain⟨j,M,O,X,S,D⟩:=Ao2 (l:=l) (f:=p.choice) (fL:=p.choicesL) (sep:=Gl) (W:=w0) (g:=Dw) (st:=stC) (fun az k hk=>Bo1 az hk) (by decide+kernel) (b:=c) (r:=r)
   (fun d hd k U V=>By3 (ha.2 d hd) (fun x hx=>hp x (Sa (c:=d) (by rw[hc];exact hd) hx)) U V) h.left rfl (by rw[h1.head.1];decide+kernel) (Ga hw (by decide))
  rw[Cg3 h.1,M];show(if _ then _ else _)=_;rw[if_neg,An8]
  ·by_cases E:c.kind=3
   ·have I:r= []:=by
     have:=ha.2 c (by simp);unfold Fj at this;rw[if_neg (by omega),if_neg (by omega)] at this;simp only[jF,decide_eq_true_eq,jA] at this;exact List.length_eq_zero_iff.1 (by omega)
    rw[if_pos E,D I,must,if_pos hw,C,I];rfl
   ·rw[if_neg E,O];show must l Bn _ (fun k=>(p.expr k).then fun e k=>Res.ok (As.mk ((c::r).map stC) e) k)=_;rw[must,if_pos hw,C];rfl
  ·rintro⟨_,J,L⟩;cases r with
   | nil=>rw[D rfl,hw] at L;cases L
   | cons d r'=>rw[S (by simp)] at J;cases J
end
theorem Ef3 {az:List As} (h:Ur az=false) (li:Int):Bj9 li az= .mk 9 0 0 [] [] az li 0 0:=by
 match az,h with
 | [],_=>rfl
 | [x],h=>
  show(if x.c= [] then x.e else _)=_
  rw[if_neg]
  intro c
  simp [Ur,c] at h
 | _::_::_,_=>rfl
theorem Sb: ∀ {l:List As},Hy l=true-> ∀a∈l,(a.c.isEmpty || Dk a.c)=true
 | [],_,a,h=>by cases h
 | b::r,h,a,hm=>by
  rw[Hy,jF] at h;rcases List.mem_cons.1 hm with rfl | hm
  ·have:=h.1;rw[Bool.or_eq_true] at this⊢
   rcases this with h1 | h1
   ·exact .inl h1
   ·rw[jF] at h1;exact .inr h1.1
  ·exact Sb h.2 a hm
theorem Aw8 {α β:Type} (x:α) (k:Nat) (f:α->Nat->Res β):(Res.ok x k).then f=f x k:=rfl
theorem Ao3 {l:List Tok} {α:Type} {s:List UInt8} {k:Nat} {f:Nat->Res α} (h:isW l k [s]=true):must l s k f=f (k+1):=by rw[must,if_pos h]
section
variable {l:List Tok} {k k':Nat} {s:List UInt8} {p:PS} [hr:Rdr l p] {e:Ex}
variable (hz: ∀k,(tk l k).line=0) (hf:Bc e=true) (ih: ∀x∈parts e,RT l p x)
include hf hz
theorem rt1 (h:e.kind=1):RT l p e:=by
 obtain⟨a,b,c,d⟩:=ff1 h hf;intro k y;rw[Ex3 h] at y⊢
 refine .of5 ⟨y.1,y.le⟩ (lv5 (by omega)) (fun c=>(Tj (by omega) c).elim) (fun c=>by rw[h] at c;cases c) fun _=> ?_;have ht:=y.head.1;rw[Wb y.1,ht,if_pos (show(Cs3 e.n).kind=3 from rfl),Fd,h,a,b,c,d];rfl
theorem rt2 (h:e.kind=2):RT l p e:=by
 obtain⟨a,b,c,d,C⟩:=ff2 h hf;intro k y;rw[Ex4 h] at y⊢
 refine .of5 ⟨y.1,y.le⟩ (lv5 (by omega)) (fun c=>(Tj (by omega) c).elim) (fun c=>by rw[h] at c;cases c) fun _=> ?_;have hw:=At.word y;rw[Wb y.1,if_neg (Jo hw).2.1,if_pos hw,hz,Fd,h,a,b,c,d,C];rfl
theorem rt3 (h:e.kind=3):RT l p e:=by
 intro k y;rw[Cs4 h] at y⊢
 refine .ofName ⟨y.1,y.le⟩ (Yd (by omega)) ?_;have ht:=y.head.1;rw[Cg4 y.1,Iz,if_pos (by rw[ht];rfl),hz,ht,Bo5 h hf];rfl
include ih
theorem rt4 (h:e.kind=4):RT l p e:=by
 obtain⟨⟨x,hx,hn⟩,b,c,d⟩:=Dh3 (.inl h) hf;have ht:Am e=Am x++ [Ah Jl,Ci e.s]:=by rw[Dq2 h];unfold tE;rw[hx];rfl
 intro k y;rw[ht] at y⊢
 have r:=ih x (Be (by rw[hx];simp)) k y.left;have h1:=y.right;have h2:At l (k+(Am x).length+1) [Ci e.s]:=At.tail h1;have h3:=h2.head.1;have w1:isW l (k+(Am x).length) [Jl]=true:=At.word h1;have C:isW l (k+(Am x).length+1) [Zr]=false:=Gz (ws:= [Zr]) (by rw[h3];exact Pb (.inl rfl)) (by simp) [];refine .ofName ⟨y.1,y.le⟩ (Yd (by omega)) ?_;rw[r.name hn,Ad2 _ _ r.le.2,Ex9 (s:=Jl) (t:=Zr),C,Bool.and_false,if_neg (by simp),if_pos w1,Iz,if_pos (by rw[h3];rfl),h3,Fd e,h,hx,b,c,d,jC];rfl
theorem rt5 (h:e.kind=5):RT l p e:=by
 obtain⟨⟨x,hx,hn⟩,b,c,d,C⟩:=ff5 h hf;have ht:Am e=Am x++ [Ah Jl,Ah Zr]:=by rw[Ex5 h];unfold tE;rw[hx];rfl
 intro k y;rw[ht] at y⊢
 have r:=ih x (Be (by rw[hx];simp)) k y.left;have w1:isW l (k+(Am x).length) [Jl,Zr]=true:=At.words (ws:= [Jl,Zr]) (ts:= []) y.right;refine .ofName ⟨y.1,y.le⟩ (Yd (by omega)) ?_;rw[r.name hn,Ad2 _ _ r.le.2,if_pos w1,Fd e,h,hx,b,c,d,C,jC];rfl
theorem rt6 (h:e.kind=6):RT l p e:=by
 obtain⟨⟨x,hx,hn⟩,b,c,d⟩:=Dh3 (.inr h) hf;have ht:Am e=Am x++ [Ah Iq,Ci e.s]:=by rw[Ex6 h];unfold tE;rw[hx];rfl
 intro k y;rw[ht] at y⊢
 have r:=ih x (Be (by rw[hx];simp)) k y.left;have h1:=y.right;have h2:At l (k+(Am x).length+1) [Ci e.s]:=At.tail h1;have h3:=h2.head.1;have w1:isW l (k+(Am x).length) [Iq]=true:=At.word h1;have w2:isW l (k+(Am x).length) [Jl]=false:=Ga w1 (by decide);have C:isW l (k+(Am x).length+1) [Bi]=false:=Gz (ws:= [Bi]) (by rw[h3];exact Pb (.inl rfl)) (by simp) [];refine .ofName ⟨y.1,y.le⟩ (Yd (by omega)) ?_;rw[r.name hn,Ad2 _ _ r.le.2,Gm w2,w2,Ga w1 (t:=Bi) (by decide),Ex9 (s:=Iq) (t:=Bi),C,Bool.and_false,if_neg (by simp),if_neg (by simp),if_neg (by simp),if_neg (by simp),if_pos w1,Iz,if_pos (by rw[h3];rfl),h3,Fd e,h,hx,b,c,d,jC];rfl
theorem rt7 (hv: ∀x∈parts e,Bc x=true) (h:e.kind=7):RT l p e:=by
 obtain⟨⟨x,hx,hn⟩,ha,b,c,d⟩:=ff7 h hf;have ht:Am e=Am x++Ah Bi::(taE e++ [Ah Bt]):=by rw[Ex7 h];unfold tE;rw[hx];rfl
 intro k C;rw[ht] at C⊢
 have r:=ih x (Be (by rw[hx];simp)) k C.left;have h1:=C.right;have h2:At l (k+(Am x).length+1) (taE e++ [Ah Bt]):=At.tail h1;have h3:=h2.right;have w1:isW l (k+(Am x).length) [Bi]=true:=At.word h1;have w2:isW l (k+(Am x).length) [Jl]=false:=Ga w1 (by decide);have w3:=At.word h3;rw[Ns,jF,jF,jF,decide_eq_true_eq,decide_eq_true_eq,List.all_eq_true] at ha;refine .ofName ⟨C.1,C.le⟩ (Yd (by omega)) ?_;cases hea:e.a with
 | nil=>rw[hea] at ha;simp at ha
 | cons a az=>
  have D:taE e=Ef Dh ((a::az).map Hz):=by rw[taE,hea]
  obtain⟨j,I,J,M,O,S⟩:=Ao2 (l:=l) (f:=p.arg) (fL:=p.argsL) (sep:=Dh) (W:=wA) (g:=Hz) (st:=stA) (fun az k hk=>Fq3 az hk) (by decide+kernel) (b:=a) (r:=az)
   (fun c hc k C L=>Gf6 hz (ha.2 c (by rw[hea];exact hc)) (fun y E=>⟨hv y (Lq (by rw[hea];exact hc) E),ih y (Lq (by rw[hea];exact hc) E)⟩) C L) (by rw[<-D];exact h2.left) rfl (by rw[<-D,h3.head.1];decide+kernel) (by rw[<-D];exact Ga w3 (by decide))
  rw[r.name hn,Ad2 _ _ r.le.2,Gm w2,w2,if_neg (by simp),if_neg (by simp),if_pos w1,I];show(p.argsL [stA a] j).then _=_
  rw[J];show must l Bt _ (fun k=>p.nameL 0 (.mk 7 0 0 [] [stE x] ((a::az).map stA) 0 0 0) k)=_;rw[must,<-D,if_pos w3,Fd e,h,hx,b,c,d,hea,jC,jA,jC];congr 1;simp only[jA,jB];omega
theorem rt8 (h:e.kind=8):RT l p e:=by
 obtain⟨⟨x,y,hx,hn⟩,b,c,d,E⟩:=ff8 h hf;have ht:Am e=Am x++Ah Iq::Yq (!Qt y.kind) (Am y):=by rw[Ex8 h];unfold tE;rw[hx];rfl
 intro k C;rw[ht] at C⊢
 have r:=ih x (Be (by rw[hx];simp)) k C.left;have D:=ih y (Be (by rw[hx];simp));have h1:=C.right;have h2:At l (k+(Am x).length+1) (Yq (!Qt y.kind) (Am y)):=At.tail h1;have w1:isW l (k+(Am x).length) [Iq]=true:=At.word h1;have w2:isW l (k+(Am x).length) [Jl]=false:=Ga w1 (by decide);have key:isW l (k+(Am x).length+1) [Bi]=true/\p.paren (k+(Am x).length+1)= .ok (stE y) (k+(Am x).length+1+(Yq (!Qt y.kind) (Am y)).length):=by
  cases hb:Qt y.kind with
  | true=>
   rw[hb] at h2;have h2:At l (k+(Am x).length+1) (Am y):=h2;have hpr:=(D _ h2).bare hb;refine⟨?_,hpr⟩;have I:y.kind=9\/y.kind=10:=by simpa [Qt] using hb
   rcases I with h9 | h9
   ·rw[Dq3 h9] at h2;exact At.word h2
   ·rw[Cf5 h9] at h2;exact At.word h2
  | false=>
   rw[hb] at h2;have h2:At l (k+(Am x).length+1) (Ah Bi::(Am y++ [Ah Bt])):=h2;have h3:At l (k+(Am x).length+1+1) (Am y++ [Ah Bt]):=At.tail h2;have h4:=h3.right;refine⟨At.word h2, ?_⟩;rw[Bo4 (At.word h2) ((D _ h3.left).full (by rw[h4.head.1];decide+kernel)) (At.word h4)];show _=Res.ok _ (_+(Ah Bi::(Am y++ [Ah Bt])).length);congr 1;simp only[jA,jC,jB];omega
 refine .ofName ⟨C.1,C.le⟩ (Yd (by omega)) ?_;rw[r.name hn,Ad2 _ _ r.le.2,Gm w2,w2,Ga w1 (t:=Bi) (by decide),Ex9,w1,key.1,if_neg (by simp),if_neg (by simp),if_neg (by simp),if_pos (by rfl),key.2];show p.nameL 0 _ _=_;rw[Fd e,h,hx,b,c,d,E,jC,jA];congr 1;omega
theorem rt9 (h:e.kind=9):RT l p e:=by
 obtain⟨hl,ha,b,c,d⟩:=ff9 h hf;intro k C;rw[Dq3 h] at C⊢
 have h2:At l (k+1) (taE e++ [Ah Bt]):=At.tail C;have h3:=h2.right;have w3:=At.word h3;have E:=At.word C;rw[Ip] at ha;simp only[jF,decide_eq_true_eq,Bool.not_eq_true'] at ha;have I:p.paren k= .ok (stE e) (k+(Ah Bi::(taE e++ [Ah Bt])).length):=by
  cases hea:e.a with
  | nil=>rw[hea] at ha;simp at ha
  | cons a az=>
   have D:taE e=Ef Dh ((a::az).map Hz):=by rw[taE,hea]
   obtain⟨j,J,L,S,U,V⟩:=Ao2 (l:=l) (f:=p.assoc) (fL:=p.assocsL) (sep:=Dh) (W:=wA) (g:=Hz) (st:=stA) (fun az k hk=>By1 az hk) (by decide+kernel) (b:=a) (r:=az)
    (fun c hc k C M=>Fa0 (Sb ha.2 c (by rw[hea];exact hc)) (fun y O=>ih y (Lq (by rw[hea];exact hc) O)) C M) (by rw[<-D];exact h2.left) rfl (by rw[<-D,h3.head.1];decide+kernel) (by rw[<-D];exact Ga w3 (by decide))
   rw[Ao1 E J L (by rw[<-D];exact w3),hz,Ef3 (by rw[Bn7,<-hea];exact ha.1.2),Fd e,h,hl,b,c,d,hea,<-D];congr 1;simp only[jA,jC,jB];omega
 exact .of5 ⟨C.1,C.le⟩ (lv5 (by omega)) (fun c=>(Tj (by omega) c).elim) (fun _=>I) fun _=>by rw[Ah8 E,I]
theorem Gq3 (h:e.kind=10):RT l p e:=by
 obtain⟨⟨x,y,z,hx⟩,b,c,d,I⟩:=Gf3 h hf;have ht:Am e=Ah Bi::Ah wIf::(Am x++Ah Pm::(Am y++Ah Qp::(Am z++ [Ah Bt]))):=by rw[Cf5 h];unfold tE;rw[hx];rfl
 intro k C;rw[ht] at C⊢
 have D:=At.word C;have h1:At l (k+1) (Ah wIf::_):=At.tail C;have h2:=At.tail h1;have h3:=h2.right;have h4:=(At.tail h3);have h5:=h4.right;have h6:=(At.tail h5);have h7:=h6.right;have J:=(ih x (Be (by rw[hx];simp)) _ h2.left).full (by rw[h3.head.1];decide+kernel);have L:=(ih y (Be (by rw[hx];simp)) _ h4.left).full (by rw[h5.head.1];decide+kernel);have M:=(ih z (Be (by rw[hx];simp)) _ h6.left).full (by rw[h7.head.1];decide+kernel);have E:p.paren k= .ok (stE e) (k+(Ah Bi::Ah wIf::(Am x++Ah Pm::(Am y++Ah Qp::(Am z++ [Ah Bt])))).length):=by
  rw[Dq8 C.1,Ao3 D,if_pos (At.word h1),J];simp only[Aw8,Ao3 (At.word h3),L,Ao3 (At.word h5),M,Ao3 (At.word h7)];rw[hz,Fd e,h,hx,b,c,d,I];congr 1;simp only[jA,jC,jB];omega
 exact .of5 ⟨C.1,C.le⟩ (lv5 (by omega)) (fun c=>(Tj (by omega) c).elim) (fun _=>E) fun _=>by rw[Ah8 D,E]
theorem Gq4 (h:e.kind=11):RT l p e:=by
 obtain⟨⟨x,hx⟩,⟨o,ho,M⟩,b,c,d⟩:=Gf4 h hf;have ht:Am e=(Bd o).map Ah++Ay x (Lb e):=by rw[Dg3 h,ho,jD];unfold pE tE;rw[hx];rfl
 have I:Ba e=if o=18\/o=19 then 2 else 4:=by
  unfold Ba;rw[h,ho,if_neg (by decide),if_pos rfl];rcases M with rfl | rfl | rfl | rfl<;>rfl
 have J:=ih x (Be (by rw[hx];simp));intro k y;rw[ht] at y⊢
 have h1:=y.right;rw[jK] at h1;have hst: ∀li,li=0->Qq o li (stE x)=stE e:=fun li O=>by
  rw[Qq,if_neg (by omega),Fd e,h,ho,hx,b,c,d,O];rfl
 have e1:k+((Bd o).map Ah++Ay x (Lb e)).length=k+(Bd o).length+(Ay x (Lb e)).length:=by rw[jC,jK];omega
 by_cases L:o=18\/o=19
 ·have C:Ba e=2:=by rw[I,if_pos L]
  have D:Lb e=3:=by rw[Lb,if_pos C]
  rw[D] at y h1 e1⊢
  rw[e1];obtain⟨E,q2⟩:=Ct3 (want:=0) (.inr (.inl ⟨by simp [Gx];omega,rfl⟩)) y (.inl rfl);refine .of2 ⟨y.1,by have:=h1.le;exact this⟩ C fun hn=> ?_;rw[Bn9 y.1,E];show(p.term (k+(Bd o).length)).then _=_
  rw[Ez7 J h1 rfl (s53 hn),Ad3 h1.le hn];show p.addL (Qq o _ (stE x)) _=_;rw[hst _ (hz k)]
 ·have C:Ba e=4:=by rw[I,if_neg L]
  have D:Lb e=5:=by rw[Lb,if_neg (by omega)]
  rw[D] at y h1 e1⊢
  rw[e1];obtain⟨E,q2⟩:=Ct3 (want:=0) (.inr (.inr (.inr (.inr ⟨by simp [La];omega,rfl⟩)))) y (.inl rfl);refine .of4 ⟨y.1,by have:=h1.le;exact this⟩ C fun hn=> ?_;rw[Bo0 y.1,E];show(p.primary (k+(Bd o).length)).then _=_
  rw[Gn4 J h1 rfl hn];show Res.ok (Qq o _ (stE x)) _=_;rw[hst _ (hz k)]
end
end Go.Dl
