/- The data level and the contracts of the functions that are reached (part 7). -/
import Derived.Test.YtddbdpcgikmiaaaGreatDoorPgf
set_option linter.unusedSimpArgs false
set_option linter.unusedVariables false
set_option linter.unusedSectionVars false
-- S4
namespace Go.Dl
open Go
set_option maxRecDepth 10000
section
variable {l:List Tok}
theorem De {α β:Type} {a:Nat} {r:Res α} {f:α->Nat->Res β} (h:r≠ .bot) (ha:Adv l a r) (k: ∀x n,a<=n->n<=l.length->f x n≠ .bot):r.then f≠ .bot:=by
 cases r with
 | bot=>exact absurd rfl h
 | fail n=>intro e;cases e
 | ok x n=>exact k x n ha.1 ha.2
theorem Lg {α:Type} {x:α} {k:Nat}:(Res.ok x k)≠ .bot:=fun e=>by cases e
theorem Ci8 {α:Type} {k:Nat}:(Res.fail k:Res α)≠ .bot:=fun e=>by cases e
theorem Vn {α:Type} {s:List UInt8} {k:Nat} {f:Nat->Res α} (hk:k<=l.length) (h:k+1<=l.length->f (k+1)≠ .bot):must l s k f≠ .bot:=by
 unfold must;split
 ·rename_i hw
  exact h (Av hw hk)
 ·exact Ci8
theorem Bo6 {α:Type} {k:Nat} {f:List UInt8->Nat->Res α} (h:k+1<=l.length-> ∀s,f s (k+1)≠ .bot):Ka l k f≠ .bot:=by
 unfold Ka;split
 ·rename_i hw
  exact h (Oq (by rw[hw];decide)) _
 ·exact Ci8
structure PS.Tot (l:List Tok) (n:Nat) (p:PS):Prop where
 expr: ∀k,k<=l.length->8*(l.length-k)+6<=n->p.expr k≠ .bot
 rest: ∀x k,k<=l.length->8*(l.length-k)+2<=n->p.rest x k≠ .bot
 restL: ∀o x k,k<=l.length->8*(l.length-k)+1<=n->p.restL o x k≠ .bot
 relation: ∀x k,k<=l.length->8*(l.length-k)+1<=n->p.relation x k≠ .bot
 simple: ∀k,k<=l.length->8*(l.length-k)+5<=n->p.simple k≠ .bot
 addL: ∀x k,k<=l.length->8*(l.length-k)+1<=n->p.addL x k≠ .bot
 term: ∀k,k<=l.length->8*(l.length-k)+4<=n->p.term k≠ .bot
 mulL: ∀x k,k<=l.length->8*(l.length-k)+1<=n->p.mulL x k≠ .bot
 factor: ∀k,k<=l.length->8*(l.length-k)+3<=n->p.factor k≠ .bot
 primary: ∀k,k<=l.length->8*(l.length-k)+2<=n->p.primary k≠ .bot
 paren: ∀k,k<=l.length->8*(l.length-k)+1<=n->p.paren k≠ .bot
 assoc: ∀k,k<=l.length->8*(l.length-k)+7<=n->p.assoc k≠ .bot
 assocsL: ∀a k,k<=l.length->8*(l.length-k)+1<=n->p.assocsL a k≠ .bot
 choice: ∀k,k<=l.length->8*(l.length-k)+6<=n->p.choice k≠ .bot
 choicesL: ∀a k,k<=l.length->8*(l.length-k)+1<=n->p.choicesL a k≠ .bot
 arg: ∀k,k<=l.length->8*(l.length-k)+7<=n->p.arg k≠ .bot
 argsL: ∀a k,k<=l.length->8*(l.length-k)+1<=n->p.argsL a k≠ .bot
 name: ∀k,k<=l.length->8*(l.length-k)+1<=n->p.name k≠ .bot
 nameL: ∀i x k,k<=l.length->8*(l.length-k)+1<=n->p.nameL i x k≠ .bot
theorem Ei8 {p:PS} {n:Nat} (h:p.Tot l n) (ha:p.Adv l):(Be l p).Tot l (n+1) where
 expr k hk hn:=De (h.simple k hk (by omega)) (ha.simple k hk) fun x m h1 h2=>h.rest x m h2 (by omega)
 rest x k hk hn:=De (h.relation x k hk (by omega)) (ha.relation x k hk) fun x m h1 h2=>h.restL _ x m h2 (by omega)
 restL o x k hk hn:=by
  dsimp only[Be]
  split
  ·exact Lg
  ·obtain⟨D,q2,C,E⟩:=Cy (want:=o) Gx7.1 hk
   split
   ·exact Lg
   ·rename_i hq
    have:=q2 hq
    exact De (h.simple _ C (by omega)) (ha.simple _ C) fun y n h1 h2=>De (h.relation y n h2 (by omega)) (ha.relation y n h2) fun z m h3 h4=>h.restL _ _ m h4 (by omega)
 relation x k hk hn:=by
  dsimp only[Be]
  obtain⟨D,q2,C,E⟩:=Cy (want:=0) Gx7.2.1 hk
  have J: ∀kind j,k+1<=j->j<=l.length->inK l x kind j p≠ .bot:=fun kind j h1 h2=>by
   refine De (h.simple j h2 (by omega)) (ha.simple j h2) fun y m h3 h4=> ?_
   split
   ·rename_i hw
    have:=Av hw h4
    have:=this
    simp only[jA,jB] at this
    exact De (h.simple (m+1) (by omega) (by omega)) (ha.simple (m+1) (by omega)) fun z m _ _=>Lg
   ·split
    ·exact Lg
    ·exact Ci8
  split
  ·rename_i hq
   have:=q2 hq
   exact De (h.simple _ C (by omega)) (ha.simple _ C) fun y n h1 h2=>Lg
  ·split
   ·rename_i hw
    have:=Av hw hk
    simp only[jA,jB] at this
    exact J _ _ (by omega) (by omega)
   ·split
    ·rename_i hw
     have:=Av hw hk
     simp only[jA,jB] at this
     exact J _ _ (by omega) (by omega)
    ·exact Lg
 simple k hk hn:=by
  obtain⟨D,q2,C,E⟩:=Cy (want:=0) Gx7.2.2.1 hk
  exact De (h.term _ C (by omega)) (ha.term _ C) fun x n h1 h2=>h.addL _ n h2 (by omega)
 addL x k hk hn:=by
  dsimp only[Be]
  obtain⟨D,q2,C,E⟩:=Cy (want:=0) Gx7.2.2.2.1 hk
  split
  ·exact Lg
  ·rename_i hq
   have:=q2 hq
   exact De (h.term _ C (by omega)) (ha.term _ C) fun x n h1 h2=>h.addL _ n h2 (by omega)
 term k hk hn:=De (h.factor k hk (by omega)) (ha.factor k hk) fun x n h1 h2=>h.mulL _ n h2 (by omega)
 mulL x k hk hn:=by
  dsimp only[Be]
  obtain⟨D,q2,C,E⟩:=Cy (want:=0) Gx7.2.2.2.2.1 hk
  split
  ·exact Lg
  ·rename_i hq
   have:=q2 hq
   exact De (h.factor _ C (by omega)) (ha.factor _ C) fun x n h1 h2=>h.mulL _ n h2 (by omega)
 factor k hk hn:=by
  obtain⟨D,q2,C,E⟩:=Cy (want:=0) Gx7.2.2.2.2.2 hk
  exact De (h.primary _ C (by omega)) (ha.primary _ C) fun x n h1 h2=>Lg
 primary k hk hn:=by
  dsimp only[Be]
  split
  ·exact Lg
  ·split
   ·exact Lg
   ·split
    ·exact h.paren k hk (by omega)
    ·exact h.name k hk (by omega)
 paren k hk hn:=by
  dsimp only[Be]
  refine Vn hk fun I=> ?_
  split
  ·rename_i hw
   have:=Av hw I
   simp only[jA,jB] at this
   refine De (h.expr _ this (by omega)) (ha.expr _ this) fun a L h1 h2=>Vn h2 fun h3=>De (h.expr _ h3 (by omega)) (ha.expr _ h3) fun b M h4 h5=>Vn h5 fun h6=>De (h.expr _ h6 (by omega)) (ha.expr _ h6) fun c O h7 h8=>Vn h8 fun h9=>Lg
  ·exact De (h.assoc _ I (by omega)) (ha.assoc _ I) fun a L h1 h2=>De (h.assocsL _ _ h2 (by omega)) (ha.assocsL _ _ h2) fun az M h3 h4=>Vn h4 fun h5=>Lg
 assoc k hk hn:=by
  refine De (h.choice k hk (by omega)) (ha.choice k hk) fun c n h1 h2=> ?_
  split
  ·exact Lg
  ·split
   ·exact Vn h2 fun h3=>De (h.expr _ h3 (by omega)) (ha.expr _ h3) fun e m h4 h5=>Lg
   ·exact De (h.choicesL _ _ h2 (by omega)) (ha.choicesL _ _ h2) fun cs m h3 h4=>Vn h4 fun h5=>De (h.expr _ h5 (by omega)) (ha.expr _ h5) fun e m h6 h7=>Lg
 assocsL az k hk hn:=by
  dsimp only[Be]
  split
  ·rename_i hw
   have:=Av hw hk
   simp only[jA,jB] at this
   exact De (h.assoc _ this (by omega)) (ha.assoc _ this) fun a n h1 h2=>h.assocsL _ n h2 (by omega)
  ·exact Lg
 choice k hk hn:=by
  dsimp only[Be]
  split
  ·exact Lg
  ·refine De (h.simple k hk (by omega)) (ha.simple k hk) fun x n h1 h2=> ?_
   split
   ·rename_i hw
    have:=Av hw h2
    simp only[jA,jB] at this
    exact De (h.simple _ this (by omega)) (ha.simple _ this) fun y m h3 h4=>Lg
   ·exact De (h.rest x n h2 (by omega)) (ha.rest x n h2) fun y m h3 h4=>Lg
 choicesL az k hk hn:=by
  dsimp only[Be]
  split
  ·rename_i hw
   have:=Av hw hk
   simp only[jA,jB] at this
   exact De (h.choice _ this (by omega)) (ha.choice _ this) fun a n h1 h2=>h.choicesL _ n h2 (by omega)
  ·exact Lg
 arg k hk hn:=by
  dsimp only[Be]
  split
  ·rename_i hw
   have h1:=Oq (l:=l) (k:=k) (by rw[hw.1];decide)
   have:=Av hw.2 h1
   simp only[jA,jB] at this
   exact De (h.expr _ this (by omega)) (ha.expr _ this) fun y m h3 h4=>Lg
  ·exact De (h.expr k hk (by omega)) (ha.expr k hk) fun y m h3 h4=>Lg
 argsL az k hk hn:=by
  dsimp only[Be]
  split
  ·rename_i hw
   have:=Av hw hk
   simp only[jA,jB] at this
   exact De (h.arg _ this (by omega)) (ha.arg _ this) fun a n h1 h2=>h.argsL _ n h2 (by omega)
  ·exact Lg
 name k hk hn:=Bo6 fun h1 s=>h.nameL _ _ _ h1 (by omega)
 nameL i x k hk hn:=by
  dsimp only[Be]
  split
  ·rename_i hw
   have:=Av hw hk
   simp only[jA,jB] at this
   exact h.nameL _ _ _ (by omega) (by omega)
  ·split
   ·rename_i hw
    have:=Av hw hk
    simp only[jA,jB] at this
    exact Bo6 fun h1 s=>h.nameL _ _ _ h1 (by omega)
   ·split
    ·rename_i hw
     have:=Av hw hk
     simp only[jA,jB] at this
     exact De (h.arg _ this (by omega)) (ha.arg _ this) fun a n h1 h2=>De (h.argsL _ _ h2 (by omega)) (ha.argsL _ _ h2) fun az m h3 h4=>Vn h4 fun h5=>h.nameL _ _ _ h5 (by omega)
    ·split
     ·rename_i hw
      have:=Av hw hk
      simp only[jA,jB] at this
      exact De (h.paren _ (by omega) (by omega)) (ha.paren _ (by omega)) fun a n h1 h2=>h.nameL _ _ _ h2 (by omega)
     ·split
      ·rename_i hw
       have:=Av hw hk
       simp only[jA,jB] at this
       exact Bo6 fun h1 s=>h.nameL _ _ _ h1 (by omega)
      ·exact Lg
theorem Gd3: ∀n,(P l n).Tot l n
 | 0=>by constructor<;>intros<;>omega
 | n+1=>Ei8 (Gd3 n) (Kl n)
def Dx (l:List Tok):Nat:=8*l.length+20
def Q (l:List Tok):PS:=P l (Dx l)
theorem Po {α:Type} {r C:Res α} (h:r.Le C) (D:r≠ .bot):C=r:=by
 rcases h with h | h
 ·exact absurd h D
 ·exact h.symm
structure PS.Fix (l:List Tok) (p:PS):Prop where
 expr: ∀k,k<=l.length->p.expr k=(Be l p).expr k
 rest: ∀x k,k<=l.length->p.rest x k=(Be l p).rest x k
 restL: ∀o x k,k<=l.length->p.restL o x k=(Be l p).restL o x k
 relation: ∀x k,k<=l.length->p.relation x k=(Be l p).relation x k
 simple: ∀k,k<=l.length->p.simple k=(Be l p).simple k
 addL: ∀x k,k<=l.length->p.addL x k=(Be l p).addL x k
 term: ∀k,k<=l.length->p.term k=(Be l p).term k
 mulL: ∀x k,k<=l.length->p.mulL x k=(Be l p).mulL x k
 factor: ∀k,k<=l.length->p.factor k=(Be l p).factor k
 primary: ∀k,k<=l.length->p.primary k=(Be l p).primary k
 paren: ∀k,k<=l.length->p.paren k=(Be l p).paren k
 assoc: ∀k,k<=l.length->p.assoc k=(Be l p).assoc k
 assocsL: ∀a k,k<=l.length->p.assocsL a k=(Be l p).assocsL a k
 choice: ∀k,k<=l.length->p.choice k=(Be l p).choice k
 choicesL: ∀a k,k<=l.length->p.choicesL a k=(Be l p).choicesL a k
 arg: ∀k,k<=l.length->p.arg k=(Be l p).arg k
 argsL: ∀a k,k<=l.length->p.argsL a k=(Be l p).argsL a k
 name: ∀k,k<=l.length->p.name k=(Be l p).name k
 nameL: ∀i x k,k<=l.length->p.nameL i x k=(Be l p).nameL i x k
theorem Fb8:(Q l).Tot l (Dx l):=Gd3 _
theorem Fb9:(Q l).Adv l:=Kl _
theorem Gt7:(Q l).Fix l:=by
 have h:(Q l).Le (Be l (Q l)):=Ca4 _;have t:=Fb8 (l:=l);have f: ∀k,8*(l.length-k)+7<=Dx l:=fun k=>by unfold Dx;omega
 have C: ∀ {k a:Nat},a<=7->8*(l.length-k)+a<=Dx l:=fun {k a} ha=>by have:=f k;omega
 exact⟨fun k hk=>(Po (h.expr k) (t.expr k hk (C (by omega)))).symm,
  fun x k hk=>(Po (h.rest x k) (t.rest x k hk (C (by omega)))).symm,
  fun o x k hk=>(Po (h.restL o x k) (t.restL o x k hk (C (by omega)))).symm,
  fun x k hk=>(Po (h.relation x k) (t.relation x k hk (C (by omega)))).symm,
  fun k hk=>(Po (h.simple k) (t.simple k hk (C (by omega)))).symm,
  fun x k hk=>(Po (h.addL x k) (t.addL x k hk (C (by omega)))).symm,
  fun k hk=>(Po (h.term k) (t.term k hk (C (by omega)))).symm,
  fun x k hk=>(Po (h.mulL x k) (t.mulL x k hk (C (by omega)))).symm,
  fun k hk=>(Po (h.factor k) (t.factor k hk (C (by omega)))).symm,
  fun k hk=>(Po (h.primary k) (t.primary k hk (C (by omega)))).symm,
  fun k hk=>(Po (h.paren k) (t.paren k hk (C (by omega)))).symm,
  fun k hk=>(Po (h.assoc k) (t.assoc k hk (C (by omega)))).symm,
  fun x k hk=>(Po (h.assocsL x k) (t.assocsL x k hk (C (by omega)))).symm,
  fun k hk=>(Po (h.choice k) (t.choice k hk (C (by omega)))).symm,
  fun x k hk=>(Po (h.choicesL x k) (t.choicesL x k hk (C (by omega)))).symm,
  fun k hk=>(Po (h.arg k) (t.arg k hk (C (by omega)))).symm,
  fun x k hk=>(Po (h.argsL x k) (t.argsL x k hk (C (by omega)))).symm,
  fun k hk=>(Po (h.name k) (t.name k hk (C (by omega)))).symm,
  fun i x k hk=>(Po (h.nameL i x k) (t.nameL i x k hk (C (by omega)))).symm⟩
end
def Ah (s:List UInt8):Tok:=⟨Ip s,0,s,0⟩
def Dw (s:List UInt8):Tok:=⟨1,0,s,0⟩
def Cw2 (n:Int):Tok:=⟨3,0,[],n⟩
def Wb (b:Bool) (t:List Tok):List Tok:=if b then Ah Bf::(t++ [Ah Bv]) else t
def Dm (s:List UInt8):List (List Tok)->List Tok
 | []=> []
 | [x]=>x
 | x::r=>x++Ah s::Dm s r
def Jx (e:Ex):Int:=if Aq e=2 then 3 else 5
def Ei (e:Ex):Int:=if Aq e=1 then 2 else if Aq e=0/\((e.l.getD 0 ex0).kind≠12\/(e.l.getD 0 ex0).oper≠e.oper) then 1 else Aq e
def Fe (e:Ex):Int:=if Aq e=1 then 2 else Aq e+1
def Nd (k:Int):Bool:=decide (k=9) || decide (k=10)
def Ov (e:Ex) (tl ta:List (List Tok)):List Tok:=
 let p:=fun(i:Nat) (lv:Int)=>Wb (decide (Aq (e.l.getD i ex0)<lv)) (tl.getD i [])
 if e.kind=1 then [Cw2 e.n] else if e.kind=2 then [Ah Fm] else if e.kind=3 then [Dw e.s]
 else if e.kind=4 then tl.getD 0 []++ [Ah Jj,Dw e.s]
 else if e.kind=5 then tl.getD 0 []++ [Ah Jj,Ah Zo]
 else if e.kind=6 then tl.getD 0 []++ [Ah Hz,Dw e.s]
 else if e.kind=7 then tl.getD 0 []++Ah Bf::(Dm Ee ta++ [Ah Bv])
 else if e.kind=8 then tl.getD 0 []++Ah Hz::Wb (!Nd (e.l.getD 1 ex0).kind) (tl.getD 1 [])
 else if e.kind=9 then Ah Bf::(Dm Ee ta++ [Ah Bv])
 else if e.kind=10 then Ah Bf::Ah wIf::(tl.getD 0 []++Ah Pk::(tl.getD 1 []++Ah Qc::(tl.getD 2 []++ [Ah Bv])))
 else if e.kind=11 then(Ay e.oper.toNat).map Ah++p 0 (Jx e)
 else if e.kind=12 then p 0 (Ei e)++((Ay e.oper.toNat).map Ah++p 1 (Fe e))
 else if e.kind=13 then p 0 2++Ah wIn::(if e.l.length=3 then p 1 2++Ah Ef::p 2 2 else tl.getD 1 [])
 else p 0 2++Ah Vz::Ah wIn::(if e.l.length=3 then p 1 2++Ah Ef::p 2 2 else tl.getD 1 [])
def Cw3 (k:Int) (l:List Ex) (tl:List (List Tok)):List Tok:=
 let p:=fun(i:Nat) (lv:Int)=>Wb (decide (Aq (l.getD i ex0)<lv)) (tl.getD i [])
 if k=1 then tl.getD 0 [] else if k=2 then p 0 2++Ah Ef::p 1 2 else [Ah Lt]
def Du6 (tc:List (List Tok)) (te:List Tok):List Tok:=if tc.isEmpty then te else Dm Gg tc++Ah By::te
mutual
def Ai:Ex->List Tok
 | .mk k o n s l a li en t=>Ov (.mk k o n s l a li en t) (Yf l) (Ab9 a)
def Yf:List Ex->List (List Tok)
 | []=> []
 | x::l=>Ai x::Yf l
def Es:As->List Tok
 | .mk c e=>Du6 (Ac0 c) (Ai e)
def Ab9:List As->List (List Tok)
 | []=> []
 | x::l=>Es x::Ab9 l
def Cs:Ch->List Tok
 | .mk k l=>Cw3 k l (Yf l)
def Ac0:List Ch->List (List Tok)
 | []=> []
 | x::l=>Cs x::Ac0 l
end
theorem Ak8: ∀l:List Ex,Yf l=l.map Ai
 | []=>rfl
 | x::l=>by rw[Yf,Ak8 l,jN]
theorem Bo7: ∀l:List As,Ab9 l=l.map Es
 | []=>rfl
 | x::l=>by rw[Ab9,Bo7 l,jN]
theorem Bo8: ∀l:List Ch,Ac0 l=l.map Cs
 | []=>rfl
 | x::l=>by rw[Ac0,Bo8 l,jN]
theorem Gl (e:Ex):Ai e=Ov e (e.l.map Ai) (e.a.map Es):=by
 cases e;rw[Ai,Ak8,Bo7];rfl
theorem Jl (x:As):Es x=if x.c.isEmpty then Ai x.e else Dm Gg (x.c.map Cs)++Ah By::Ai x.e:=by
 cases x with
 | mk c e=>rw[Es,Bo8,Du6];cases c<;>rfl
def Ar (e:Ex) (lv:Int):List Tok:=Wb (decide (Aq e<lv)) (Ai e)
theorem Fc0 {α β:Type} (f:α->β) (l:List α) (i:Nat) (d:α) (e:β) (h:i<l.length):(l.map f).getD i e=f (l.getD i d):=by
 simp [List.getD,List.getElem?_map,List.getElem?_eq_getElem h]
theorem Jm (c:Ch):Cs c=if c.kind=1 then(c.l.map Ai).getD 0 [] else if c.kind=2 then Wb (decide (Aq (c.l.getD 0 ex0)<2)) ((c.l.map Ai).getD 0 [])++Ah Ef::Wb (decide (Aq (c.l.getD 1 ex0)<2)) ((c.l.map Ai).getD 1 []) else [Ah Lt]:=by
 cases c;rw[Cs,Ak8];rfl
def tE (e:Ex) (i:Nat):List Tok:=(e.l.map Ai).getD i []
def pE (e:Ex) (i:Nat) (lv:Int):List Tok:=Wb (decide (Aq (e.l.getD i ex0)<lv)) (tE e i)
def Jn (e:Ex):List Tok:=if e.l.length=3 then pE e 1 2++Ah Ef::pE e 2 2 else tE e 1
def taE (e:Ex):List Tok:=Dm Ee (e.a.map Es)
section
variable {e:Ex}
theorem Fc1 (h:e.kind=1):Ai e= [Cw2 e.n]:=by rw[Gl];unfold Ov;rw[h];rfl
theorem Fc2 (h:e.kind=2):Ai e= [Ah Fm]:=by rw[Gl];unfold Ov;rw[h];rfl
theorem Bo9 (h:e.kind=3):Ai e= [Dw e.s]:=by rw[Gl];unfold Ov;rw[h];rfl
theorem Cb4 (h:e.kind=4):Ai e=tE e 0++ [Ah Jj,Dw e.s]:=by rw[Gl];unfold Ov;rw[h];rfl
theorem Du7 (h:e.kind=5):Ai e=tE e 0++ [Ah Jj,Ah Zo]:=by rw[Gl];unfold Ov;rw[h];rfl
theorem Du8 (h:e.kind=6):Ai e=tE e 0++ [Ah Hz,Dw e.s]:=by rw[Gl];unfold Ov;rw[h];rfl
theorem Du9 (h:e.kind=7):Ai e=tE e 0++Ah Bf::(taE e++ [Ah Bv]):=by rw[Gl];unfold Ov;rw[h];rfl
theorem Dv0 (h:e.kind=8):Ai e=tE e 0++Ah Hz::Wb (!Nd (e.l.getD 1 ex0).kind) (tE e 1):=by rw[Gl];unfold Ov;rw[h];rfl
theorem Cw4 (h:e.kind=9):Ai e=Ah Bf::(taE e++ [Ah Bv]):=by rw[Gl];unfold Ov;rw[h];rfl
theorem Bp0 (h:e.kind=10):Ai e=Ah Bf::Ah wIf::(tE e 0++Ah Pk::(tE e 1++Ah Qc::(tE e 2++ [Ah Bv]))):=by rw[Gl];unfold Ov;rw[h];rfl
theorem Dl0 (h:e.kind=11):Ai e=(Ay e.oper.toNat).map Ah++pE e 0 (Jx e):=by rw[Gl];unfold Ov;rw[h];rfl
theorem Dl1 (h:e.kind=12):Ai e=pE e 0 (Ei e)++((Ay e.oper.toNat).map Ah++pE e 1 (Fe e)):=by rw[Gl];unfold Ov;rw[h];rfl
theorem Ci9 (h:e.kind=13):Ai e=pE e 0 2++Ah wIn::Jn e:=by rw[Gl];unfold Ov;rw[h];rfl
theorem Cj0 (h:e.kind=14):Ai e=pE e 0 2++Ah Vz::Ah wIn::Jn e:=by rw[Gl];unfold Ov;rw[h];rfl
theorem Gt8 {i:Nat} (h:i<e.l.length):tE e i=Ai (e.l.getD i ex0):=Fc0 Ai e.l i ex0 [] h
theorem Gd4 {i:Nat} (h:i<e.l.length) (C:Int):pE e i C=Ar (e.l.getD i ex0) C:=by rw[pE,Gt8 h];rfl
end
theorem Ei9 {s:List UInt8}:Ip s≠1/\Ip s≠3/\Ip s≠0:=by
 unfold Ip;split<;>decide
theorem Tf (s:List UInt8) (x:List Tok) (r:List (List Tok)) (h:r≠ []):Dm s (x::r)=x++Ah s::Dm s r:=by
 cases r with
 | nil=>exact absurd rfl h
 | cons y r=>rfl
theorem Af2 (s:List UInt8): ∀(l:List (List Tok)) (x:List Tok),l≠ []->Dm s (l++ [x])=Dm s l++Ah s::x
 | [],_,h=>absurd rfl h
 | [y],x,_=>rfl
 | y::z::r,x,_=>by
  rw[jI,Tf s y _ (by simp),Af2 s (z::r) x (by simp),Tf s y (z::r) (by simp)];simp
section
variable {l:List Tok}
theorem Bp1 {k:Nat} {s:List UInt8}:isW l k [s]=(decide ((tk l k).kind=Ip s)&&decide ((tk l k).text=s)):=by rw[isW,isW,Bool.and_true]
theorem Fc3 {k:Nat} {s t:List UInt8}:isW l k [s,t]=(isW l k [s]&&isW l (k+1) [t]):=by rw[isW,Bp1 (s:=s),Bp1 (s:=t)]
theorem Gk {k:Nat} {s t:List UInt8} (h:isW l k [s]=true) (hs:s≠t):isW l k [t]=false:=by
 rw[Bp1,jF,decide_eq_true_eq,decide_eq_true_eq] at h;rw[Bp1,h.2,decide_eq_false hs,Bool.and_false]
end
section
variable {l:List Tok} {n:Nat}
theorem Fc4 {k:Nat} {ws:List (List UInt8)} {s:List UInt8} (h:isW l k ws=true) (hs:ws.head? =some s):isW l k [s]=true:=by
 cases ws with
 | nil=>cases hs
 | cons a r=>
  cases hs;rw[isW,jF] at h;rw[Bp1];exact h.1
theorem Bp2 {want k:Nat} {l:List Tok}: ∀ {os:List Nat},(∀o∈os,isW l k (Ay o)=false)->opF l want k os=(0,k)
 | [],_=>rfl
 | o::r,h=>by rw[opF,h o (by simp),if_neg (by simp)];exact Bp2 fun x hx=>h x (by simp [hx])
end
section
variable {l:List Tok}
def Ft (e:Ex) (lv:Int):Nat:=(Ar e lv).length
theorem Ub (b:Bool) (t:List Tok):(Wb b t).length=t.length+if b then 2 else 0:=by
 cases b<;>simp [Wb]
theorem Af3 (e:Ex) (C:Int):Ft e C=(Ai e).length+if Aq e<C then 2 else 0:=by
 rw[Ft,Ar,Ub];simp
theorem Qv (e:Ex) {a b:Int} (h:a<=b):Ft e a<=Ft e b:=by
 rw[Af3,Af3];split<;>split<;>omega
theorem Pp (e:Ex):0<=Aq e/\Aq e<=5:=by
 unfold Aq;repeat' split
 all_goals omega
theorem Ac1 (e:Ex):Ft e 0=(Ai e).length:=by
 have:=(Pp e).1;rw[Af3,if_neg (by omega)];rfl
def Gh {α:Type} (R:α->Nat->Prop) (r:Res α):Prop:= ∀x k',r= .ok x k'->R x k'
theorem Ap {α β:Type} {r:Res α} {f:α->Nat->Res β} {R:α->Nat->Prop} {S:β->Nat->Prop} (h:Gh R r) (hf: ∀x k1,R x k1->Gh S (f x k1)):Gh S (r.then f):=fun y k' e=>by
 cases r with
 | bot=>cases e
 | fail n=>cases e
 | ok x n=>exact hf x n (h x n rfl) y k' e
theorem Bz {α:Type} {R:α->Nat->Prop} {k:Nat} {x:α} (h:R x k):Gh R (.ok x k):=fun y k' e=>by cases e;exact h
theorem Af4 {α:Type} {R:α->Nat->Prop} {k:Nat}:Gh R (.fail k):=fun y k' e=>by cases e
theorem Gf {α:Type} {R:α->Nat->Prop} {k:Nat} {s:List UInt8} {f:Nat->Res α} (h:isW l k [s]=true->Gh R (f (k+1))):Gh R (must l s k f):=by
 unfold must;split
 ·exact h ‹_›
 ·exact Af4
theorem Tg {α:Type} {R:α->Nat->Prop} {k:Nat} {f:List UInt8->Nat->Res α} (h:(tk l k).kind=1->Gh R (f (tk l k).text (k+1))):Gh R (Ka l k f):=by
 unfold Ka;split
 ·exact h ‹_›
 ·exact Af4
theorem Bi {α:Type} {R S:α->Nat->Prop} {r:Res α} (h:Gh R r) (g:Gh S r):Gh (fun x k=>R x k/\S x k) r:=fun x k e=>⟨h x k e,g x k e⟩
theorem Bj {α:Type} {a:Nat} {r:Res α} (h:Adv l a r):Gh (fun _ k'=>a<=k'/\k'<=l.length) r:=fun x k' e=>by rw[e] at h;exact h
def lcE (o:Nat) (x:Ex):Nat:=Ft x (if x.kind=12/\x.oper=o then 0 else 1)
def Ai1 (y:Ex):Nat:=(Ai y).length+if Nd y.kind then 0 else 2
def Fc5 (ta:List (List Tok)):Nat:=(ta.map fun t=>t.length+1).sum-1
theorem Ac2 (s:List UInt8): ∀l:List (List Tok),(Dm s l).length=Fc5 l
 | []=>rfl
 | [x]=>by simp [Dm,Fc5]
 | x::y::r=>by
  have ih:=Ac2 s (y::r);rw[Tf s x _ (by simp),jC,jA,ih];simp only[Fc5,jN,List.sum_cons];omega
def Yg (ta:List (List Tok)):Nat:=(ta.map fun t=>t.length+1).sum
theorem Af5 (C:List (List Tok)) (t:List Tok):Yg (C++ [t])=Yg C+t.length+1:=by simp [Yg];omega
def Vo (a:List As):Nat:=Yg (a.map Es)
def Ar0 (a:List Ch):Nat:=Yg (a.map Cs)
theorem Rs {e:Ex} (h:Bu e=true):Aq e=5:=by
 unfold Bu at h;rw[jF,decide_eq_true_eq,decide_eq_true_eq] at h;unfold Aq;rw[if_neg (by omega),if_neg (by omega),if_neg (by omega)]
theorem Bp3 {e:Ex} (h:Bu e=true) {C:Int} (hl:C<=5):Ft e C=(Ai e).length:=by
 rw[Af3,Rs h,if_neg (by omega)];rfl
theorem Ej0 {e:Ex} {C:Int} (hl:C<=5):Ft e C<=Ai1 e:=by
 rw[Af3,Ai1];cases h:Nd e.kind with
 | true=>
  have:Aq e=5:=by
   unfold Nd at h;rw[Bool.or_eq_true,decide_eq_true_eq,decide_eq_true_eq] at h;unfold Aq;rw[if_neg (by omega),if_neg (by omega),if_neg (by omega)]
  rw[this,if_neg (by omega)];simp
 | false=>split<;>simp
theorem Ri {want k:Nat}: ∀ {os:List Nat},(opF l want k os).1≠0->(opF l want k os).1∈os/\(opF l want k os).2=k+(Ay (opF l want k os).1).length/\isW l k (Ay (opF l want k os).1)=true
 | [],h=>absurd rfl h
 | o::r,h=>by
  rw[opF] at h⊢
  split
  ·rename_i hw
   rw[if_pos hw] at h;split
   ·rename_i hc
    rw[if_pos hc] at h;exact absurd rfl h
   ·exact⟨List.mem_cons_self,rfl,hw⟩
  ·rename_i hw
   rw[if_neg hw] at h;have:=Ri h;exact⟨List.mem_cons_of_mem _ this.1,this.2⟩
theorem Yh (o:Nat) (x y:Ex):Aq (both o x y)=if 13<=o/\o<=17 then 0 else if 7<=o/\o<=12 then 1 else if o=1\/o=2 then 2 else if 3<=o/\o<=6 then 3 else 5:=by
 unfold Aq;rw[show(both o x y).kind=12 from rfl,show(both o x y).oper=(o:Int) from rfl,if_neg (by decide),if_neg (by decide),if_pos rfl]
 repeat' split
 all_goals omega
theorem Ej1 (o:Nat) (x y:Ex):Ai (both o x y)=Ar x (Ei (both o x y))++((Ay o).map Ah++Ar y (Fe (both o x y))):=by
 rw[Gl];rfl
theorem Af6 (o:Nat) (x y:Ex):(Ai (both o x y)).length=Ft x (Ei (both o x y))+(Ay o).length+Ft y (Fe (both o x y)):=by
 rw[Ej1,jC,jC,jK,Ft,Ft,Nat.add_assoc]
theorem Cb5 (o:Nat) (x:Ex) (li:Int):Ai (.mk 11 o 0 [] [x] [] li 0 0)=(Ay o).map Ah++Ar x (Jx (.mk 11 o 0 [] [x] [] li 0 0)):=by
 rw[Gl];rfl
theorem Bp4 (o:Nat) (x:Ex) (li:Int):Aq (.mk 11 o 0 [] [x] [] li 0 0)=if o=18\/o=19 then 2 else if o=20\/o=21 then 4 else 5:=by
 unfold Aq;rw[show(Ex.mk 11 o 0 [] [x] [] li 0 0).kind=11 from rfl,show(Ex.mk 11 o 0 [] [x] [] li 0 0).oper=(o:Int) from rfl,if_neg (by decide),if_pos rfl]
 repeat' split
 all_goals omega
theorem Fv9 {o:Nat} (h1:13<=o) (h2:o<=17) (x y:Ex):(Ai (both o x y)).length=lcE o x+(Ay o).length+Ft y 1/\Aq (both o x y)=0:=by
 have hl:Aq (both o x y)=0:=by rw[Yh,if_pos ⟨h1,h2⟩]
 refine⟨?_,hl⟩;have D:Fe (both o x y)=1:=by rw[Fe,hl];rfl
 have E:Ei (both o x y)=if(0:Int)=0/\(x.kind≠12\/x.oper≠(o:Int)) then 1 else 0:=by
  rw[Ei,hl,if_neg (by decide)];rfl
 rw[Af6,E,D,lcE];by_cases c:x.kind=12/\x.oper=o
 ·rw[if_pos c,if_neg (by rintro⟨_,h | h⟩;exact h c.1;exact h c.2)]
 ·rw[if_neg c,if_pos ⟨rfl,by by_cases C:x.kind=12;exact .inr fun h=>c ⟨C,h⟩;exact .inl C⟩]
theorem Fw0 {o:Nat} (h1:7<=o) (h2:o<=12) (x y:Ex):(Ai (both o x y)).length=Ft x 2+(Ay o).length+Ft y 2/\Aq (both o x y)=1:=by
 have hl:Aq (both o x y)=1:=by rw[Yh,if_neg (by omega),if_pos ⟨h1,h2⟩]
 refine⟨?_,hl⟩;rw[Af6,Ei,Fe,hl];rfl
theorem Fw1 {o:Nat} (h1:o=1\/o=2) (x y:Ex):(Ai (both o x y)).length=Ft x 2+(Ay o).length+Ft y 3/\Aq (both o x y)=2:=by
 have hl:Aq (both o x y)=2:=by rw[Yh,if_neg (by omega),if_neg (by omega),if_pos h1]
 refine⟨?_,hl⟩;rw[Af6,Ei,Fe,hl,if_neg (by decide),if_neg (by rintro⟨h,_⟩;cases h)];rfl
theorem Fw2 {o:Nat} (h1:3<=o) (h2:o<=6) (x y:Ex):(Ai (both o x y)).length=Ft x 3+(Ay o).length+Ft y 4/\Aq (both o x y)=3:=by
 have hl:Aq (both o x y)=3:=by rw[Yh,if_neg (by omega),if_neg (by omega),if_neg (by omega),if_pos ⟨h1,h2⟩]
 refine⟨?_,hl⟩;rw[Af6,Ei,Fe,hl,if_neg (by decide),if_neg (by rintro⟨h,_⟩;cases h)];rfl
theorem Sq {e:Ex} {C:Int} (h:C<=Aq e):Ft e C=(Ai e).length:=by rw[Af3,if_neg (by omega)];rfl
theorem Fw3 {o:Nat} (h:o∈Em):13<=o/\o<=17:=by simp [Em] at h;omega
theorem Dv1 {o:Nat} (h:o∈Mf):7<=o/\o<=12:=by simp [Mf] at h;omega
theorem Cw5 {o:Nat} (h:o∈Fq):o=18\/o=19:=by simp [Fq] at h;omega
theorem Fw4 {o:Nat} (h:o∈Tz):o=1\/o=2:=by simp [Tz] at h;omega
theorem Dv2 {o:Nat} (h:o∈Ua):3<=o/\o<=6:=by simp [Ua] at h;omega
theorem Dv3 {o:Nat} (h:o∈It):o=20\/o=21:=by simp [It] at h;omega
theorem Ej2 {k:Nat} {x:Ex} {li:Int} {m:Nat} (h:Ft x 3+(opF l 0 k Fq).2<=m) (hk:k<=l.length):Ft (Nw (opF l 0 k Fq).1 li x) 2+k<=m:=by
 by_cases c:(opF l 0 k Fq).1=0
 ·have h1:=Qv x (show(2:Int)<=3 by decide);have h2:=(Cy (want:=0) Gx7.2.2.1 hk).1 c;rw[c,show Nw 0 li x=x from rfl];omega
 ·obtain⟨h1,h2,_⟩:=Ri c;have h3:=Cw5 h1;generalize hq:(opF l 0 k Fq).1=o at*
  rw[Nw,if_neg c];have hl:Aq (.mk 11 o 0 [] [x] [] li 0 0)=2:=by rw[Bp4,if_pos h3]
  rw[Sq (by rw[hl];decide),Cb5,jC,jK,Jx,hl,if_pos rfl];unfold Ft at h;omega
theorem Fc6 {k:Nat} {x:Ex} {li:Int} {m:Nat} (h:Ft x 5+(opF l 0 k It).2<=m) (hk:k<=l.length):Ft (Nw (opF l 0 k It).1 li x) 4+k<=m:=by
 by_cases c:(opF l 0 k It).1=0
 ·have h1:=Qv x (show(4:Int)<=5 by decide);have h2:=(Cy (want:=0) Gx7.2.2.2.2.2 hk).1 c;rw[c,show Nw 0 li x=x from rfl];omega
 ·obtain⟨h1,h2,_⟩:=Ri c;have h3:=Dv3 h1;generalize hq:(opF l 0 k It).1=o at*
  rw[Nw,if_neg c];have hl:Aq (.mk 11 o 0 [] [x] [] li 0 0)=4:=by rw[Bp4,if_neg (by omega),if_pos h3]
  rw[Sq (by rw[hl];decide),Cb5,jC,jK,Jx,hl,if_neg (by decide)];unfold Ft at h;omega
structure PS.Len (l:List Tok) (p:PS):Prop where
 expr: ∀k,k<=l.length->Gh (fun x k'=>Ft x 0+k<=k') (p.expr k)
 rest: ∀x k,k<=l.length->Gh (fun y k'=>Ft y 0+k<=Ft x 2+k') (p.rest x k)
 restL: ∀o x k,k<=l.length->Gh (fun y k'=>(o=0->Ft y 0+k<=Ft x 0+k')/\(13<=o/\o<=17->Ft y 0+k<=lcE o x+k')) (p.restL o x k)
 relation: ∀x k,k<=l.length->Gh (fun y k'=>Ft y 1+k<=Ft x 2+k') (p.relation x k)
 simple: ∀k,k<=l.length->Gh (fun x k'=>Ft x 2+k<=k') (p.simple k)
 addL: ∀x k,k<=l.length->Gh (fun y k'=>Ft y 2+k<=Ft x 2+k') (p.addL x k)
 term: ∀k,k<=l.length->Gh (fun x k'=>Ft x 3+k<=k') (p.term k)
 mulL: ∀x k,k<=l.length->Gh (fun y k'=>Ft y 3+k<=Ft x 3+k') (p.mulL x k)
 factor: ∀k,k<=l.length->Gh (fun x k'=>Ft x 4+k<=k') (p.factor k)
 primary: ∀k,k<=l.length->Gh (fun x k'=>Ft x 5+k<=k') (p.primary k)
 paren: ∀k,k<=l.length->Gh (fun x k'=>Ai1 x+k<=k') (p.paren k)
 assoc: ∀k,k<=l.length->Gh (fun x k'=>(Es x).length+k<=k') (p.assoc k)
 assocsL: ∀a k,k<=l.length->Gh (fun b k'=>Vo b+k<=Vo a+k') (p.assocsL a k)
 choice: ∀k,k<=l.length->Gh (fun x k'=>(Cs x).length+k<=k'/\(x.kind=1-> ∃y,x.l= [y])) (p.choice k)
 choicesL: ∀a k,k<=l.length->Gh (fun b k'=>Ar0 b+k<=Ar0 a+k'/\(a≠ []->b≠ [])) (p.choicesL a k)
 arg: ∀k,k<=l.length->Gh (fun x k'=>(Es x).length+k<=k') (p.arg k)
 argsL: ∀a k,k<=l.length->Gh (fun b k'=>Vo b+k<=Vo a+k') (p.argsL a k)
 name: ∀k,k<=l.length->Gh (fun x k'=>(Ai x).length+k<=k'/\Bu x=true) (p.name k)
 nameL: ∀i x k,k<=l.length->Bu x=true->Gh (fun y k'=>(Ai y).length+k<=(Ai x).length+k'/\Bu y=true) (p.nameL i x k)
theorem Bp5 (s:List UInt8) (C:List (List Tok)) (h:C≠ []):(Dm s C).length+1=Yg C:=by
 rw[Ac2,Fc5,Yg];cases C with
 | nil=>exact absurd rfl h
 | cons t r=>simp only[jN,List.sum_cons];omega
theorem Gl7 (o:Nat) (x:Ex):lcE o x<=Ft x 1:=by
 unfold lcE;split
 ·exact Qv x (by decide)
 ·exact Nat.le_refl _
theorem Ej3 (o:Nat) (x y:Ex):(both o x y).kind=12/\(both o x y).oper=(o:Int):=⟨rfl,rfl⟩
theorem Fc7 (o:Nat) (x y:Ex):lcE o (both o x y)=Ft (both o x y) 0:=by rw[lcE,if_pos (Ej3 o x y)]
theorem Cw6 {want k:Nat}: ∀ {os:List Nat},want≠0->(opF l want k os).1≠0->(opF l want k os).1=want
 | [],_,h=>absurd rfl h
 | o::r,hw,h=>by
  rw[opF] at h⊢
  split
  ·rename_i c
   rw[if_pos c] at h;split
   ·rename_i C
    rw[if_pos C] at h;exact absurd rfl h
   ·rename_i C
    by_cases D:o=want
    ·exact D
    ·exact absurd ⟨hw,D⟩ C
  ·rename_i c
   rw[if_neg c] at h;exact Cw6 hw h
theorem Cw7 (a:List Ch) (h:a≠ []) (s:List UInt8):(Dm s (a.map Cs)).length+1=Ar0 a:=Bp5 s _ (by simpa using h)
theorem Az2 (a:As):Vo [a]=(Es a).length+1:=by simp [Vo,Yg]
theorem Cb6 (a:Ch):Ar0 [a]=(Cs a).length+1:=by simp [Ar0,Yg]
theorem Ej4 {p:PS} (h:p.Len l) (C:p.Adv l):(Be l p).Len l where
 expr k hk:=Ap (Bi (h.simple k hk) (Bj (C.simple k hk))) fun x m ⟨h1,h2⟩ y k' e=>by have:=h.rest x m h2.2 y k' e;omega
 rest x k hk:=Ap (Bi (h.relation x k hk) (Bj (C.relation x k hk))) fun y m ⟨h1,h2⟩ z k' e=>by
  have:=h.restL _ y m h2.2 z k' e
  have h3:=Qv y (show(0:Int)<=1 by decide)
  by_cases c:(opF l 0 m Em).1=0
  ·have:=this.1 c;omega
  ·have hm:=Fw3 (Ri c).1
   have:=this.2 hm
   have:=Gl7 (opF l 0 m Em).1 y
   omega
 restL o x k hk:=by
  dsimp only[Be]
  split
  ·rename_i c
   exact Bz ⟨fun _=>Nat.le_refl _,fun h=>by omega⟩
  ·rename_i c0
   obtain⟨X,q2,L,Y⟩:=Cy (want:=o) Gx7.1 hk
   split
   ·refine Bz ⟨fun h=>absurd h c0,fun _=> ?_⟩
    have:Ft x 0<=lcE o x:=by unfold lcE;split;exact Nat.le_refl _;exact Qv x (by decide)
    omega
   ·rename_i hq
    obtain⟨U,m2,m3⟩:=Ri hq
    refine Ap (Bi (h.simple _ L) (Bj (C.simple _ L))) fun y j ⟨h1,h2⟩=>Ap (Bi (h.relation y j h2.2) (Bj (C.relation y j h2.2))) fun z i ⟨h3,h4⟩ w k' e=> ?_
    have g:=h.restL o (both o x z) i h4.2 w k' e
    refine⟨fun h=>absurd h c0,fun ho=> ?_⟩
    have E:=g.2 ho
    rw[Fc7,Ac1 (both o x z),(Fv9 ho.1 ho.2 x z).1] at E
    have ag:(opF l o k Em).1=o:=Cw6 c0 hq
    rw[ag] at m2
    omega
 relation x k hk:=by
  dsimp only[Be]
  obtain⟨X,q2,L,Y⟩:=Cy (want:=0) Gx7.2.1 hk
  have am:=Qv x (show(1:Int)<=2 by decide)
  have ac: ∀(kind:Int) (j:Nat),(kind=13/\j=k+1\/kind=14/\j=k+2)->j<=l.length->Gh (fun y k'=>Ft y 1+k<=Ft x 2+k') (inK l x kind j p):=fun kind j ah hj=>by
   refine Ap (Bi (h.simple _ hj) (Bj (C.simple _ hj))) fun y i ⟨h1,h2⟩=> ?_
   have ad: ∀m,Aq (.mk kind 0 0 [] m [] x.line 0 0)=1:=fun m=>by
    unfold Aq
    rw[if_pos];show kind=13\/kind=14;omega
   have ae: ∀m:List Ex,(Ai (.mk kind 0 0 [] m [] x.line 0 0)).length=(pE (.mk kind 0 0 [] m [] x.line 0 0) 0 2).length+(j-k)+(Jn (.mk kind 0 0 [] m [] x.line 0 0)).length:=fun m=>by
    rcases ah with⟨rfl,rfl⟩ | ⟨rfl,rfl⟩
    ·rw[Ci9 rfl,jC,jA];omega
    ·rw[Cj0 rfl,jC,jA,jA];omega
   split
   ·rename_i hw
    have:=Av hw h2.2
    simp only[jA,jB] at this
    refine Ap (h.simple _ this) fun z n h3=>Bz ?_
    show Ft _ 1+k<=_
    rw[Sq (by rw[ad];exact Int.le_refl _),ae]
    have e1:(pE (.mk kind 0 0 [] [x,y,z] [] x.line 0 0) 0 2).length=Ft x 2:=rfl
    have S:(Jn (.mk kind 0 0 [] [x,y,z] [] x.line 0 0)).length=Ft y 2+(Ft z 2+1):=by
     show(Ar y 2++Ah Ef::Ar z 2).length=_
     rw[jC,jA];rfl
    rw[e1,S]
    omega
   ·split
    ·rename_i hnm
     refine Bz ?_
     show Ft _ 1+k<=_
     rw[Sq (by rw[ad];exact Int.le_refl _),ae]
     have e1:(pE (.mk kind 0 0 [] [x,y] [] x.line 0 0) 0 2).length=Ft x 2:=rfl
     have S:(Jn (.mk kind 0 0 [] [x,y] [] x.line 0 0)).length=(Ai y).length:=rfl
     have ai:Ft y 2+j<=i:=h1
     rw[Bp3 hnm (by decide)] at ai
     rw[e1,S]
     omega
    ·exact Af4
  split
  ·rename_i hq
   obtain⟨U,m2,m3⟩:=Ri hq
   refine Ap (h.simple _ L) fun y j h1=>Bz ?_
   have hb:=Fw0 (Dv1 U).1 (Dv1 U).2 x y
   show Ft _ 1+k<=_
   rw[Sq (by rw[hb.2];decide),hb.1]
   omega
  ·split
   ·rename_i hw
    have:=Av hw hk
    simp only[jA,jB] at this
    exact ac _ _ (.inl ⟨rfl,rfl⟩) this
   ·split
    ·rename_i hw
     have:=Av hw hk
     simp only[jA,jB] at this
     exact ac _ _ (.inr ⟨rfl,rfl⟩) this
    ·exact Bz (by show Ft x 1+k<=_;omega)
 simple k hk:=by
  obtain⟨X,q2,L,Y⟩:=Cy (want:=0) Gx7.2.2.1 hk
  refine Ap (Bi (h.term _ L) (Bj (C.term _ L))) fun x j ⟨h1,h2⟩ y k' e=> ?_
  have g:=h.addL _ j h2.2 y k' e
  have:=Ej2 (li:=(tk l k).line) h1 hk
  omega
 addL x k hk:=by
  dsimp only[Be]
  obtain⟨X,q2,L,Y⟩:=Cy (want:=0) Gx7.2.2.2.1 hk
  split
  ·exact Bz (Nat.le_refl _)
  ·rename_i hq
   obtain⟨U,m2,m3⟩:=Ri hq
   refine Ap (Bi (h.term _ L) (Bj (C.term _ L))) fun y j ⟨h1,h2⟩ z k' e=> ?_
   have g:=h.addL _ j h2.2 z k' e
   have hb:=Fw1 (Fw4 U) x y
   rw[Sq (by rw[hb.2];decide),hb.1] at g
   omega
 term k hk:=Ap (Bi (h.factor k hk) (Bj (C.factor k hk))) fun x j ⟨h1,h2⟩ y k' e=>by
  have g:=h.mulL x j h2.2 y k' e
  have:=Qv x (show(3:Int)<=4 by decide)
  omega
 mulL x k hk:=by
  dsimp only[Be]
  obtain⟨X,q2,L,Y⟩:=Cy (want:=0) Gx7.2.2.2.2.1 hk
  split
  ·exact Bz (Nat.le_refl _)
  ·rename_i hq
   obtain⟨U,m2,m3⟩:=Ri hq
   refine Ap (Bi (h.factor _ L) (Bj (C.factor _ L))) fun y j ⟨h1,h2⟩ z k' e=> ?_
   have g:=h.mulL _ j h2.2 z k' e
   have hb:=Fw2 (Dv2 U).1 (Dv2 U).2 x y
   rw[Sq (by rw[hb.2];decide),hb.1] at g
   omega
 factor k hk:=by
  obtain⟨X,q2,L,Y⟩:=Cy (want:=0) Gx7.2.2.2.2.2 hk
  exact Ap (h.primary _ L) fun x j h1=>Bz (Fc6 (li:=(tk l k).line) h1 hk)
 primary k hk:=by
  dsimp only[Be]
  split
  ·exact Bz (by rw[Sq (Int.le_refl 5),Gl];show 1+k<=k+1;omega)
  ·split
   ·exact Bz (by rw[Sq (Int.le_refl 5),Gl];show 1+k<=k+1;omega)
   ·split
    ·exact fun x k' e=>by
      have:=h.paren k hk x k' e
      have:=Ej0 (e:=x) (show(5:Int)<=5 by decide)
      omega
    ·exact fun x k' e=>by
      have:=h.name k hk x k' e
      show Ft x 5+k<=k'
      rw[Bp3 this.2 (by decide)]
      exact this.1
 paren k hk:=by
  dsimp only[Be]
  refine Gf fun hw=> ?_
  have aa:=Av hw hk
  simp only[jA,jB] at aa
  split
  ·rename_i aj
   have ab:=Av aj aa
   simp only[jA,jB] at ab
   refine Ap (Bi (h.expr _ ab) (Bj (C.expr _ ab))) fun a M ⟨I,E⟩=>Gf fun w1=> ?_
   have D:=Av w1 E.2
   refine Ap (Bi (h.expr _ D) (Bj (C.expr _ D))) fun b V ⟨J,W⟩=>Gf fun w2=> ?_
   have O:=Av w2 W.2
   refine Ap (Bi (h.expr _ O) (Bj (C.expr _ O))) fun c i3 ⟨g5,g6⟩=>Gf fun w3=>Bz ?_
   have e1:Ai1 (.mk 10 0 0 [] [a,b,c] [] (tk l (k+1-1)).line 0 0)=(Ai a).length+(Ai b).length+(Ai c).length+5:=by
    rw[Ai1,Bp0 rfl]
    show(Ah Bf::Ah wIf::(Ai a++Ah Pk::(Ai b++Ah Qc::(Ai c++ [Ah Bv])))).length+0=_
    simp only[jA,jC,jB];omega
   rw[e1]
   rw[Ac1] at I J g5
   omega
  ·refine Ap (Bi (h.assoc _ aa) (Bj (C.assoc _ aa))) fun a M ⟨I,E⟩=>Ap (Bi (h.assocsL [a] M E.2) (Bj (C.assocsL [a] M E.2))) fun b V ⟨J,W⟩=>Gf fun w1=>Bz ?_
   rw[Az2] at J
   have key: ∀li,Ai1 (.mk 9 0 0 [] [] b li 0 0)+k<=V+1:=fun li=>by
    rw[Ai1,Cw4 rfl]
    show(Ah Bf::(Dm Ee (b.map Es)++ [Ah Bv])).length+0+k<=_
    have S:(Dm Ee (b.map Es)).length=Vo b-1:=Ac2 _ _
    simp only[jA,jC,jB,S]
    omega
   match b,J,key with
   | [],J,key=>exact key _
   | x::y::r,J,key=>exact key _
   | [x],J,key=>
    show Ai1 (if x.c= [] then x.e else _)+k<=_
    split
    ·rename_i hc
     rw[Az2,Jl,hc] at J
     have af:(Ai x.e).length+1+M<=(Es a).length+1+V:=J
     unfold Ai1
     split<;>omega
    ·exact key _
 assoc k hk:=by
  refine Ap (Bi (h.choice k hk) (Bj (C.choice k hk))) fun c M ⟨⟨I,ak⟩,E⟩=> ?_
  split
  ·rename_i hc
   obtain⟨y,hy⟩:=ak hc.1
   refine Bz ?_
   rw[Jm,if_pos hc.1,hy] at I
   rw[Jl,hy]
   exact I
  ·split
   ·refine Gf fun w1=> ?_
    have D:=Av w1 E.2
    refine Ap (h.expr _ D) fun e V J=>Bz ?_
    rw[Jl]
    show(Cs c++Ah By::Ai e).length+k<=_
    rw[Ac1] at J
    rw[jC,jA];omega
   ·refine Ap (Bi (h.choicesL [c] M E.2) (Bj (C.choicesL [c] M E.2))) fun b V ⟨⟨J,af⟩,W⟩=>Gf fun w1=> ?_
    have D:=Av w1 W.2
    have hb:b≠ []:=af (by simp)
    refine Ap (h.expr _ D) fun e i3 g5=>Bz ?_
    have S:=Cw7 b hb Gg
    rw[Cb6] at J
    rw[Jl]
    have al:(As.mk b e).c.isEmpty=false:=by cases b with | nil=>exact absurd rfl hb | cons x r=>rfl
    rw[al]
    show(Dm Gg (b.map Cs)++Ah By::Ai e).length+k<=_
    rw[Ac1] at g5
    rw[jC,jA];omega
 assocsL az k hk:=by
  dsimp only[Be]
  split
  ·rename_i hw
   have:=Av hw hk
   simp only[jA,jB] at this
   refine Ap (Bi (h.assoc _ this) (Bj (C.assoc _ this))) fun a n ⟨h1,h2⟩ y k' e=> ?_
   have g:=h.assocsL _ n h2.2 y k' e
   rw[Vo,Vo,List.map_append,List.map_singleton,Af5] at g
   unfold Vo
   omega
  ·exact Bz (Nat.le_refl _)
 choice k hk:=by
  dsimp only[Be]
  split
  ·exact Bz ⟨by rw[Jm];show 1+k<=k+1;omega,fun h=>by cases h⟩
  ·refine Ap (Bi (h.simple k hk) (Bj (C.simple k hk))) fun x M ⟨I,E⟩=> ?_
   split
   ·rename_i hw
    have D:=Av hw E.2
    refine Ap (h.simple _ D) fun y V J=>Bz ⟨?_,fun h=>by cases h⟩
    rw[Jm]
    show(Ar x 2++Ah Ef::Ar y 2).length+k<=_
    rw[jC,jA]
    have e1:(Ar x 2).length=Ft x 2:=rfl
    have S:(Ar y 2).length=Ft y 2:=rfl
    omega
   ·refine Ap (h.rest x M E.2) fun y V J=>Bz ⟨?_,fun _=>⟨y,rfl⟩⟩
    rw[Jm]
    show(Ai y).length+k<=_
    rw[Ac1] at J
    omega
 choicesL az k hk:=by
  dsimp only[Be]
  split
  ·rename_i hw
   have:=Av hw hk
   simp only[jA,jB] at this
   refine Ap (Bi (h.choice _ this) (Bj (C.choice _ this))) fun a n ⟨⟨h1,_⟩,h2⟩ y k' e=> ?_
   have g:=h.choicesL _ n h2.2 y k' e
   rw[Ar0,Ar0,List.map_append,List.map_singleton,Af5] at g
   unfold Ar0
   exact⟨by omega,fun _=>g.2 (by simp)⟩
  ·exact Bz ⟨Nat.le_refl _,id⟩
 arg k hk:=by
  dsimp only[Be]
  split
  ·rename_i hw
   have j0:=Oq (l:=l) (k:=k) (by rw[hw.1];decide)
   have D:=Av hw.2 j0
   refine Ap (h.expr _ D) fun e M I=>Bz ?_
   rw[Jl]
   show(Dw (tk l k).text::Ah By::Ai e).length+k<=_
   rw[Ac1] at I
   rw[jA,jA];omega
  ·refine Ap (h.expr k hk) fun e M I=>Bz ?_
   rw[Jl]
   show(Ai e).length+k<=_
   rw[Ac1] at I
   exact I
 argsL az k hk:=by
  dsimp only[Be]
  split
  ·rename_i hw
   have:=Av hw hk
   simp only[jA,jB] at this
   refine Ap (Bi (h.arg _ this) (Bj (C.arg _ this))) fun a n ⟨h1,h2⟩ y k' e=> ?_
   have g:=h.argsL _ n h2.2 y k' e
   rw[Vo,Vo,List.map_append,List.map_singleton,Af5] at g
   unfold Vo
   omega
  ·exact Bz (Nat.le_refl _)
 name k hk:=by
  dsimp only[Be]
  refine Tg fun Z=> ?_
  have j0:=Oq (l:=l) (k:=k) (by rw[Z];decide)
  intro x k' e
  have g:=h.nameL _ (.mk 3 0 0 (tk l k).text [] [] (tk l k).line 0 0) (k+1) j0 rfl x k' e
  refine⟨?_,g.2⟩
  have e1:(Ai (.mk 3 0 0 (tk l k).text [] [] (tk l k).line 0 0)).length=1:=by rw[Bo9 rfl];rfl
  have:=g.1
  rw[e1] at this
  omega
 nameL i x k hk hx:=by
  have hn: ∀(y:Ex) (j d:Nat),j<=l.length->Bu y=true->(Ai y).length+k<=(Ai x).length+j->Gh (fun y k'=>(Ai y).length+k<=(Ai x).length+k'/\Bu y=true) (p.nameL i y j):=fun y j d hj hy hl z k' e=>by
   have g:=h.nameL i y j hj hy z k' e
   exact⟨by have:=g.1;omega,g.2⟩
  dsimp only[Be]
  split
  ·rename_i hw
   have D:=Av hw hk
   simp only[jA,jB] at D
   refine hn _ _ 0 D rfl ?_
   rw[Du7 rfl]
   show(Ai x++ [Ah Jj,Ah Zo]).length+k<=_
   rw[jC];show(Ai x).length+2+k<=_;omega
  ·split
   ·rename_i hw
    have D:=Av hw hk
    refine Tg fun Z=> ?_
    have O:=Oq (l:=l) (k:=k+1) (by rw[Z];decide)
    refine hn _ _ 0 O rfl ?_
    rw[Cb4 rfl]
    show(Ai x++ [Ah Jj,Dw _]).length+k<=_
    rw[jC];show(Ai x).length+2+k<=_;omega
   ·split
    ·rename_i hw
     have D:=Av hw hk
     simp only[jA,jB] at D
     refine Ap (Bi (h.arg _ D) (Bj (C.arg _ D))) fun a M ⟨I,E⟩=>Ap (Bi (h.argsL [a] M E.2) (Bj (C.argsL [a] M E.2))) fun b V ⟨J,W⟩=>Gf fun w1=> ?_
     have O:=Av w1 W.2
     refine hn _ _ 0 O rfl ?_
     rw[Du9 rfl]
     show(Ai x++Ah Bf::(Dm Ee (b.map Es)++ [Ah Bv])).length+k<=_
     have S:(Dm Ee (b.map Es)).length=Vo b-1:=Ac2 _ _
     rw[Az2] at J
     simp only[jC,jA,jB,S]
     omega
    ·split
     ·rename_i hw
      have D:=Av hw hk
      simp only[jA,jB] at D
      have O:k+1<=l.length:=by omega
      refine Ap (Bi (h.paren _ O) (Bj (C.paren _ O))) fun y M ⟨I,E⟩=> ?_
      refine hn _ _ 0 E.2 rfl ?_
      rw[Dv0 rfl]
      show(Ai x++Ah Hz::Wb (!Nd y.kind) (Ai y)).length+k<=_
      rw[jC,jA,Ub]
      unfold Ai1 at I
      cases hb:Nd y.kind with
      | true=>rw[hb] at I;simp at I⊢;omega
      | false=>rw[hb] at I;simp at I⊢;omega
     ·split
      ·rename_i hw
       have D:=Av hw hk
       refine Tg fun Z=> ?_
       have O:=Oq (l:=l) (k:=k+1) (by rw[Z];decide)
       refine hn _ _ 0 O rfl ?_
       rw[Du8 rfl]
       show(Ai x++ [Ah Hz,Dw _]).length+k<=_
       rw[jC];show(Ai x).length+2+k<=_;omega
      ·exact Bz ⟨Nat.le_refl _,hx⟩
theorem Fc8: ∀n,(P l n).Len l
 | 0=>by constructor<;>intros<;>intro x k' e<;>cases e
 | n+1=>Ej4 (Fc8 n) (Kl n)
end
end Go.Dl
-- Ux
namespace Go.Dl
open Go Go.Proofs
set_option maxRecDepth 100000
section
variable {l:List Tok}
theorem Ak9 (a:As): ∀l:List As,Fx (l++ [a])=Fx l+Ya a
 | []=>by simp [Fx]
 | x::l=>by rw[jI,Fx,Fx,Ak9 a l];omega
theorem Bp6 (a:Ch): ∀l:List Ch,Jk (l++ [a])=Jk l+Aq2 a
 | []=>by simp [Jk]
 | x::l=>by rw[jI,Jk,Jk,Bp6 a l];omega
theorem Az3 (a:As): ∀l:List As,Pc (l++ [a])↔Pc l/\okA a
 | []=>by simp [Pc]
 | x::l=>by rw[jI,Pc,Pc,Az3 a l];exact and_assoc.symm
theorem Cb7 (a:Ch): ∀l:List Ch,Wu (l++ [a])↔Wu l/\okC a
 | []=>by simp [Wu]
 | x::l=>by rw[jI,Wu,Wu,Cb7 a l];exact and_assoc.symm
def FE (k:Nat) (x:Ex) (k':Nat):Prop:=Fo x+1+2*k<=2*k'/\okE x
def FL (k:Nat) (x y:Ex) (k':Nat):Prop:=Fo y+2*k<=Fo x+2*k'/\okE y
structure PS.Fits (l:List Tok) (p:PS):Prop where
 expr: ∀k,k<=l.length->Gh (FE k) (p.expr k)
 rest: ∀x k,k<=l.length->okE x->Gh (FL k x) (p.rest x k)
 restL: ∀o x k,k<=l.length->okE x->Gh (FL k x) (p.restL o x k)
 relation: ∀x k,k<=l.length->okE x->Gh (FL k x) (p.relation x k)
 simple: ∀k,k<=l.length->Gh (FE k) (p.simple k)
 addL: ∀x k,k<=l.length->okE x->Gh (FL k x) (p.addL x k)
 term: ∀k,k<=l.length->Gh (FE k) (p.term k)
 mulL: ∀x k,k<=l.length->okE x->Gh (FL k x) (p.mulL x k)
 factor: ∀k,k<=l.length->Gh (FE k) (p.factor k)
 primary: ∀k,k<=l.length->Gh (FE k) (p.primary k)
 paren: ∀k,k<=l.length->Gh (FE k) (p.paren k)
 assoc: ∀k,k<=l.length->Gh (fun x k'=>Ya x+1+2*k<=2*k'/\okA x) (p.assoc k)
 assocsL: ∀a k,k<=l.length->Pc a->Gh (fun b k'=>Fx b+2*k<=Fx a+2*k'/\Pc b) (p.assocsL a k)
 choice: ∀k,k<=l.length->Gh (fun x k'=>Aq2 x+2*k<=2*k'/\okC x) (p.choice k)
 choicesL: ∀a k,k<=l.length->Wu a->Gh (fun b k'=>Jk b+2*k<=Jk a+2*k'/\Wu b) (p.choicesL a k)
 arg: ∀k,k<=l.length->Gh (fun x k'=>Ya x+1+2*k<=2*k'/\okA x) (p.arg k)
 argsL: ∀a k,k<=l.length->Pc a->Gh (fun b k'=>Fx b+2*k<=Fx a+2*k'/\Pc b) (p.argsL a k)
 name: ∀k,k<=l.length->Gh (FE k) (p.name k)
 nameL: ∀i x k,k<=l.length->okE x->Gh (FL k x) (p.nameL i x k)
theorem Ar1 (o:Nat) (x y:Ex):Fo (both o x y)=1+Fo x+Fo y:=by
 rw[both,Fo];simp only[Mg,Fx];omega
theorem Bg9 {o:Nat} {x y:Ex} (h1:okE x) (h2:okE y):okE (both o x y):=by
 rw[both,okE];simp only[okL,Pc];exact⟨by decide,⟨h1,h2,trivial⟩,trivial⟩
theorem Cw8 (o:Nat) (x:Ex) (li:Int):Fo (Nw o li x)=if o=0 then Fo x else 1+Fo x:=by
 unfold Nw;split
 ·rfl
 ·rw[Fo];simp only[Mg,Fx];omega
theorem Dv4 {o:Nat} {x:Ex} {li:Int} (h1:okE x):okE (Nw o li x):=by
 unfold Nw;split
 ·exact h1
 ·rw[okE];simp only[okL,Pc];exact⟨by decide,⟨h1,trivial⟩,trivial⟩
theorem Dl2 (hT: ∀k,(tk l k).text.length<=9223372036854775807) {p:PS} (h:p.Fits l) (J:p.Adv l):(Be l p).Fits l where
 expr k hk:=Ap (Bi (h.simple k hk) (Bj (J.simple k hk))) fun x m ⟨h1,h2⟩ y k' e=>by
  obtain⟨C,E⟩:=h.rest x m h2.2 h1.2 y k' e
  exact⟨by have:=h1.1;omega,E⟩
 rest x k hk hx:=Ap (Bi (h.relation x k hk hx) (Bj (J.relation x k hk))) fun y m ⟨h1,h2⟩ z k' e=>by
  obtain⟨C,E⟩:=h.restL _ y m h2.2 h1.2 z k' e
  exact⟨by have:=h1.1;omega,E⟩
 restL o x k hk hx:=by
  dsimp only[Be]
  split
  ·exact Bz ⟨Nat.le_refl _,hx⟩
  ·obtain⟨Y,q2,L,Z⟩:=Cy (want:=o) Gx7.1 hk
   split
   ·exact Bz ⟨Nat.le_refl _,hx⟩
   ·rename_i hq
    have:=q2 hq
    refine Ap (Bi (h.simple _ L) (Bj (J.simple _ L))) fun y j ⟨h1,h2⟩=>Ap (Bi (h.relation y j h2.2 h1.2) (Bj (J.relation y j h2.2))) fun z i ⟨h3,h4⟩ w k' e=> ?_
    obtain⟨C,E⟩:=h.restL o (both o x z) i h4.2 (Bg9 hx h3.2) w k' e
    rw[Ar1] at C
    have:=h1.1
    have:=h3.1
    exact⟨by omega,E⟩
 relation x k hk hx:=by
  dsimp only[Be]
  obtain⟨Y,q2,L,Z⟩:=Cy (want:=0) Gx7.2.1 hk
  have ad: ∀(kind:Int) (j:Nat),k+1<=j->j<=l.length->Gh (FL k x) (inK l x kind j p):=fun kind j af hj=>by
   refine Ap (Bi (h.simple _ hj) (Bj (J.simple _ hj))) fun y i ⟨h1,h2⟩=> ?_
   have:=h1.1
   split
   ·rename_i hw
    have D:=Av hw h2.2
    simp only[jA,jB] at D
    refine Ap (h.simple _ D) fun z n h3=>Bz ⟨?_, ?_⟩
    ·have:=h3.1
     rw[Fo];simp only[Mg,Fx];omega
    ·rw[okE];simp only[okL,Pc];exact⟨by decide,⟨hx,h1.2,h3.2,trivial⟩,trivial⟩
   ·split
    ·refine Bz ⟨?_, ?_⟩
     ·rw[Fo];simp only[Mg,Fx];omega
     ·rw[okE];simp only[okL,Pc];exact⟨by decide,⟨hx,h1.2,trivial⟩,trivial⟩
    ·exact Af4
  split
  ·rename_i hq
   have:=q2 hq
   refine Ap (h.simple _ L) fun y j h1=>Bz ⟨?_,Bg9 hx h1.2⟩
   have:=h1.1
   rw[Ar1];omega
  ·split
   ·rename_i hw
    have D:=Av hw hk
    simp only[jA,jB] at D
    exact ad _ _ (by omega) D
   ·split
    ·rename_i hw
     have D:=Av hw hk
     simp only[jA,jB] at D
     exact ad _ _ (by omega) D
    ·exact Bz ⟨Nat.le_refl _,hx⟩
 simple k hk:=by
  obtain⟨Y,q2,L,Z⟩:=Cy (want:=0) Gx7.2.2.1 hk
  refine Ap (Bi (h.term _ L) (Bj (J.term _ L))) fun x j ⟨h1,h2⟩ y k' e=> ?_
  obtain⟨C,E⟩:=h.addL _ j h2.2 (Dv4 h1.2) y k' e
  have:=h1.1
  rw[Cw8] at C
  refine⟨?_,E⟩
  by_cases c:(opF l 0 k Fq).1=0
  ·rw[if_pos c] at C;omega
  ·have:=q2 c
   rw[if_neg c] at C;omega
 addL x k hk hx:=by
  dsimp only[Be]
  obtain⟨Y,q2,L,Z⟩:=Cy (want:=0) Gx7.2.2.2.1 hk
  split
  ·exact Bz ⟨Nat.le_refl _,hx⟩
  ·rename_i hq
   have:=q2 hq
   refine Ap (Bi (h.term _ L) (Bj (J.term _ L))) fun y j ⟨h1,h2⟩ z k' e=> ?_
   obtain⟨C,E⟩:=h.addL _ j h2.2 (Bg9 hx h1.2) z k' e
   have:=h1.1
   rw[Ar1] at C
   exact⟨by omega,E⟩
 term k hk:=Ap (Bi (h.factor k hk) (Bj (J.factor k hk))) fun x j ⟨h1,h2⟩ y k' e=>by
  obtain⟨C,E⟩:=h.mulL x j h2.2 h1.2 y k' e
  have:=h1.1
  exact⟨by omega,E⟩
 mulL x k hk hx:=by
  dsimp only[Be]
  obtain⟨Y,q2,L,Z⟩:=Cy (want:=0) Gx7.2.2.2.2.1 hk
  split
  ·exact Bz ⟨Nat.le_refl _,hx⟩
  ·rename_i hq
   have:=q2 hq
   refine Ap (Bi (h.factor _ L) (Bj (J.factor _ L))) fun y j ⟨h1,h2⟩ z k' e=> ?_
   obtain⟨C,E⟩:=h.mulL _ j h2.2 (Bg9 hx h1.2) z k' e
   have:=h1.1
   rw[Ar1] at C
   exact⟨by omega,E⟩
 factor k hk:=by
  obtain⟨Y,q2,L,Z⟩:=Cy (want:=0) Gx7.2.2.2.2.2 hk
  refine Ap (h.primary _ L) fun x j h1=>Bz ⟨?_,Dv4 h1.2⟩
  have:=h1.1
  rw[Cw8]
  by_cases c:(opF l 0 k It).1=0
  ·rw[if_pos c];omega
  ·have:=q2 c
   rw[if_neg c];omega
 primary k hk:=by
  dsimp only[Be]
  split
  ·exact Bz ⟨by rw[Fo];simp only[Mg,Fx];omega,by rw[okE];exact⟨by decide,trivial,trivial⟩⟩
  ·split
   ·exact Bz ⟨by rw[Fo];simp only[Mg,Fx];omega,by rw[okE];exact⟨by decide,trivial,trivial⟩⟩
   ·split
    ·exact h.paren k hk
    ·exact h.name k hk
 paren k hk:=by
  dsimp only[Be]
  refine Gf fun hw=> ?_
  have ab:=Av hw hk
  simp only[jA,jB] at ab
  split
  ·rename_i ae
   have ac:=Av ae ab
   simp only[jA,jB] at ac
   refine Ap (Bi (h.expr _ ac) (Bj (J.expr _ ac))) fun a M ⟨C,E⟩=>Gf fun w1=> ?_
   have D:=Av w1 E.2
   refine Ap (Bi (h.expr _ D) (Bj (J.expr _ D))) fun b W ⟨I,X⟩=>Gf fun w2=> ?_
   have O:=Av w2 X.2
   refine Ap (Bi (h.expr _ O) (Bj (J.expr _ O))) fun c i3 ⟨g5,g6⟩=>Gf fun w3=>Bz ⟨?_, ?_⟩
   ·have:=C.1;have:=I.1;have:=g5.1
    rw[Fo];simp only[Mg,Fx];omega
   ·rw[okE];simp only[okL,Pc];exact⟨by decide,⟨C.2,I.2,g5.2,trivial⟩,trivial⟩
  ·refine Ap (Bi (h.assoc _ ab) (Bj (J.assoc _ ab))) fun a M ⟨C,E⟩=>Ap (Bi (h.assocsL [a] M E.2 ⟨C.2,trivial⟩) (Bj (J.assocsL [a] M E.2))) fun b W ⟨I,X⟩=>Gf fun w1=>Bz ?_
   have S:=C.1
   have V:=I.1
   simp only[Fx] at V
   have key: ∀li,FE k (.mk 9 0 0 [] [] b li 0 0) (W+1):=fun li=>⟨by rw[Fo];simp only[Mg];omega,by rw[okE];exact⟨by decide,trivial,I.2⟩⟩
   match b,I,V,key with
   | [],I,_,key=>exact key _
   | x::y::r,I,_,key=>exact key _
   | [x],I,V,key=>
    show FE k (if x.c= [] then x.e else _) _
    split
    ·simp only[Fx] at V
     have h6:=Aq4 x
     have h5:=I.2
     simp only[Pc] at h5
     exact⟨by omega,(Gl1.1 h5.1).2⟩
    ·exact key _
 assoc k hk:=by
  refine Ap (Bi (h.choice k hk) (Bj (J.choice k hk))) fun c M ⟨⟨C,S⟩,E⟩=> ?_
  rw[Vm] at C
  split
  ·refine Bz ?_
   rw[Gl2] at S
   rw[Ya,okA]
   simp only[Jk,Wu]
   obtain⟨m,hm⟩: ∃m,m=c.l:=⟨_,rfl⟩
   rw[<-hm] at C S⊢
   cases m with
   | nil=>exact⟨by show 0+Fo ex0+1+2*k<=_;rw[show Fo ex0=1 from rfl];omega,trivial,by simp [ex0,okE,okL,Pc]⟩
   | cons x r=>
    rw[Mg] at C
    rw[okL] at S
    exact⟨by show 0+Fo x+1+2*k<=_;omega,trivial,S.1⟩
  ·split
   ·refine Gf fun w1=> ?_
    have D:=Av w1 E.2
    simp only[jA,jB] at D
    refine Ap (h.expr _ D) fun e W I=>Bz ⟨?_, ?_⟩
    ·have:=I.1
     rw[Ya];simp only[Jk,Vm];omega
    ·rw[okA];exact⟨⟨S,trivial⟩,I.2⟩
   ·refine Ap (Bi (h.choicesL [c] M E.2 ⟨S,trivial⟩) (Bj (J.choicesL [c] M E.2))) fun b W ⟨⟨I,V⟩,X⟩=>Gf fun w1=> ?_
    have D:=Av w1 X.2
    simp only[jA,jB] at D
    refine Ap (h.expr _ D) fun e i3 g5=>Bz ⟨?_, ?_⟩
    ·have:=g5.1
     simp only[Jk,Vm] at I
     rw[Ya];omega
    ·rw[okA];exact⟨V,g5.2⟩
 assocsL a k hk ha:=by
  dsimp only[Be]
  split
  ·rename_i hw
   have:=Av hw hk
   simp only[jA,jB] at this
   refine Ap (Bi (h.assoc _ this) (Bj (J.assoc _ this))) fun x n ⟨h1,h2⟩ y k' e=> ?_
   obtain⟨g,U⟩:=h.assocsL _ n h2.2 ((Az3 _ _).2 ⟨ha,h1.2⟩) y k' e
   rw[Ak9] at g
   have:=h1.1
   exact⟨by omega,U⟩
  ·exact Bz ⟨Nat.le_refl _,ha⟩
 choice k hk:=by
  dsimp only[Be]
  split
  ·exact Bz ⟨by rw[Aq2];simp only[Mg];omega,by rw[okC];trivial⟩
  ·refine Ap (Bi (h.simple k hk) (Bj (J.simple k hk))) fun x M ⟨C,E⟩=> ?_
   have:=C.1
   split
   ·rename_i hw
    have D:=Av hw E.2
    simp only[jA,jB] at D
    refine Ap (h.simple _ D) fun y W I=>Bz ⟨?_, ?_⟩
    ·have:=I.1
     rw[Aq2];simp only[Mg];omega
    ·rw[okC];exact⟨C.2,I.2,trivial⟩
   ·refine Ap (h.rest x M E.2 C.2) fun y W I=>Bz ⟨?_, ?_⟩
    ·have:=I.1
     rw[Aq2];simp only[Mg];omega
    ·rw[okC];exact⟨I.2,trivial⟩
 choicesL a k hk ha:=by
  dsimp only[Be]
  split
  ·rename_i hw
   have:=Av hw hk
   simp only[jA,jB] at this
   refine Ap (Bi (h.choice _ this) (Bj (J.choice _ this))) fun x n ⟨h1,h2⟩ y k' e=> ?_
   obtain⟨g,U⟩:=h.choicesL _ n h2.2 ((Cb7 _ _).2 ⟨ha,h1.2⟩) y k' e
   rw[Bp6] at g
   have:=h1.1
   exact⟨by omega,U⟩
  ·exact Bz ⟨Nat.le_refl _,ha⟩
 arg k hk:=by
  dsimp only[Be]
  split
  ·rename_i hw
   have j0:=Oq (l:=l) (k:=k) (by rw[hw.1];decide)
   have D:=Av hw.2 j0
   simp only[jA,jB] at D
   refine Ap (h.expr _ D) fun e M C=>Bz ⟨?_, ?_⟩
   ·have:=C.1
    rw[Ya];simp only[Jk,Aq2,Mg,Fo,Fx];omega
   ·rw[okA];simp only[Wu,okC,okL,okE,Pc];exact⟨⟨⟨⟨hT k,trivial,trivial⟩,trivial⟩,trivial⟩,C.2⟩
  ·refine Ap (h.expr k hk) fun e M C=>Bz ⟨?_, ?_⟩
   ·have:=C.1
    rw[Ya];simp only[Jk];omega
   ·rw[okA];exact⟨trivial,C.2⟩
 argsL a k hk ha:=by
  dsimp only[Be]
  split
  ·rename_i hw
   have:=Av hw hk
   simp only[jA,jB] at this
   refine Ap (Bi (h.arg _ this) (Bj (J.arg _ this))) fun x n ⟨h1,h2⟩ y k' e=> ?_
   obtain⟨g,U⟩:=h.argsL _ n h2.2 ((Az3 _ _).2 ⟨ha,h1.2⟩) y k' e
   rw[Ak9] at g
   have:=h1.1
   exact⟨by omega,U⟩
  ·exact Bz ⟨Nat.le_refl _,ha⟩
 name k hk:=by
  dsimp only[Be]
  refine Tg fun aa=> ?_
  have j0:=Oq (l:=l) (k:=k) (by rw[aa];decide)
  intro x k' e
  obtain⟨g,U⟩:=h.nameL _ (.mk 3 0 0 (tk l k).text [] [] (tk l k).line 0 0) (k+1) j0 (by rw[okE];exact⟨hT k,trivial,trivial⟩) x k' e
  rw[Fo] at g
  simp only[Mg,Fx] at g
  exact⟨by omega,U⟩
 nameL i x k hk hx:=by
  have hn: ∀(y:Ex) (j:Nat),j<=l.length->okE y->Fo y+2*k<=Fo x+2*j->Gh (FL k x) (p.nameL i y j):=fun y j hj hy hl z k' e=>by
   obtain⟨g,U⟩:=h.nameL i y j hj hy z k' e
   exact⟨by omega,U⟩
  dsimp only[Be]
  split
  ·rename_i hw
   have D:=Av hw hk
   simp only[jA,jB] at D
   refine hn _ _ D ?_ ?_
   ·rw[okE];exact⟨by decide,⟨hx,trivial⟩,trivial⟩
   ·rw[Fo];simp only[Mg,Fx];omega
  ·split
   ·rename_i hw
    have D:=Av hw hk
    refine Tg fun aa=> ?_
    have O:=Oq (l:=l) (k:=k+1) (by rw[aa];decide)
    refine hn _ _ O ?_ ?_
    ·rw[okE];exact⟨hT _,⟨hx,trivial⟩,trivial⟩
    ·rw[Fo];simp only[Mg,Fx];omega
   ·split
    ·rename_i hw
     have D:=Av hw hk
     simp only[jA,jB] at D
     refine Ap (Bi (h.arg _ D) (Bj (J.arg _ D))) fun a M ⟨C,E⟩=>Ap (Bi (h.argsL [a] M E.2 ⟨C.2,trivial⟩) (Bj (J.argsL [a] M E.2))) fun b W ⟨I,X⟩=>Gf fun w1=> ?_
     have O:=Av w1 X.2
     have S:=C.1
     have V:=I.1
     simp only[Fx] at V
     refine hn _ _ O ?_ ?_
     ·rw[okE];exact⟨by decide,⟨hx,trivial⟩,I.2⟩
     ·rw[Fo];simp only[Mg];omega
    ·split
     ·rename_i hw
      have D:=Av hw hk
      simp only[jA,jB] at D
      have O:k+1<=l.length:=by omega
      refine Ap (Bi (h.paren _ O) (Bj (J.paren _ O))) fun y M ⟨C,E⟩=> ?_
      have S:=C.1
      refine hn _ _ E.2 ?_ ?_
      ·rw[okE];exact⟨by decide,⟨hx,C.2,trivial⟩,trivial⟩
      ·rw[Fo];simp only[Mg,Fx];omega
     ·split
      ·rename_i hw
       have D:=Av hw hk
       refine Tg fun aa=> ?_
       have O:=Oq (l:=l) (k:=k+1) (by rw[aa];decide)
       refine hn _ _ O ?_ ?_
       ·rw[okE];exact⟨hT _,⟨hx,trivial⟩,trivial⟩
       ·rw[Fo];simp only[Mg,Fx];omega
      ·exact Bz ⟨Nat.le_refl _,hx⟩
theorem Dl3 (C: ∀k,(tk l k).text.length<=9223372036854775807): ∀n,(P l n).Fits l
 | 0=>by constructor<;>intros<;>intro x k' e<;>cases e
 | n+1=>Dl2 C (Dl3 C n) (Kl n)
end
def Ur (l:List Tok):Nat->Res Ex
 | 0=>(Q l).expr 0
 | 1=>((Q l).simple 0).then fun x k=>(Q l).relation x k
 | 2=>(Q l).simple 0
 | 3=>(Q l).term 0
 | 4=>(Q l).factor 0
 | 5=>(Q l).primary 0
 | _=>(Q l).name 0
def Al0 (l:List Tok):Res (List Ch):=((Q l).choice 0).then fun a k=>(Q l).choicesL [a] k
def Fu (l:List Tok) (level:Int):Ex×Int×Int:=
 if level<0\/7<=level then(ex0,0,2) else match Ur l level.toNat with
  | .ok x k=>if Ci x then(x,k,0) else(ex0,0,3)
  | .fail k=>(ex0,k,30)
  | .bot=>(ex0,0,0)
def Jo (l:List Tok):List Ch×Int×Int:=match Al0 l with
  | .ok x k=>if Kq x then(x,k,0) else([],0,3)
  | .fail k=>([],k,30)
  | .bot=>([],0,0)
section
variable {l:List Tok}
theorem Al1 (j:Nat):Ur l j≠ .bot:=by
 have t:=Fb8 (l:=l);have C: ∀ {k a:Nat},a<=7->8*(l.length-k)+a<=Dx l:=fun {k a} ha=>by unfold Dx;omega
 unfold Ur;split
 ·exact t.expr _ (by omega) (C (by omega))
 ·exact De (t.simple _ (by omega) (C (by omega))) (Fb9.simple 0 (by omega)) fun x n _ h=>t.relation _ _ h (C (by omega))
 ·exact t.simple _ (by omega) (C (by omega))
 ·exact t.term _ (by omega) (C (by omega))
 ·exact t.factor _ (by omega) (C (by omega))
 ·exact t.primary _ (by omega) (C (by omega))
 ·exact t.name _ (by omega) (C (by omega))
theorem Af7:Al0 l≠ .bot:=by
 have t:=Fb8 (l:=l);have C: ∀ {k a:Nat},a<=7->8*(l.length-k)+a<=Dx l:=fun {k a} ha=>by unfold Dx;omega
 exact De (t.choice _ (by omega) (C (by omega))) (Fb9.choice 0 (by omega)) fun x n _ h=>t.choicesL _ _ h (C (by omega))
theorem Cj1 (j:Nat):Adv l 1 (Ur l j):=by
 have t:=Fb9 (l:=l);unfold Ur;split
 ·exact t.expr _ (by omega)
 ·exact Ce (t.simple _ (by omega)) fun x n h1 h=>Eh (t.relation x n h) h1
 ·exact t.simple _ (by omega)
 ·exact t.term _ (by omega)
 ·exact t.factor _ (by omega)
 ·exact t.primary _ (by omega)
 ·exact t.name _ (by omega)
theorem Fc9:Adv l 1 (Al0 l):=Ce (Fb9.choice 0 (by omega)) fun x n h1 h=>Eh (Fb9.choicesL _ n h) h1
def Cg (l:List Tok):Prop:= ∀k,(tk l k).text.length<=9223372036854775807
theorem Cw9 (C:Cg l) (j:Nat):Gh (FE 0) (Ur l j):=by
 have t:=Dl3 C (Dx l);change (Q l).Fits l at t;unfold Ur;split
 ·exact t.expr _ (by omega)
 ·exact Ap (Bi (t.simple _ (by omega)) (Bj (Fb9.simple _ (by omega)))) fun x n ⟨h1,h2⟩ y k' e=>by
   obtain⟨g,D⟩:=t.relation x n h2.2 h1.2 y k' e;have:=h1.1;exact⟨by omega,D⟩
 ·exact t.simple _ (by omega)
 ·exact t.term _ (by omega)
 ·exact t.factor _ (by omega)
 ·exact t.primary _ (by omega)
 ·exact t.name _ (by omega)
theorem Cb8 (C:Cg l):Gh (fun a k'=>Jk a<=2*k'/\Wu a) (Al0 l):=by
 have t:=Dl3 C (Dx l);change (Q l).Fits l at t;exact Ap (Bi (t.choice 0 (by omega)) (Bj (Fb9.choice 0 (by omega)))) fun x n ⟨h1,h2⟩ y k' e=>by
  obtain⟨g,D⟩:=t.choicesL [x] n h2.2 ⟨h1.2,trivial⟩ y k' e;simp only[Jk] at g;exact⟨by omega,D⟩
end
section
variable {G:Nat->DVal} {l:List Tok}
theorem Cx0 (hG:GX G) (hl:l.length<=800000) (r:Nat) (H:Ac) (hr:H r=some (rdO l 0)):Ag Tryz.prog G 59 [.optr r 0] H (RdR r l H ((Ur l 1).mp dE)):=by
 have ha:=Fb5 (r:=r) hG hl (Dx l);have C:=Al1 (l:=l) 1;refine Ab Tryz.func59 Tryz.call59 rfl (by kernel_rfl) ?_;simp(disch:=omega)only[go_sem];intro E I;dsimp only at I;have U:r≠E:=Af I hr;have q2:=U.symm;simp(disch:=omega)only[go_sem];have h0:RAt r l 0 H (upd H E (some (.cells [.int .u8 0, .int .u8 0, .int .i64 0, .str [], .nilSlice, .nilSlice, .int .i64 0, .int .i64 0, .int .i64 0] 27))):=(RAt.refl hr).new I _;have hp:=ha.simple _ 0 h0.get (by omega);have M:=Fb9.simple (l:=l) 0 (by omega);unfold Ur at C⊢
 dsimp only at hp;change ((P l (Dx l)).simple 0).then _≠_ at C
 change Ag _ _ _ _ _ _;cases hc:(P l (Dx l)).simple 0 with
 | bot=>rw[hc] at C;exact absurd rfl C
 | fail k=>
  rw[hc] at hp;refine(hp (Cf (by simp))).mono ?_;rintro e J ⟨rfl,rfl⟩;simp(disch:=omega)only[go_sem];have:(Q l).simple 0= .fail k:=hc;rw[this];exact RAt.finP (h0.set k) ⟨rfl,rfl⟩
 | ok x k=>
  rw[hc] at hp C;have hq:(Q l).simple 0= .ok x k:=hc;rw[hq] at M;refine(hp (Cf (by simp))).mono ?_;rintro e J ⟨rfl,O⟩;have h4:RAt r l k H J:=by rw[O];exact h0.set k
  have V:J E=some (.cells [.int .u8 0, .int .u8 0, .int .i64 0, .str [], .nilSlice, .nilSlice, .int .i64 0, .int .i64 0, .int .i64 0] 27):=by rw[O];exact Aj (Aa _ _ _) q2
  simp(disch:=omega)only[go_sem,dE];have hp2:=ha.relation x J k h4.get M.2;dsimp only at hp2;rw[hq,Nx];change (P l (Dx l)).relation x k≠_ at C;cases hc2:(P l (Dx l)).relation x k with
  | bot=>exact absurd hc2 C
  | fail D=>
   rw[hc2] at hp2;refine(hp2 (Cf (by simp))).mono ?_;rintro e L ⟨rfl,rfl⟩;simp(disch:=omega)only[go_sem];have:(Q l).relation x k= .fail D:=hc2;rw[this];exact RAt.finP (h4.set D) ⟨rfl,rfl⟩
  | ok y D=>
   rw[hc2] at hp2;refine(hp2 (Cf (by simp))).mono ?_;rintro e L ⟨rfl,S⟩;have h5:RAt r l D H L:=by rw[S];exact h4.set D
   have W:L E=some (.cells [.int .u8 0, .int .u8 0, .int .i64 0, .str [], .nilSlice, .nilSlice, .int .i64 0, .int .i64 0, .int .i64 0] 27):=by rw[S];exact Aj V q2
   have X:=Ad y;have Y:=Bo y;simp(disch:=omega)only[go_sem,dE,W,X,Y];have:(Q l).relation x k= .ok y D:=hc2;rw[this];exact RAt.fin (h5.own I q2 _) ⟨rfl,rfl⟩
theorem Ej5 (hG:GX G) (hl:l.length<=800000) (j:Nat) (E:j<7): ∃g,([.func (.func 58) [] [], .func (.func 59) [] [], .func (.func 61) [] [], .func (.func 62) [] [], .func (.func 63) [] [], .func (.func 64) [] [], .func (.func 65) [] []]:List DVal)[j]? =some (.func (.func g) [] [])/\ ∀r H,H r=some (rdO l 0)->Ag Tryz.prog G g [.optr r 0] H (RdR r l H ((Ur l j).mp dE)):=by
 have ha:=fun r=>Fb5 (r:=r) hG hl (Dx l);have C:=Al1 (l:=l) j;have D:j=0\/j=1\/j=2\/j=3\/j=4\/j=5\/j=6:=by omega
 rcases D with rfl | rfl | rfl | rfl | rfl | rfl | rfl
 ·exact⟨_,rfl,fun r H hr=>(ha r).expr H 0 hr (by omega) (Cf C)⟩
 ·exact⟨_,rfl,fun r H hr=>Cx0 hG hl r H hr⟩
 ·exact⟨_,rfl,fun r H hr=>(ha r).simple H 0 hr (by omega) (Cf C)⟩
 ·exact⟨_,rfl,fun r H hr=>(ha r).term H 0 hr (by omega) (Cf C)⟩
 ·exact⟨_,rfl,fun r H hr=>(ha r).factor H 0 hr (by omega) (Cf C)⟩
 ·exact⟨_,rfl,fun r H hr=>(ha r).primary H 0 hr (by omega) (Cf C)⟩
 ·exact⟨_,rfl,fun r H hr=>(ha r).name H 0 hr (by omega) (Cf C)⟩
def Bp7 (p:Ex×Int×Int):DVal:= .tuple [dE p.1,dI p.2.1,dI p.2.2]
theorem Mh.ex0 {H H':Ac} (hs:Sub H H'):Mh H' (.agg [.int .u8 0, .int .u8 0, .int .i64 0, .str [], .nilSlice, .nilSlice, .int .i64 0, .int .i64 0, .int .i64 0]) H (dE ex0):=Mh.agg (Mh.ex (l:= []) (a:= []) hs (.exs0 hs) (.as0 hs))
set_option maxHeartbeats 4000000 in
theorem Dl4 (hG:GX G) (H:Ac) (level:Int) (hl:l.length<=800000) (hT:Cg l):Ag Tryz.prog G 11 [Bl l,dI level] H (Ax (Bp7 (Fu l level)) H):=by
 refine Ab Tryz.func11 Tryz.call11 rfl (by kernel_rfl) ?_
 simp(disch:=omega)only[go_sem]
 intro J C;dsimp only at C
 have ad:=fun z=>(Sub.refl H).new C z
 simp(disch:=omega)only[go_sem]
 intro V E;dsimp only at E
 have D:J≠V:=Af E (Aa _ _ _)
 have L:=D.symm
 have ak:H V=none:=(ad _).lo E
 simp(disch:=omega)only[go_sem]
 have M:=fun y=>((Sub.refl H).new C (some (.cells [.int .u8 0, .int .u8 0, .int .i64 0, .str [], .nilSlice, .nilSlice, .int .i64 0, .int .i64 0, .int .i64 0] 27))).new E y
 by_cases I:level<0
 ·simp(disch:=omega)only[go_sem,I,D,L]
  have hf:Fu l level=(ex0,0,2):=by rw[Fu,if_pos (.inl I)]
  rw[hf]
  have hs:=fun y z=>((M y).up C z)
  exact Mh.fin (hs _ _) (Mh.tuple (.cons (Mh.ex0 (hs _ _)) (Lf.keep (hs _ _) _))) ⟨rfl,rfl⟩
 ·by_cases O:7<=level
  ·simp(disch:=omega)only[go_sem,I,O,D,L]
   have hf:Fu l level=(ex0,0,2):=by rw[Fu,if_pos (.inr O)]
   rw[hf]
   have hs:=fun y z=>((M y).up C z)
   exact Mh.fin (hs _ _) (Mh.tuple (.cons (Mh.ex0 (hs _ _)) (Lf.keep (hs _ _) _))) ⟨rfl,rfl⟩
  ·obtain⟨j,hj⟩: ∃j:Nat,level=j:=⟨level.toNat,by omega⟩
   subst hj
   obtain⟨g,ae,af⟩:=Ej5 (l:=l) hG hl j (by omega)
   have hf:Fu l j=match Ur l j with
    | .ok x k=>if Ci x then(x,k,0) else(ex0,0,3)
    | .fail k=>(ex0,k,30)
    | .bot=>(ex0,0,0):=by rw[Fu,if_neg (by omega),jD]
   have ag:(j:Int)<7:=by omega
   simp(disch:=omega)only[go_sem,I,O,D,L,ae,jD,ag]
   refine(Dk9 hG _ hl g (Ur l j) (Al1 j) af).mono ?_
   rintro _ H1 ⟨rfl,W⟩
   have X:=Cj1 (l:=l) j
   have Y:=Cw9 hT j
   have Z:Sub H H1:=by rw[W];exact M _
   have aa:H1 J=some (.cells [.int .u8 0, .int .u8 0, .int .i64 0, .str [], .nilSlice, .nilSlice, .int .i64 0, .int .i64 0, .int .i64 0] 27):=by rw[W];exact Aj (Aa _ _ _) D
   cases hres:Ur l j with
   | bot=>exact absurd hres (Al1 j)
   | fail k=>
    rw[hres] at hf
    rw[hf,Fb6]
    have ah:=Ad ex0
    have ai:=Bo ex0
    simp(disch:=omega)only[go_sem,dE,aa,ah,ai]
    have hs:=fun z=>Z.up C z
    exact Mh.fin (hs _) (Mh.tuple (.cons (Mh.ex0 (hs _)) (Lf.keep (hs _) _))) ⟨rfl,rfl⟩
   | ok x k=>
    rw[hres] at hf Y X
    rw[hf,Fb6]
    obtain⟨hb,hok⟩:=Y x k rfl
    have hk:=X.2
    have hF:Fit x:=⟨by omega,hok⟩
    have S:=Ad x
    have U:=Bo x
    simp(disch:=omega)only[go_sem,dE,aa,S,U]
    refine(Ab7 hG _ x hF).mono ?_
    rintro _ H2 ⟨rfl,ab⟩
    have ac:H2 J=some (.cells (dEx x) 27):=by rw[ab];exact Aa _ _ _
    have aj:Sub H H2:=by rw[ab];exact Z.up C _
    have hs:=fun z=>aj.up C z
    cases hm:Ci x with
    | true=>
     simp(disch:=omega)only[go_sem,ac,S,U]
     exact Fa.sub (hs _) (.refl ⟨rfl,rfl⟩)
    | false=>
     simp(disch:=omega)only[go_sem,ac,S,U]
     exact Mh.fin (hs _) (Mh.tuple (.cons (Mh.ex0 (hs _)) (Lf.keep (hs _) _))) ⟨rfl,rfl⟩
def Cx1 (p:List Ch×Int×Int):DVal:= .tuple [dCl p.1,dI p.2.1,dI p.2.2]
set_option maxHeartbeats 4000000 in
theorem Cj2 (hG:GX G) (H:Ac) (hl:l.length<=800000) (E:Cg l):Ag Tryz.prog G 304 [Bl l] H (Ax (Cx1 (Jo l)) H):=by
 have ha:=fun r=>Fb5 (r:=r) hG hl;refine Ab Tryz.func304 Tryz.call304 rfl (by kernel_rfl) ?_;simp(disch:=omega)only[go_sem];refine(Cw1 hG H hl 319 ((Al0 l).mp dCl) (Cf Af7) ?_ ?_).mono ?_
 ·intro v k e;cases hc:Al0 l with
  | bot=>rw[hc] at e;cases e
  | fail k=>rw[hc] at e;cases e
  | ok x k=>rw[hc] at e;cases e;exact⟨rfl,rfl⟩
 ·intro r H hr;exact Ci6 hG hl (Dx l) (fun m _=>(ha r m).choice) H 0 hr (by omega) (Cf Af7)
 ·rintro _ H1 ⟨rfl,rfl⟩;have C:=Fc9 (l:=l);have D:=Cb8 E;unfold Jo;cases hres:Al0 l with
  | bot=>exact absurd hres Af7
  | fail k=>
   simp(disch:=omega)only[go_sem,Fb7,Res.mp];exact Mh.fin (Sub.refl _) (Mh.tuple (.cons (Mh.nil (Sub.refl _)) (Lf.keep (Sub.refl _) _))) ⟨rfl,rfl⟩
  | ok x k=>
   rw[hres] at D C;obtain⟨hb,hok⟩:=D x k rfl;have hk:=C.2;simp(disch:=omega)only[go_sem,Fb7,Res.mp];refine(Ob hG _ x (by omega) hok).mono ?_;rintro _ H2 ⟨rfl,rfl⟩;cases hm:Kq x with
   | true=>
    simp(disch:=omega)only[go_sem];exact Fa.refl ⟨rfl,rfl⟩
   | false=>
    simp(disch:=omega)only[go_sem];exact Mh.fin (Sub.refl _) (Mh.tuple (.cons (Mh.nil (Sub.refl _)) (Lf.keep (Sub.refl _) _))) ⟨rfl,rfl⟩
end
def WAt (B:Ac) (r:Nat) (ts:List Tok) (H:Ac):Prop:= ∃v,Jw (upd B r (some (.cells [v] 241))) 31 4 ts.length (ts.flatMap Cq) v H
def WrC (P:Program) (G:Nat->DVal) (f:FuncId) (args:List DVal) (t:List Tok):Prop:=
 ∀B r ts H,B r=none->ts.length+t.length<=1000000000->WAt B r ts H->Ag P G f (.optr r 0::args) H (fun e H'=>e= .ret (.tuple [])/\WAt B r (ts++t) H')
section
variable {B B1 H H':Ac} {r x:Nat} {ts:List Tok}
theorem WAt.keep (h:WAt B r ts H) {o:DObj} (hx:B x=some o) (n:x≠r):H x=some o:=by
 obtain⟨v,h⟩:=h;exact h.keep (by rw[Am _ _ _ _ n];exact hx)
theorem WAt.lo (h:WAt B r ts H) (hx:H x=none):B x=none/\x≠r:=by
 obtain⟨v,h⟩:=h;have:=h.sub.lo hx;simp only[upd] at this;split at this
 ·cases this
 ·exact⟨this,‹_›⟩
theorem WAt.frame (h:WAt B r ts H) (hx:H x=none) (o:DObj):WAt (upd B x (some o)) r ts (upd H x (some o)):=by
 have n:=(h.lo hx).2;obtain⟨v,h⟩:=h;refine⟨v, ?_⟩;rw[Aa7 n.symm];exact h.frame hx o
theorem WAt.less (h:WAt B r ts H) (s:Sub B1 B):WAt B1 r ts H:=by
 obtain⟨v,h⟩:=h;exact⟨v,h.less (s.both r _)⟩
theorem WAt.drop {o:DObj} (h:WAt (upd B x (some o)) r ts H) (hx:B x=none):WAt B r ts H:=h.less ((Sub.refl B).new hx _)
end
section
variable {G:Nat->DVal} {H:Ac}
theorem Hq (ts:List Tok) (t:Tok):(ts++ [t]).flatMap Cq=ts.flatMap Cq++Cq t:=by simp
set_option maxHeartbeats 4000000 in
theorem Mk (hG:GX G) (ws:List (List UInt8)):WrC Tryz.prog G 258 [dW ws] (ws.map Ah):=by
 intro B r ts H hB ai hw;rw[jK] at ai;refine Ab Tryz.func258 Tryz.call258 rfl (by kernel_rfl) ?_;simp(disch:=omega)only[go_sem,dW];obtain⟨I,Y⟩: ∃I:Nat->(Nat->DVal)->Ac->Prop,∀j env heap,I j env heap↔(env 0= .optr r 0/\env 7=dW ws/\env 8=dI ws.length/\env 9=dI j/\j<=ws.length/\WAt B r (ts++(ws.take j).map Ah) heap):=⟨_,fun _ _ _=>Iff.rfl⟩;refine Dr7.run I (fun j=>ws.length-j) 0 ((Y _ _ _).2 ?_) ?_
 ·simp(disch:=omega)only[go_sem];(repeat' apply And.intro)<;>(try first | rfl | assumption | omega);simpa using hw
 ·intro j env heap hi;obtain⟨C,D,E,J,hj,aa⟩:=(Y _ _ _).1 hi;by_cases af:j<ws.length
  ·have ab:(j:Int)<(ws.length:Int):=by omega
   have ag:IntKind.i64.wrap ((j:Int)+1)=((j+1:Nat):Int):=by rw[IntKind.wrap_i64];omega
   have ah:(ws.map DVal.str)[j]? =some (.str ws[j]):=by rw[List.getElem?_map,List.getElem?_eq_getElem af];rfl
   have aj:(ws.map DVal.str).length=ws.length:=jK _;have ac:(ws.take (j+1)).map Ah=(ws.take j).map Ah++ [Ah ws[j]]:=by rw[List.take_add_one,List.getElem?_eq_getElem af,Option.toList_some,List.map_append,List.map_singleton]
   obtain⟨s,ak⟩: ∃s,s=ws[j]:=⟨_,rfl⟩;rw[<-ak] at ah ac;simp(disch:=omega)only[go_sem,C,D,E,J,ab,dW,ah,aj,jD];intro r6 Z;dsimp only at Z;simp(disch:=omega)only[go_sem,C,D,E,J];obtain⟨v,hv⟩:=aa;have L:=hv.keep (Aa _ _ _);have M:r≠r6:=Af Z L;have m6:=M.symm;have al:(ts++(ws.take j).map Ah).length<=1000000000:=by rw[jC,jK,List.length_take];omega
   refine(Wp hG _ s).mono ?_;rintro _ H2 ⟨rfl,rfl⟩;cases hkb:Up s with
   | true=>
    have hk:Ah s=⟨2,0,s,0⟩:=by rw[Ah,Ip,hkb];rfl
    simp(disch:=omega)only[go_sem,C,D,E,J];refine Ak (by kernel_rfl) pL1 (by kernel_rfl) ?_;simp(disch:=omega)only[go_sem,C,D,E,J,L,M,m6];intro ad O;dsimp only at O;have U:r≠ad:=Af O (Aj L M);have ae:=U.symm;have V:=(hv.new Z _).new O (some (.cells (Cq (Ah s)) 31));simp(disch:=omega)only[go_sem,C,D,E,J,L,M,m6,U,ae];rw[hk] at V;refine Jw.append (m:=1) V rfl (by omega) fun W H6 S=> ?_;have g6:=S.keep (Aa _ _ _);obtain⟨j1,j2⟩:=S.cell1;simp(disch:=omega)only[go_sem,C,D,E,J,g6,j1,j2];refine⟨j+1,_,Rz.refl _,(Y _ _ _).2 ?_,by omega⟩;simp(disch:=omega)only[go_sem,C,D,E,J,ag];(repeat' apply And.intro)<;>(try first | rfl | assumption | omega);refine⟨W, ?_⟩;have X:=S.at (Aa _ _ _) (some (.cells [W] 241));rw[Gr] at X;rw[ac,<-jO,Hq,hk,jC,jQ];exact X
   | false=>
    have hk:Ah s=⟨4,0,s,0⟩:=by rw[Ah,Ip,hkb];rfl
    simp(disch:=omega)only[go_sem,C,D,E,J];refine Ak (by kernel_rfl) pL1 (by kernel_rfl) ?_;simp(disch:=omega)only[go_sem,C,D,E,J,L,M,m6];intro ad O;dsimp only at O;have U:r≠ad:=Af O (Aj L M);have ae:=U.symm;have V:=(hv.new Z _).new O (some (.cells (Cq (Ah s)) 31));simp(disch:=omega)only[go_sem,C,D,E,J,L,M,m6,U,ae];rw[hk] at V;refine Jw.append (m:=1) V rfl (by omega) fun W H6 S=> ?_;have g6:=S.keep (Aa _ _ _);obtain⟨j1,j2⟩:=S.cell1;simp(disch:=omega)only[go_sem,C,D,E,J,g6,j1,j2];refine⟨j+1,_,Rz.refl _,(Y _ _ _).2 ?_,by omega⟩;simp(disch:=omega)only[go_sem,C,D,E,J,ag];(repeat' apply And.intro)<;>(try first | rfl | assumption | omega);refine⟨W, ?_⟩;have X:=S.at (Aa _ _ _) (some (.cells [W] 241));rw[Gr] at X;rw[ac,<-jO,Hq,hk,jC,jQ];exact X
  ·have:j=ws.length:=by omega
   subst this;have ab: ¬(ws.length:Int)<(ws.length:Int):=by omega
   rw[List.take_length] at aa;simp(disch:=omega)only[go_sem,C,D,E,J,ab];exact Fa.refl ⟨rfl,aa⟩
end
section
variable {G:Nat->DVal} {H B:Ac} {r:Nat} {ts:List Tok}
theorem WAt.ne {x:Nat} (h:WAt B r ts H) (hx:H x=none):r≠x:=fun e=>(h.lo hx).2 e.symm
def WQ (B:Ac) (r:Nat) (ts:List Tok) (e:DEnd) (H':Ac):Prop:=e= .ret (.tuple [])/\WAt B r ts H'
theorem Us (hG:GX G) (s:List UInt8) {q:Nat} (C:H q=none) (D:B r=none) (E:ts.length+1<=1000000000) (hw:WAt B r ts H):Ag Tryz.prog G 258 [.optr r 0, .oslice 1 q 0 1 1] (upd H q (some (.cells [.str s] 9))) (WQ B r (ts++ [Ah s])):=by
 refine Ag.fzA q C ?_;have n:r≠q:=hw.ne C;simp only[fzs,fz,if_neg n,if_pos];exact Mk hG [s] B r ts H D E hw
theorem Gy2 (hG:GX G) (s t:List UInt8) {q:Nat} (C:H q=none) (D:B r=none) (E:ts.length+2<=1000000000) (hw:WAt B r ts H):Ag Tryz.prog G 258 [.optr r 0, .oslice 1 q 0 2 2] (upd H q (some (.cells [.str s, .str t] 9))) (WQ B r (ts++ [Ah s,Ah t])):=by
 refine Ag.fzA q C ?_;have n:r≠q:=hw.ne C;simp only[fzs,fz,if_neg n,if_pos];exact Mk hG [s,t] B r ts H D E hw
theorem Al2 (G:Nat->DVal) (s:List UInt8):WrC Tryz.prog G 259 [.str s] [Dw s]:=by
 intro B r ts H Y M hw;rw[jQ] at M;refine Ab Tryz.func259 Tryz.call259 rfl (by kernel_rfl) ?_;simp(disch:=omega)only[go_sem];obtain⟨v,hv⟩:=hw;have C:=hv.keep (Aa _ _ _);simp(disch:=omega)only[go_sem,C];intro O D;dsimp only at D;have I:r≠O:=Af D C;have S:=I.symm;have U:=hv.new D (some (.cells (Cq (Dw s)) 31));simp(disch:=omega)only[go_sem,C,I,S];refine Jw.append (m:=1) U rfl (by omega) fun J Z E=> ?_;have V:=E.keep (Aa _ _ _);obtain⟨W,X⟩:=E.cell1;simp(disch:=omega)only[go_sem,V,W,X];refine Fa.refl ⟨rfl,J, ?_⟩;have L:=E.at (Aa _ _ _) (some (.cells [J] 241));rw[Gr] at L;rw[Hq,jC,jQ];exact L
end
section
variable {G:Nat->DVal}
set_option maxHeartbeats 4000000 in
theorem Dt (hG:GX G) (e:Ex) (C:Int) (he:WrC Tryz.prog G 187 [.agg (dEx e)] (Ai e)):WrC Tryz.prog G 260 [.agg (dEx e),dI C] (Ar e C):=by
 intro B r ts H X E hw;refine Ab Tryz.func260 Tryz.call260 rfl (by kernel_rfl) ?_;simp(disch:=omega)only[go_sem,DVal.cells];intro D I;dsimp only at I;obtain⟨K,L⟩: ∃K',K'=upd H D (some (.cells (dEx e) 27)):=⟨_,rfl⟩;rw[<-L];have M:K D=some (.cells (dEx e) 27):=by rw[L];exact Aa _ _ _
 have O:WAt (upd B D (some (.cells (dEx e) 27))) r ts K:=by rw[L];exact hw.frame I _
 have S:r≠D:=hw.ne I;have U:B D=none:=(hw.lo I).1;have J:upd B D (some (.cells (dEx e) 27)) r=none:=by rw[Am _ _ _ _ S];exact X
 simp(disch:=omega)only[go_sem,M];refine(Yc G K e).mono ?_;rintro _ Z ⟨rfl,rfl⟩;by_cases c:Aq e<C
 ·have c': ¬C<=Aq e:=by omega
  have hp:Ar e C=Ah Bf::(Ai e++ [Ah Bv]):=by rw[Ar,decide_eq_true c];rfl
  rw[hp] at E⊢
  simp only[jA,jC,jB] at E;simp(disch:=omega)only[go_sem,c'];intro q1 V;dsimp only at V;simp(disch:=omega)only[go_sem];refine(Us hG Bf V J (by omega) O).mono ?_;rintro _ H1 ⟨rfl,h1⟩;have Y:=h1.keep (Aa _ _ _) S.symm;simp(disch:=omega)only[go_sem,Y];refine(he _ r _ _ J (by simp;omega) h1).mono ?_;rintro _ H2 ⟨rfl,h2⟩;simp(disch:=omega)only[go_sem];intro q2 W;dsimp only at W;simp(disch:=omega)only[go_sem];refine(Us hG Bv W J (by simp;omega) h2).mono ?_;rintro _ H3 ⟨rfl,h3⟩;simp(disch:=omega)only[go_sem];refine Fa.refl ⟨rfl, ?_⟩;have:=h3.drop U;simpa using this
 ·have c':C<=Aq e:=by omega
  have hp:Ar e C=Ai e:=by rw[Ar,decide_eq_false c];rfl
  rw[hp] at E⊢
  simp(disch:=omega)only[go_sem,c',M];refine(he _ r _ _ J E O).mono ?_;rintro _ H1 ⟨rfl,h1⟩;simp(disch:=omega)only[go_sem];exact Fa.refl ⟨rfl,h1.drop U⟩
end
end Go.Dl
-- S9
namespace Go.Dl
open Go
set_option maxRecDepth 10000
mutual
/-- Without lines, entities, types. -/
def stE:Ex->Ex
 | .mk k o n s l a _ _ _=> .mk k o n s (stL l) (Bp8 a) 0 0 0
def stL:List Ex->List Ex
 | []=> []
 | x::l=>stE x::stL l
def stA:As->As
 | .mk c e=> .mk (Bp9 c) (stE e)
def Bp8:List As->List As
 | []=> []
 | x::l=>stA x::Bp8 l
def stC:Ch->Ch
 | .mk k l=> .mk k (stL l)
def Bp9:List Ch->List Ch
 | []=> []
 | x::l=>stC x::Bp9 l
end
theorem Ar2: ∀l:List Ex,stL l=l.map stE
 | []=>rfl
 | x::l=>by rw[stL,Ar2 l,jN]
theorem Bq0: ∀l:List As,Bp8 l=l.map stA
 | []=>rfl
 | x::l=>by rw[Bp8,Bq0 l,jN]
theorem Ac3: ∀l:List Ch,Bp9 l=l.map stC
 | []=>rfl
 | x::l=>by rw[Bp9,Ac3 l,jN]
theorem Km (e:Ex):(stE e).kind=e.kind:=by cases e;rfl
theorem Fd0 (e:Ex):(stE e).oper=e.oper:=by cases e;rfl
theorem Gt9 (e:Ex):(stE e).n=e.n:=by cases e;rfl
theorem Gu0 (e:Ex):(stE e).s=e.s:=by cases e;rfl
theorem Cx2 (e:Ex):(stE e).l=e.l.map stE:=by cases e;exact Ar2 _
theorem Gd5 (e:Ex):(stE e).a=e.a.map stA:=by cases e;exact Bq0 _
theorem Ww (e:Ex):(stE e).line=0:=by cases e;rfl
theorem Bq1 (x:As):(stA x).c=x.c.map stC:=by cases x;exact Ac3 _
theorem Gd6 (x:As):(stA x).e=stE x.e:=by cases x;rfl
theorem Ar3 (c:Ch):(stC c).kind=c.kind:=by cases c;rfl
theorem Dv5 (c:Ch):(stC c).l=c.l.map stE:=by cases c;exact Ar2 _
theorem Ff (e:Ex):stE e= .mk e.kind e.oper e.n e.s (e.l.map stE) (e.a.map stA) 0 0 0:=by cases e;rw[stE,Ar2,Bq0];rfl
theorem Al3 (x:As):stA x= .mk (x.c.map stC) (stE x.e):=by cases x;rw[stA,Ac3];rfl
theorem Bq2 (c:Ch):stC c= .mk c.kind (c.l.map stE):=by cases c;rw[stC,Ar2];rfl
mutual
theorem Uc: ∀e f:Ex,Fw e f=true↔stE e=stE f
 | .mk k o n s l a li en t, .mk k' o' n' s' l' a' li' en' t'=>by
  rw[Fw,stE,stE]
  show(decide (k=k')&&decide (o=o')&&decide (n=n')&&decide (s=s')&&Me l l'&&Og a a')=true↔_
  simp only[jF,decide_eq_true_eq,Bq3 l l',Cb9 a a',Ex.mk.injEq,and_true,and_assoc]
theorem Bq3: ∀l m:List Ex,Me l m=true↔stL l=stL m
 | [],[]=>by simp [Me,stL]
 | [],y::m=>by simp [Me,stL]
 | x::l,[]=>by simp [Me,stL]
 | x::l,y::m=>by rw[Me,stL,stL,jF,Uc x y,Bq3 l m,List.cons.injEq]
theorem Fd1: ∀x y:As,Bc8 x y=true↔stA x=stA y
 | .mk c e, .mk c' e'=>by
  rw[Bc8,stA,stA]
  show(Kx c c'&&Fw e e')=true↔_
  simp only[jF,Az4 c c',Uc e e',As.mk.injEq]
theorem Cb9: ∀l m:List As,Og l m=true↔Bp8 l=Bp8 m
 | [],[]=>by simp [Og,Bp8]
 | [],y::m=>by simp [Og,Bp8]
 | x::l,[]=>by simp [Og,Bp8]
 | x::l,y::m=>by rw[Og,Bp8,Bp8,jF,Fd1 x y,Cb9 l m,List.cons.injEq]
theorem Fd2: ∀x y:Ch,Bc9 x y=true↔stC x=stC y
 | .mk k l, .mk k' l'=>by
  rw[Bc9,stC,stC]
  show(decide (k=k')&&Me l l')=true↔_
  simp only[jF,decide_eq_true_eq,Bq3 l l',Ch.mk.injEq]
theorem Az4: ∀l m:List Ch,Kx l m=true↔Bp9 l=Bp9 m
 | [],[]=>by simp [Kx,Bp9]
 | [],y::m=>by simp [Kx,Bp9]
 | x::l,[]=>by simp [Kx,Bp9]
 | x::l,y::m=>by rw[Kx,Bp9,Bp9,jF,Fd2 x y,Az4 l m,List.cons.injEq]
end
theorem Ar4 (e:Ex):Bu (stE e)=Bu e:=by rw[Bu,Bu,Km]
theorem Az5 (l:List Ex) (i:Nat):(l.map stE).getD i ex0=stE (l.getD i ex0):=by
 rw[List.getD,List.getD,List.getElem?_map];cases l[i]? <;>rfl
theorem Ow {α β:Type} (f:α->β) (l:List α):(l.map f).isEmpty=l.isEmpty:=by cases l<;>rfl
theorem Ej6 (e:Ex) (k:Nat):Kk (stE e) k=Kk e k:=by
 rw[Kk,Kk,Cx2,jK,Az5,Ar4]
theorem Bq4: ∀l:List As,Ty (l.map stA)=Ty l
 | []=>rfl
 | [_]=>rfl
 | a::b::r=>by
  have:=Bq4 (b::r);rw[jN] at this;rw[jN,jN,Ty,Ty,this,Bq1,Bq1,Ow,Ow]
theorem Cx3 (l:List Ch):Et (l.map stC)=Et l:=by
 match l with
 | []=>rfl
 | [.mk k []]=>rfl
 | [.mk k [x]]=>show(decide _&&decide ((stE x).kind=3))=_;rw[Km];rfl
 | [.mk k (x::y::r)]=>rfl
 | c::d::r=>rfl
theorem Ej7 (n:Nat) (c:Ch):Fs n (stC c)=Fs n c:=by simp only[Fs,Ar3,Dv5,jK]
theorem all_map {α β:Type} (f:α->β) (p:β->Bool) (l:List α):(l.map f).all p=l.all fun x=>p (f x):=by rw[List.all_map];rfl
theorem Bq5 (l:List Ch):Dr (l.map stC)=Dr l:=by
 simp only[Dr,jK,all_map,Ej7]
theorem Ej8 (l:List As):Of (l.map stA)=Of l:=by
 simp only[Of,jK,Bq4,all_map,Bq1,Ow,Cx3]
theorem Bq6 (l:List Ch):Oo (l.map stC)=Oo l:=by
 cases l with
 | nil=>rfl
 | cons c r=>simp only[jN,Oo,Ar3]
theorem Bd3: ∀l:List As,Hy (l.map stA)=Hy l
 | []=>rfl
 | a::r=>by simp only[jN,Hy,Bd3 r,Bq1,Ow,Bq5,Bq6]
theorem Bq7 (l:List As):Vk (l.map stA)=Vk l:=by
 match l with
 | []=>rfl
 | [a]=>show(stA a).c.isEmpty=_;rw[Bq1,Ow];rfl
 | _::_::_=>rfl
theorem Cx4 (l:List As):Ji (l.map stA)=Ji l:=by
 simp only[Ji,jK,Bq4,Bq7,Bd3]
theorem Ej9 (e:Ex):Bg (stE e)=Bg e:=by
 simp only[Bg,zO,zN,zS,zA,Ej6,Km,Fd0,Gt9,Gu0,Cx2,Gd5,Ow,jK,Ej8,Cx4,Az5,Ar4]
theorem Yi {α β γ:Type} (f:α->β) (g:β->List γ) (l:List α):(l.map f).flatMap g=l.flatMap fun x=>g (f x):=by
 induction l with
 | nil=>rfl
 | cons x l ih=>rw[jN,List.flatMap_cons,List.flatMap_cons,ih]
theorem Ek0 (x:As):Fc (stA x)=(Fc x).map stE:=by
 rw[Fc,Fc,Bq1,Gd6,Yi,List.map_append,List.map_flatMap,List.map_singleton];congr 1;simp only[Dv5]
theorem Cx5 (e:Ex):parts (stE e)=(parts e).map stE:=by
 rw[parts,parts,Cx2,Gd5,Yi,List.map_append,List.map_flatMap];simp only[Ek0]
theorem Cj3 (e:Ex):Hx (stE e)=Hx e:=by
 refine Ex.ind (p:=fun e=>Hx (stE e)=Hx e) (fun e ih=> ?_) e;rw[Tb,Tb e,Cx5,Py,Py,List.map_map];congr 2;exact List.map_congr_left ih
theorem Fd3 (e:Ex): ∀d,Fd d (stE e)=Fd d e:=by
 refine Ex.ind (p:=fun e=> ∀d,Fd d (stE e)=Fd d e) (fun e ih d=> ?_) e;rw[Qt,Qt d e,Ej9,Cx5,all_map];congr 1;rw[Bool.eq_iff_iff,List.all_eq_true,List.all_eq_true];exact⟨fun h x hx=>by rw[<-ih x hx];exact h x hx,fun h x hx=>by rw[ih x hx];exact h x hx⟩
theorem Cj4 (e:Ex):Ci (stE e)=Ci e:=by rw[Ci,Ci,Fd3,Cj3]
theorem Lh {e f:Ex} (h:stE e=stE f):Ci e=Ci f:=by rw[<-Cj4 e,h,Cj4]
def stT (t:Tok):Tok:=⟨t.kind,0,t.text,t.n⟩
section
variable {l:List Tok}
theorem Bd4 (k:Nat):tk (l.map stT) k=stT (tk l k):=by
 rw[tk,tk,List.getD,List.getD,List.getElem?_map];cases l[k]? <;>rfl
theorem Ud (k:Nat):(tk (l.map stT) k).kind=(tk l k).kind:=by rw[Bd4];rfl
theorem Yj (k:Nat):(tk (l.map stT) k).text=(tk l k).text:=by rw[Bd4];rfl
theorem Fw5 (k:Nat):(tk (l.map stT) k).n=(tk l k).n:=by rw[Bd4];rfl
theorem Ky (k:Nat):(tk (l.map stT) k).line=0:=by rw[Bd4];rfl
theorem Nl: ∀(ws:List (List UInt8)) (k:Nat),isW (l.map stT) k ws=isW l k ws
 | [],_=>rfl
 | s::r,k=>by rw[isW,isW,Ud,Yj,Nl r]
theorem Ac4 (want k:Nat): ∀os:List Nat,opF (l.map stT) want k os=opF l want k os
 | []=>rfl
 | o::r=>by rw[opF,opF,Nl,Ac4 want k r]
def Nt {α β:Type} (f:α->β):Res α->Res β->Prop
 | .bot,r=>r= .bot
 | .fail k,r=>r= .fail k
 | .ok x k,r=>r= .ok (f x) k
theorem Df {α α' β β':Type} {f:α->α'} {g:β->β'} {r:Res α} {C:Res α'} {F:α->Nat->Res β} {D:α'->Nat->Res β'} (h:Nt f r C) (k: ∀x j,Nt g (F x j) (D (f x) j)):Nt g (r.then F) (C.then D):=by
 cases r with
 | bot=>cases h;exact rfl
 | fail j=>cases h;exact rfl
 | ok x j=>cases h;exact k x j
theorem Ea {α β:Type} {f:α->β} {c:Prop} [Decidable c] {a b:Res α} {C D:Res β} (h:Nt f a C) (k:Nt f b D):Nt f (if c then a else b) (if c then C else D):=by
 split
 ·exact h
 ·exact k
theorem Li {α β:Type} {f:α->β} {x:α} {y:β} {k:Nat} (h:y=f x):Nt f (.ok x k) (.ok y k):=by rw[h];exact rfl
theorem Oc {α β:Type} {f:α->β} {k:Nat}:Nt f (.fail k) (.fail k):=rfl
theorem Bh0 (o:Nat) (x y:Ex):stE (both o x y)=both o (stE x) (stE y):=by
 simp only[Ff (both o x y),both,Ww];rfl
theorem Dv6 (o:Nat) (li:Int) (x:Ex):stE (Nw o li x)=Nw o 0 (stE x):=by
 unfold Nw;split
 ·rfl
 ·rw[Ff];rfl
theorem Fw6 (li:Int) (az:List As):stE (Bm8 li az)=Bm8 0 (az.map stA):=by
 match az with
 | []=>rfl
 | [x]=>
  show stE (if x.c= [] then x.e else _)=if(stA x).c= [] then(stA x).e else _
  rw[Bq1,Gd6]
  by_cases c:x.c= []
  ·rw[if_pos c,if_pos (by rw[c];rfl)]
  ·rw[if_neg c,if_neg (by simpa using c),Ff];rfl
 | x::y::r=>show stE (.mk 9 0 0 [] [] _ li 0 0)=_;rw[Ff];rfl
structure PS.Nat (p q:PS):Prop where
 expr: ∀k,Nt stE (p.expr k) (q.expr k)
 rest: ∀x k,Nt stE (p.rest x k) (q.rest (stE x) k)
 restL: ∀o x k,Nt stE (p.restL o x k) (q.restL o (stE x) k)
 relation: ∀x k,Nt stE (p.relation x k) (q.relation (stE x) k)
 simple: ∀k,Nt stE (p.simple k) (q.simple k)
 addL: ∀x k,Nt stE (p.addL x k) (q.addL (stE x) k)
 term: ∀k,Nt stE (p.term k) (q.term k)
 mulL: ∀x k,Nt stE (p.mulL x k) (q.mulL (stE x) k)
 factor: ∀k,Nt stE (p.factor k) (q.factor k)
 primary: ∀k,Nt stE (p.primary k) (q.primary k)
 paren: ∀k,Nt stE (p.paren k) (q.paren k)
 assoc: ∀k,Nt stA (p.assoc k) (q.assoc k)
 assocsL: ∀a k,Nt (List.map stA) (p.assocsL a k) (q.assocsL (a.map stA) k)
 choice: ∀k,Nt stC (p.choice k) (q.choice k)
 choicesL: ∀a k,Nt (List.map stC) (p.choicesL a k) (q.choicesL (a.map stC) k)
 arg: ∀k,Nt stA (p.arg k) (q.arg k)
 argsL: ∀a k,Nt (List.map stA) (p.argsL a k) (q.argsL (a.map stA) k)
 name: ∀k,Nt stE (p.name k) (q.name k)
 nameL: ∀i x k,Nt stE (p.nameL i x k) (q.nameL 0 (stE x) k)
theorem Dv7 {p q:PS} (h:p.Nat q) (x:Ex) (kind:Int) (k:Nat):Nt stE (inK l x kind k p) (inK (l.map stT) (stE x) kind k q):=by
 unfold inK;simp only[Nl];refine Df (h.simple _) fun y j=> ?_;simp only[Ar4];exact Ea (Df (h.simple _) fun z i=>Li (by rw[Ww,Ff (.mk _ _ _ _ _ _ _ _ _)];rfl)) (Ea (Li (by rw[Ww,Ff (.mk _ _ _ _ _ _ _ _ _)];rfl)) Oc)
theorem Ek1 {p q:PS} (h:p.Nat q):(Be l p).Nat (Be (l.map stT) q) where
 expr k:=Df (h.simple k) fun x k=>h.rest x k
 rest x k:=Df (h.relation x k) fun x k=>by simp only[Ac4];exact h.restL _ x k
 restL o x k:=by
  dsimp only[Be];simp only[Ac4]
  exact Ea (Li rfl) (Ea (Li rfl) (Df (h.simple _) fun y k=>Df (h.relation y k) fun y k=>by rw[<-Bh0];exact h.restL _ _ k))
 relation x k:=by
  dsimp only[Be];simp only[Ac4,Nl]
  exact Ea (Df (h.simple _) fun y k=>Li (Bh0 _ _ _).symm) (Ea (Dv7 h _ _ _) (Ea (Dv7 h _ _ _) (Li rfl)))
 simple k:=by
  dsimp only[Be];simp only[Ac4,Ky]
  exact Df (h.term _) fun x k'=>by rw[<-Dv6 _ (tk l k).line];exact h.addL _ _
 addL x k:=by
  dsimp only[Be];simp only[Ac4]
  exact Ea (Li rfl) (Df (h.term _) fun y k=>by rw[<-Bh0];exact h.addL _ _)
 term k:=Df (h.factor k) fun x k=>h.mulL x k
 mulL x k:=by
  dsimp only[Be];simp only[Ac4]
  exact Ea (Li rfl) (Df (h.factor _) fun y k=>by rw[<-Bh0];exact h.mulL _ _)
 factor k:=by
  dsimp only[Be];simp only[Ac4,Ky]
  exact Df (h.primary _) fun x k'=>Li (Dv6 _ _ _).symm
 primary k:=by
  dsimp only[Be];simp only[Nl,Ud,Fw5,Ky]
  exact Ea (Li (by rw[Ff (.mk _ _ _ _ _ _ _ _ _)];rfl)) (Ea (Li (by rw[Ff (.mk _ _ _ _ _ _ _ _ _)];rfl)) (Ea (h.paren k) (h.name k)))
 paren k:=by
  dsimp only[Be,must];simp only[Nl,Ky]
  refine Ea (Ea (Df (h.expr _) fun a k=>Ea (Df (h.expr _) fun b k=>Ea (Df (h.expr _) fun c k=>Ea (Li (by rw[Ff (.mk _ _ _ _ _ _ _ _ _)];rfl)) Oc) Oc) Oc) ?_) Oc
  exact Df (h.assoc _) fun a k=>Df (h.assocsL [a] k) fun az k=>Ea (Li (Fw6 _ _).symm) Oc
 assoc k:=by
  dsimp only[Be,must];simp only[Nl]
  refine Df (h.choice k) fun c k=> ?_
  rw[Ar3,Dv5,Az5]
  exact Ea (Li (by rw[Al3 (.mk _ _)];rfl)) (Ea (Ea (Df (h.expr _) fun e k=>Li (by rw[Al3 (.mk _ _)];rfl)) Oc) (Df (h.choicesL [c] k) fun cs k=>Ea (Df (h.expr _) fun e k=>Li (by rw[Al3 (.mk _ _)];rfl)) Oc))
 assocsL az k:=by
  dsimp only[Be];simp only[Nl]
  exact Ea (Df (h.assoc _) fun a k=>by
   have:=h.assocsL (az++ [a]) k
   rw[List.map_append] at this;exact this) (Li rfl)
 choice k:=by
  dsimp only[Be];simp only[Nl]
  exact Ea (Li (by rw[Bq2 (.mk _ _)];rfl)) (Df (h.simple k) fun x k=>Ea (Df (h.simple _) fun y k=>Li (by rw[Bq2 (.mk _ _)];rfl)) (Df (h.rest x k) fun y k=>Li (by rw[Bq2 (.mk _ _)];rfl)))
 choicesL az k:=by
  dsimp only[Be];simp only[Nl]
  exact Ea (Df (h.choice _) fun a k=>by
   have:=h.choicesL (az++ [a]) k
   rw[List.map_append] at this;exact this) (Li rfl)
 arg k:=by
  dsimp only[Be];simp only[Nl,Ud,Yj,Ky]
  exact Ea (Df (h.expr _) fun e k=>Li (by rw[Al3 (.mk _ _)];rfl)) (Df (h.expr _) fun e k=>Li (by rw[Al3 (.mk _ _)];rfl))
 argsL az k:=by
  dsimp only[Be];simp only[Nl]
  exact Ea (Df (h.arg _) fun a k=>by
   have:=h.argsL (az++ [a]) k
   rw[List.map_append] at this;exact this) (Li rfl)
 name k:=by
  dsimp only[Be,Ka];simp only[Ud,Yj,Ky]
  refine Ea ?_ Oc
  have:=h.nameL (tk l k).line (.mk 3 0 0 (tk l k).text [] [] (tk l k).line 0 0) (k+1)
  rw[Ff (.mk _ _ _ _ _ _ _ _ _)] at this
  exact this
 nameL i x k:=by
  have hn: ∀y z j,stE y=z->Nt stE (p.nameL i y j) (q.nameL 0 z j):=fun y z j e=>by rw[<-e];exact h.nameL i y j
  dsimp only[Be,Ka,must];simp only[Nl,Ud,Yj]
  refine Ea (hn _ _ _ (by rw[Ff (.mk _ _ _ _ _ _ _ _ _)];rfl)) (Ea (Ea (hn _ _ _ (by rw[Ff (.mk _ _ _ _ _ _ _ _ _)];rfl)) Oc) (Ea ?_ (Ea ?_ (Ea (Ea (hn _ _ _ (by rw[Ff (.mk _ _ _ _ _ _ _ _ _)];rfl)) Oc) (Li rfl)))))
  ·exact Df (h.arg _) fun a k=>Df (h.argsL [a] k) fun az k=>Ea (hn _ _ _ (by rw[Ff (.mk _ _ _ _ _ _ _ _ _)];rfl)) Oc
  ·exact Df (h.paren _) fun y k=>hn _ _ _ (by rw[Ff (.mk _ _ _ _ _ _ _ _ _)];rfl)
theorem Gd7: ∀m,(P l m).Nat (P (l.map stT) m)
 | 0=>by constructor<;>intros<;>exact rfl
 | m+1=>Ek1 (Gd7 m)
theorem Gd8:(Q l).Nat (Q (l.map stT)):=by
 have:=Gd7 (l:=l) (Dx l);rw[Q,Q,Dx,Dx,jK];exact this
end
theorem Bq8 {α β γ:Type} (r:Res α) (f:α->Nat->Res β) (g:β->Nat->Res γ):(r.then f).then g=r.then fun x k=>(f x k).then g:=by cases r<;>rfl
def w5:List (List UInt8):= [Jj,Bf,Hz]
def w3:List (List UInt8):=w5++ [[42],[47],Gs3,Gs4]
def w2:List (List UInt8):=w3++ [[43],[45]]
def w2d:List (List UInt8):=w2++ [Ef]
def w1:List (List UInt8):=w2d++ [[61],[47,61],[60],[60,61],[62],[62,61],wIn,Vz]
def w0:List (List UInt8):=w1++ [Cu0,wOr,Fu7]
def nof (ws:List (List UInt8)) (t:Tok):Prop:= ∀s∈ws,¬(t.kind=Ip s/\t.text=s)
instance (ws:List (List UInt8)) (t:Tok):Decidable (nof ws t):=inferInstanceAs (Decidable (∀s∈ws,¬(t.kind=Ip s/\t.text=s)))
theorem Gb {ws C:List (List UInt8)} {t:Tok} (h:nof ws t) (hs: ∀s∈C,s∈ws):nof C t:=fun s m=>h s (hs s m)
theorem Gu1 (ws:List (List UInt8)):nof ws Ap9:=fun s _ h=>Bm9 s h.1.symm
class Rdr (l:outParam (List Tok)) (p:PS):Prop where
 fix:p.Fix l
 adv:p.Adv l
instance (l:List Tok):Rdr l (Q l):=⟨Gt7,Fb9⟩
theorem Wx {ws:List (List UInt8)} {t:Tok} (h:t.kind=1\/t.kind=3):nof ws t:=fun s _ e=>by
 have:=Ei9 (s:=s);rcases h with h | h
 ·rw[h] at e;exact this.1 e.1.symm
 ·rw[h] at e;exact this.2.1 e.1.symm
section
variable {l:List Tok} {k k':Nat} {s:List UInt8}
theorem Gw {t:List UInt8} (h:isW l k [t]=false) (r:List (List UInt8)):isW l k (t::r)=false:=by
 rw[Bp1] at h;rw[isW,h];rfl
theorem He {ws:List (List UInt8)} (h:nof ws (tk l k)) (hs:s∈ws) (r:List (List UInt8)):isW l k (s::r)=false:=by
 refine Gw ?_ r;have:=h s hs;rw[Bp1];by_cases C:(tk l k).kind=Ip s
 ·by_cases D:(tk l k).text=s
  ·exact absurd ⟨C,D⟩ this
  ·rw[decide_eq_false D,Bool.and_false]
 ·rw[decide_eq_false C,jT]
theorem Bh1 {ws:List (List UInt8)} {os:List Nat} {want:Nat} (h:nof ws (tk l k)) (C:(os.all fun o=>(Ay o).head?.any fun s=>decide (s∈ws))=true):opF l want k os=(0,k):=by
 refine Bp2 fun o hm=> ?_;have:=List.all_eq_true.1 C o hm;cases hw:Ay o with
 | nil=>rw[hw] at this;simp at this
 | cons s r=>
  rw[hw] at this;exact He h (by simpa using this) r
theorem Kn (h:isW l k [s]=true):(tk l k).kind≠1/\(tk l k).kind≠3/\k<l.length:=by
 rw[Bp1,jF,decide_eq_true_eq,decide_eq_true_eq] at h;rw[h.1];exact⟨Ei9.1,Ei9.2.1,Oq (by rw[h.1];exact Bm9 s)⟩
theorem Af8 {os:List Nat} {want:Nat} (h:isW l k [s]=true) (C:(os.all fun o=>(Ay o).head?.any fun t=>decide (s≠t))=true):opF l want k os=(0,k):=by
 refine Bp2 fun o hm=> ?_;have:=List.all_eq_true.1 C o hm;cases hw:Ay o with
 | nil=>rw[hw] at this;simp at this
 | cons t r=>
  rw[hw] at this;exact Gw (Gk h (by simpa using this)) r
variable {p:PS} [hr:Rdr l p]
theorem Dl5 (hk:k<=l.length):p.expr k=(p.simple k).then fun x k=>p.rest x k:=hr.fix.expr k hk
theorem Fd4 (x:Ex) (hk:k<=l.length):p.rest x k=(p.relation x k).then fun x k=>p.restL (opF l 0 k Em).1 x k:=hr.fix.rest x k hk
theorem Cj5 (o:Nat) (x:Ex) (hk:k<=l.length):p.restL o x k=if o=0 then .ok x k else if(opF l o k Em).1=0 then .ok x k else(p.simple (opF l o k Em).2).then fun y k=>(p.relation y k).then fun y k=>p.restL o (both o x y) k:=hr.fix.restL o x k hk
theorem Ue (x:Ex) (hk:k<=l.length):p.relation x k=if(opF l 0 k Mf).1≠0 then(p.simple (opF l 0 k Mf).2).then fun y j=> .ok (both (opF l 0 k Mf).1 x y) j else if isW l k [wIn] then inK l x 13 (k+1) p else if isW l k [Vz,wIn] then inK l x 14 (k+2) p else .ok x k:=hr.fix.relation x k hk
theorem Bq9 (hk:k<=l.length):p.simple k=(p.term (opF l 0 k Fq).2).then fun x k'=>p.addL (Nw (opF l 0 k Fq).1 (tk l k).line x) k':=hr.fix.simple k hk
theorem Fd5 (x:Ex) (hk:k<=l.length):p.addL x k=if(opF l 0 k Tz).1=0 then .ok x k else(p.term (opF l 0 k Tz).2).then fun y j=>p.addL (both (opF l 0 k Tz).1 x y) j:=hr.fix.addL x k hk
theorem Fd6 (hk:k<=l.length):p.term k=(p.factor k).then fun x k=>p.mulL x k:=hr.fix.term k hk
theorem Fd7 (x:Ex) (hk:k<=l.length):p.mulL x k=if(opF l 0 k Ua).1=0 then .ok x k else(p.factor (opF l 0 k Ua).2).then fun y j=>p.mulL (both (opF l 0 k Ua).1 x y) j:=hr.fix.mulL x k hk
theorem Br0 (hk:k<=l.length):p.factor k=(p.primary (opF l 0 k It).2).then fun x k'=> .ok (Nw (opF l 0 k It).1 (tk l k).line x) k':=hr.fix.factor k hk
theorem Wy (hk:k<=l.length):p.primary k=if(tk l k).kind=3 then .ok (.mk 1 0 (tk l k).n [] [] [] (tk l k).line 0 0) (k+1) else if isW l k [Fm] then .ok (.mk 2 0 0 [] [] [] (tk l k).line 0 0) (k+1) else if isW l k [Bf] then p.paren k else p.name k:=hr.fix.primary k hk
theorem Dv8 (hk:k<=l.length):p.paren k=must l Bf k fun k1=>
  if isW l k1 [wIf] then(p.expr (k1+1)).then fun a k=>must l Pk k fun k=>(p.expr k).then fun b k=>must l Qc k fun k=>(p.expr k).then fun c k'=>must l Bv k' fun k'=> .ok (.mk 10 0 0 [] [a,b,c] [] (tk l (k1-1)).line 0 0) k'
  else(p.assoc k1).then fun a k=>(p.assocsL [a] k).then fun az k=>must l Bv k fun k=> .ok (Bm8 (tk l (k1-1)).line az) k:=hr.fix.paren k hk
theorem Cj6 (hk:k<=l.length):p.assoc k=(p.choice k).then fun c k=>
  if c.kind=1/\isW l k [Gg]=false/\isW l k [By]=false then .ok (.mk [] (c.l.getD 0 ex0)) k
  else if c.kind=3 then must l By k fun k=>(p.expr k).then fun e k=> .ok (.mk [c] e) k
  else(p.choicesL [c] k).then fun cs k=>must l By k fun k=>(p.expr k).then fun e k=> .ok (.mk cs e) k:=hr.fix.assoc k hk
theorem Cc0 (az:List As) (hk:k<=l.length):p.assocsL az k=if isW l k [Ee] then(p.assoc (k+1)).then fun a k=>p.assocsL (az++ [a]) k else .ok az k:=hr.fix.assocsL az k hk
theorem Ar5 (hk:k<=l.length):p.choice k=if isW l k [Lt] then .ok (.mk 3 []) (k+1) else
  (p.simple k).then fun x k=>if isW l k [Ef] then(p.simple (k+1)).then fun y k=> .ok (.mk 2 [x,y]) k
   else(p.rest x k).then fun x k=> .ok (.mk 1 [x]) k:=hr.fix.choice k hk
theorem Br1 (cs:List Ch) (hk:k<=l.length):p.choicesL cs k=if isW l k [Gg] then(p.choice (k+1)).then fun c k=>p.choicesL (cs++ [c]) k else .ok cs k:=hr.fix.choicesL cs k hk
theorem Gd9 (hk:k<=l.length):p.arg k=if(tk l k).kind=1/\isW l (k+1) [By]=true then(p.expr (k+2)).then fun e k'=> .ok (.mk [.mk 1 [.mk 3 0 0 (tk l k).text [] [] (tk l k).line 0 0]] e) k'
  else(p.expr k).then fun e k=> .ok (.mk [] e) k:=hr.fix.arg k hk
theorem Fw7 (az:List As) (hk:k<=l.length):p.argsL az k=if isW l k [Ee] then(p.arg (k+1)).then fun a k=>p.argsL (az++ [a]) k else .ok az k:=hr.fix.argsL az k hk
theorem Cj7 (hk:k<=l.length):p.name k=Ka l k fun s k1=>p.nameL (tk l k).line (.mk 3 0 0 s [] [] (tk l k).line 0 0) k1:=hr.fix.name k hk
theorem Af9 (line:Int) (x:Ex) (hk:k<=l.length):p.nameL line x k=if isW l k [Jj,Zo] then p.nameL line (.mk 5 0 0 [] [x] [] line 0 0) (k+2)
  else if isW l k [Jj] then Ka l (k+1) fun s k=>p.nameL line (.mk 4 0 0 s [x] [] line 0 0) k
  else if isW l k [Bf] then(p.arg (k+1)).then fun a k=>(p.argsL [a] k).then fun az k=>must l Bv k fun k=>p.nameL line (.mk 7 0 0 [] [x] az line 0 0) k
  else if isW l k [Hz,Bf] then(p.paren (k+1)).then fun y k=>p.nameL line (.mk 8 0 0 [] [x,y] [] line 0 0) k
  else if isW l k [Hz] then Ka l (k+1) fun s k=>p.nameL line (.mk 6 0 0 s [x] [] line 0 0) k
  else .ok x k:=hr.fix.nameL line x k hk
def Az6:List (List UInt8):= [Fm,Bf,Eh1,Vz,[43],[45]]
theorem Az7 (h:isW l k [s]=true) (h1:s≠Fm) (h2:s≠Bf):p.primary k= .fail k:=by
 obtain⟨a,b,c⟩:=Kn h;have hk:k<=l.length:=by omega
 rw[Wy hk,if_neg b,Gk h h1,Gk h h2,if_neg (by simp),if_neg (by simp),Cj7 hk,Ka,if_neg a]
theorem Fd8 (h:isW l k [s]=true) (h1:s≠Fm) (h2:s≠Bf) (h3:s≠Eh1) (C:s≠Vz):p.factor k= .fail k:=by
 obtain⟨a,b,c⟩:=Kn h;have hk:k<=l.length:=by omega
 rw[Br0 hk,Af8 h (by simp [It,show Ay 21= [Vz] from rfl,show Ay 20= [Eh1] from rfl,h3,C]),Az7 h h1 h2];rfl
theorem Az8 (h:isW l k [s]=true) (h1:s≠Fm) (h2:s≠Bf) (h3:s≠Eh1) (C:s≠Vz):p.term k= .fail k:=by
 obtain⟨a,b,c⟩:=Kn h;rw[Fd6 (by omega),Fd8 h h1 h2 h3 C];rfl
theorem Ac5 (h:isW l k [s]=true) (hs:s∉Az6):p.simple k= .fail k:=by
 simp only[Az6,List.mem_cons,List.not_mem_nil,or_false,not_or] at hs;obtain⟨h1,h2,h3,h4,h5,h6⟩:=hs;obtain⟨a,b,c⟩:=Kn h;rw[Bq9 (by omega),Af8 h (by simp [Fq,show Ay 19= [[45]] from rfl,show Ay 18= [[43]] from rfl,h5,h6]),Az8 h h1 h2 h3 h4];rfl
theorem Ek2 (h:isW l k [s]=true) (hs:s∉Az6):p.expr k= .fail k:=by
 obtain⟨a,b,c⟩:=Kn h;rw[Dl5 (by omega),Ac5 h hs];rfl
theorem Az9 {y:Ex} (h:p.simple k= .ok y k') (hs:s∉Az6):isW l k [s]=false:=by
 cases c:isW l k [s] with
 | false=>rfl
 | true=>rw[Ac5 c hs] at h;cases h
theorem Fw8 {y:Ex} (h:p.expr k= .ok y k') (hs:s∉Az6):isW l k [s]=false:=by
 cases c:isW l k [s] with
 | false=>rfl
 | true=>rw[Ek2 c hs] at h;cases h
theorem Ba0 {i:Int} {x:Ex} (hk:k<=l.length) (h:nof w5 (tk l k)):p.nameL i x k= .ok x k:=by
 rw[Af9 i x hk,He h (by decide),He h (by decide),He h (by decide),He h (by decide),He h (by decide)];rfl
theorem Ag0 {x:Ex} (hk:k<=l.length) (h:nof w3 (tk l k)):p.mulL x k= .ok x k:=by
 rw[Fd7 x hk,Bh1 h (by decide)];rfl
theorem Th {x:Ex} (hk:k<=l.length) (h:nof w2 (tk l k)):p.addL x k= .ok x k:=by
 rw[Fd5 x hk,Bh1 h (by decide)];rfl
theorem Fd9 {x:Ex} (hk:k<=l.length) (h:nof w1 (tk l k)):p.relation x k= .ok x k:=by
 rw[Ue x hk,Bh1 h (by decide),He h (by decide),He h (by decide)];rfl
theorem Dl6 {x:Ex} (hk:k<=l.length):p.restL 0 x k= .ok x k:=by rw[Cj5 0 x hk];rfl
theorem Al4 {o:Nat} {x:Ex} (hk:k<=l.length) (h:nof w0 (tk l k)):p.restL o x k= .ok x k:=by
 rw[Cj5 o x hk,Bh1 h (by decide)];simp
theorem Ml {x:Ex} (hk:k<=l.length) (h:p.primary k= .ok x k'):p.factor k= .ok x k':=by
 by_cases c:(opF l 0 k It).1=0
 ·have:=(Cy (want:=0) Gx7.2.2.2.2.2 hk).1 c;rw[Br0 hk,c,this,h];rfl
 ·exfalso;obtain⟨h1,h2,h3⟩:=Ri c;rcases Dv3 h1 with e | e
  ·rw[e] at h3;rw[Az7 (s:=Eh1) h3 (by decide) (by decide)] at h;cases h
  ·rw[e] at h3;rw[Az7 (s:=Vz) h3 (by decide) (by decide)] at h;cases h
theorem Mm {x:Ex} (hk:k<=l.length) (h:p.factor k= .ok x k'):p.term k=p.mulL x k':=by rw[Fd6 hk,h];rfl
theorem Kz {x:Ex} (hk:k<=l.length) (C:k'<=l.length) (h:p.term k=p.mulL x k') (D:nof w3 (tk l k')):p.simple k=p.addL x k':=by
 rw[Ag0 C D] at h;by_cases c:(opF l 0 k Fq).1=0
 ·have:=(Cy (want:=0) Gx7.2.2.1 hk).1 c;rw[Bq9 hk,c,this,h];rfl
 ·exfalso;obtain⟨h1,h2,h3⟩:=Ri c;rcases Cw5 h1 with e | e
  ·rw[e] at h3;rw[Az8 (s:= [43]) h3 (by decide) (by decide) (by decide) (by decide)] at h;cases h
  ·rw[e] at h3;rw[Az8 (s:= [45]) h3 (by decide) (by decide) (by decide) (by decide)] at h;cases h
def Ba1 (p:PS) (k:Nat):Res Ex:=(p.simple k).then fun x k=>p.relation x k
theorem Ox {x:Ex} (C:k'<=l.length) (h:p.simple k=p.addL x k') (D:nof w1 (tk l k')):Ba1 p k= .ok x k':=by
 rw[Ba1,h,Th C (Gb D (by decide))];exact Fd9 C D
theorem Br2 (hk:k<=l.length):p.expr k=(Ba1 p k).then fun x k=>p.restL (opF l 0 k Em).1 x k:=by
 rw[Dl5 hk,Ba1,Bq8];have ha:=hr.adv.simple k hk;cases c:p.simple k with
 | bot=>rfl
 | fail j=>rfl
 | ok x j=>
  rw[c] at ha;exact Fd4 x ha.2
theorem Ek3 {x y:Ex} {j:Nat} (D:j<=l.length) (C:isW l j [Ef]=true) (h:p.rest x j= .ok y k'):k'=j:=by
 have e1:opF l 0 j Mf=(0,j):=Af8 C (by decide);have E:opF l 0 j Em=(0,j):=Af8 C (by decide);have I:isW l j [wIn]=false:=Gk C (by decide);have J:isW l j [Vz,wIn]=false:=Gw (Gk C (by decide)) _;have L:p.relation x j= .ok x j:=by rw[Ue x D,e1,I,J];rfl
 rw[Fd4 x D,L] at h;change p.restL (opF l 0 j Em).1 x j=_ at h;rw[E,Dl6 D] at h;cases h;rfl
theorem Bd5 {y:Ex} (hk:k<=l.length) (h:p.expr k= .ok y k') (C:isW l k' [Ef]=false):p.choice k= .ok (.mk 1 [y]) k':=by
 rw[Ar5 hk,Fw8 h (s:=Lt) (by decide)];rw[Dl5 hk] at h;have ha:=hr.adv.simple k hk;cases c:p.simple k with
 | bot=>rw[c] at h;cases h
 | fail j=>rw[c] at h;cases h
 | ok x j=>
  rw[c] at h ha;change p.rest x j=_ at h;show(if isW l j [Ef] then _ else _)=_;cases cd:isW l j [Ef] with
  | true=>rw[Ek3 ha.2 cd h,cd] at C;cases C
  | false=>
   show(p.rest x j).then _=_
   rw[h];rfl
theorem Br3 {y:Ex} (hk:k<=l.length) (h:p.expr k= .ok y k') (C:isW l k' [Ef]=false) (hb:isW l k' [Gg]=false) (ha:isW l k' [By]=false):p.assoc k= .ok (.mk [] y) k':=by
 rw[Cj6 hk,Bd5 hk h C];show(if _ then _ else _)=_;rw[if_pos ⟨rfl,hb,ha⟩];rfl
theorem Fe0 {x:As} (h:p.assoc k= .ok x k') (hs:s∉Az6) (C:s≠Lt):isW l k [s]=false:=by
 cases c:isW l k [s] with
 | false=>rfl
 | true=>
  have hk:k<=l.length:=by have:=(Kn c).2.2;omega
  rw[Cj6 hk,Ar5 hk,Gk c C,Ac5 c hs] at h;cases h
theorem Ar6 {a:As} {az:List As} {j C:Nat} (h0:isW l k [Bf]=true) (h1:p.assoc (k+1)= .ok a j) (h2:p.assocsL [a] j= .ok az C) (h3:isW l C [Bv]=true):p.paren k= .ok (Bm8 (tk l k).line az) (C+1):=by
 have hk:k<=l.length:=by have:=(Kn h0).2.2;omega
 rw[Dv8 hk,must,if_pos h0,Fe0 h1 (s:=wIf) (by decide) (by decide),if_neg (by simp),h1];show(p.assocsL [a] j).then _=_
 rw[h2];show must l Bv C _=_;rw[must,if_pos h3,Nat.add_sub_cancel]
theorem Fw9 (h:isW l k [Bv]=true):isW l k [Ef]=false/\isW l k [Gg]=false/\isW l k [By]=false/\isW l k [Ee]=false:=⟨Gk h (by decide),Gk h (by decide),Gk h (by decide),Gk h (by decide)⟩
theorem Br4 {y:Ex} (h0:isW l k [Bf]=true) (h1:p.expr (k+1)= .ok y k') (h3:isW l k' [Bv]=true):p.paren k= .ok y (k'+1):=by
 obtain⟨a,b,c,d⟩:=Fw9 h3;have hk:k<l.length:=(Kn h0).2.2;have C:k'<l.length:=(Kn h3).2.2;rw[Ar6 (a:= .mk [] y) (az:= [.mk [] y]) h0 (Br3 (by omega) h1 a b c) (by rw[Cc0 _ (by omega),d];rfl) h3];rfl
theorem Al5 (h0:isW l k [Bf]=true):p.primary k=p.paren k:=by
 obtain⟨a,b,c⟩:=Kn h0;rw[Wy (by omega),if_neg b,Gk h0 (t:=Fm) (by decide),h0];rfl
theorem Cc1 (hk:k<=l.length) (h:(tk l k).kind=1):p.primary k=p.name k:=by
 have hn:nof [Fm,Bf] (tk l k):=Wx (.inl h);rw[Wy hk,if_neg (by rw[h];decide),He hn (by decide),He hn (by decide)];rfl
theorem Dl7 {y:Ex} (h:p.expr k= .ok y k') (h1:(tk l k).kind=1) (h2:isW l (k+1) [By]=true):k'=k+1:=by
 have hk:k<l.length:=Oq (by rw[h1];decide);have hn: ∀ws,(∀s∈ws,s≠By)->nof ws (tk l (k+1)):=fun ws hs s hm ⟨e1,C⟩=>by
  rw[Bp1,jF,decide_eq_true_eq,decide_eq_true_eq] at h2;exact hs s hm (C.symm.trans h2.2)
 have hp:p.primary k= .ok (.mk 3 0 0 (tk l k).text [] [] (tk l k).line 0 0) (k+1):=by
  rw[Cc1 (by omega) h1,Cj7 (by omega),Ka,if_pos h1,Ba0 (by omega) (hn _ (by decide))]
 have hr:=Ox (by omega) (Kz (by omega) (by omega) (Mm (by omega) (Ml (by omega) hp)) (hn _ (by decide))) (hn _ (by decide));rw[Br2 (by omega),hr] at h;change p.restL _ _ (k+1)=_ at h;rw[Al4 (by omega) (hn _ (by decide))] at h;cases h;rfl
theorem Fe1 {y:Ex} (hk:k<=l.length) (h:p.expr k= .ok y k') (ha:isW l k' [By]=false):p.arg k= .ok (.mk [] y) k':=by
 rw[Gd9 hk,if_neg,h]
 ·rfl
 ·rintro⟨h1,h2⟩;rw[Dl7 h h1 h2,h2] at ha;cases ha
end
def At (l:List Tok) (k:Nat) (ts:List Tok):Prop:=k<=l.length/\ts<+:l.drop k
section
variable {l:List Tok} {k k':Nat} {s:List UInt8} {p:PS} [hr:Rdr l p]
theorem At.le {ts:List Tok} (h:At l k ts):k+ts.length<=l.length:=by
 have:=h.2.length_le;rw[List.length_drop] at this;have:=h.1;omega
theorem At.left {a b:List Tok} (h:At l k (a++b)):At l k a:=⟨h.1,(List.prefix_append a b).trans h.2⟩
theorem At.right {a b:List Tok} (h:At l k (a++b)):At l (k+a.length) b:=by
 obtain⟨r,hr⟩:=h.2;have:=h.le;rw[jC] at this;refine⟨by omega,r, ?_⟩;rw[<-List.drop_drop,<-hr,jO,List.drop_left]
theorem At.head {t:Tok} {ts:List Tok} (h:At l k (t::ts)):tk l k=t/\k<l.length:=by
 obtain⟨r,hr⟩:=h.2;have hl:=h.le;rw[jA] at hl;have hk:k<l.length:=by omega
 refine⟨?_,hk⟩;have:(l.drop k)[0]? =some t:=by rw[<-hr];rfl
 rw[List.getElem?_drop,Nat.add_zero] at this;rw[tk,List.getD,this];rfl
theorem At.tail {t:Tok} {ts:List Tok} (h:At l k (t::ts)):At l (k+1) ts:=At.right (a:= [t]) h
theorem At.word {ts:List Tok} (h:At l k (Ah s::ts)):isW l k [s]=true:=by
 rw[Bp1,h.head.1];simp [Ah]
theorem At.words: ∀ {ws:List (List UInt8)} {k:Nat} {ts:List Tok},At l k (ws.map Ah++ts)->isW l k ws=true
 | [],_,_,_=>rfl
 | s::r,k,ts,h=>by
  have h1:=At.word (s:=s) h;have h2:=At.words (ws:=r) (At.tail h);rw[Bp1] at h1;rw[isW,h1,h2];rfl
theorem Al6 {want o:Nat} (hw:isW l k (Ay o)=true) (C:want=0\/want=o): ∀ {pre post:List Nat},(∀p∈pre,isW l k (Ay p)=false)->opF l want k (pre++o::post)=(o,k+(Ay o).length)
 | [],post,_=>by
  rw[jG,opF,if_pos hw,if_neg];rintro⟨h1,h2⟩;rcases C with h | h
  ·exact h1 h
  ·exact h2 h.symm
 | p::pre,post,h=>by
  rw[jI,opF,h p (by simp)];exact Al6 hw C fun q hq=>h q (by simp [hq])
theorem Kr {o:Nat} {s t:List UInt8} {r:List (List UInt8)} (h:isW l k [s]=true) (e:Ay o=t::r) (hs:s≠t):isW l k (Ay o)=false:=by
 rw[e];exact Gw (Gk h hs) r
theorem Cx6 {want o:Nat} {os:List Nat} {ts:List Tok} (D:(o∈Mf/\os=Mf)\/(o∈Fq/\os=Fq)\/(o∈Tz/\os=Tz)\/(o∈Ua/\os=Ua)\/(o∈It/\os=It))
  (h:At l k ((Ay o).map Ah++ts)) (E:want=0\/want=o):opF l want k os=(o,k+(Ay o).length)/\(Ay o).length=1:=by
 have hw:=At.words h;have key: ∀(pre post:List Nat) (s:List UInt8),os=pre++o::post->Ay o= [s]->(pre.all fun p=>(Ay p).head?.any fun t=>decide (s≠t))=true->opF l want k os=(o,k+(Ay o).length)/\(Ay o).length=1:=fun pre post s e1 C I=>by
  rw[e1];refine⟨Al6 hw E fun p hp=> ?_,by rw[C];rfl⟩;have:=List.all_eq_true.1 I p hp;rw[C] at hw;cases hp2:Ay p with
  | nil=>rw[hp2] at this;simp at this
  | cons t r=>
   rw[hp2] at this;exact Gw (Gk hw (by simpa using this)) r
 rcases D with⟨h1,rfl⟩ | ⟨h1,rfl⟩ | ⟨h1,rfl⟩ | ⟨h1,rfl⟩ | ⟨h1,rfl⟩
 ·simp only[Mf,List.mem_cons,List.not_mem_nil,or_false] at h1;rcases h1 with rfl | rfl | rfl | rfl | rfl | rfl
  ·exact key [] [11,10,9,8,7] _ rfl rfl (by decide)
  ·exact key [12] [10,9,8,7] _ rfl rfl (by decide)
  ·exact key [12,11] [9,8,7] _ rfl rfl (by decide)
  ·exact key [12,11,10] [8,7] _ rfl rfl (by decide)
  ·exact key [12,11,10,9] [7] _ rfl rfl (by decide)
  ·exact key [12,11,10,9,8] [] _ rfl rfl (by decide)
 ·simp only[Fq,List.mem_cons,List.not_mem_nil,or_false] at h1;rcases h1 with rfl | rfl
  ·exact key [] [18] _ rfl rfl (by decide)
  ·exact key [19] [] _ rfl rfl (by decide)
 ·simp only[Tz,List.mem_cons,List.not_mem_nil,or_false] at h1;rcases h1 with rfl | rfl
  ·exact key [] [1] _ rfl rfl (by decide)
  ·exact key [2] [] _ rfl rfl (by decide)
 ·simp only[Ua,List.mem_cons,List.not_mem_nil,or_false] at h1;rcases h1 with rfl | rfl | rfl | rfl
  ·exact key [] [5,4,3] _ rfl rfl (by decide)
  ·exact key [6] [4,3] _ rfl rfl (by decide)
  ·exact key [6,5] [3] _ rfl rfl (by decide)
  ·exact key [6,5,4] [] _ rfl rfl (by decide)
 ·simp only[It,List.mem_cons,List.not_mem_nil,or_false] at h1;rcases h1 with rfl | rfl
  ·exact key [] [20] _ rfl rfl (by decide)
  ·exact key [21] [] _ rfl rfl (by decide)
theorem Gl8 {want o:Nat} {ts:List Tok} {y:Ex} {j:Nat} (D:o∈Em) (h:At l k ((Ay o).map Ah++ts)) (C:want=0\/want=o) (hs:p.simple (k+(Ay o).length)= .ok y j):opF l want k Em=(o,k+(Ay o).length):=by
 have hw:=At.words h;simp only[Em,List.mem_cons,List.not_mem_nil,or_false] at D;rcases D with rfl | rfl | rfl | rfl | rfl
 ·exact Al6 hw C (pre:= []) (post:= [16,15,14,13]) (by simp)
 ·have h1:isW l k [Cu0]=true:=Fc4 hw rfl;refine Al6 hw C (pre:= [17]) (post:= [15,14,13]) fun p hp=> ?_;simp only[List.mem_cons,List.not_mem_nil,or_false] at hp;subst hp;exact Kr h1 rfl (by decide)
 ·refine Al6 hw C (pre:= [17,16]) (post:= [14,13]) fun p hp=> ?_;simp only[List.mem_cons,List.not_mem_nil,or_false] at hp;rcases hp with rfl | rfl
  ·exact Kr (s:=Fu7) hw rfl (by decide)
  ·exact Kr (s:=Fu7) hw rfl (by decide)
 ·have h3:isW l (k+1) [Qc]=false:=Az9 hs (by decide);refine Al6 hw C (pre:= [17,16,15]) (post:= [13]) fun p hp=> ?_;simp only[List.mem_cons,List.not_mem_nil,or_false] at hp;rcases hp with rfl | rfl | rfl
  ·show isW l k [wOr,Qc]=false;rw[Fc3,h3,Bool.and_false]
  ·exact Kr (s:=wOr) hw rfl (by decide)
  ·exact Kr (s:=wOr) hw rfl (by decide)
 ·have h3:isW l (k+1) [Pk]=false:=Az9 hs (by decide);refine Al6 hw C (pre:= [17,16,15,14]) (post:= []) fun p hp=> ?_;simp only[List.mem_cons,List.not_mem_nil,or_false] at hp;rcases hp with rfl | rfl | rfl | rfl
  ·exact Kr (s:=Cu0) hw rfl (by decide)
  ·show isW l k [Cu0,Pk]=false;rw[Fc3,h3,Bool.and_false]
  ·exact Kr (s:=Cu0) hw rfl (by decide)
  ·exact Kr (s:=Cu0) hw rfl (by decide)
theorem lv5 {e:Ex} (h:1<=e.kind/\e.kind<=10):Aq e=5:=by unfold Aq;rw[if_neg (by omega),if_neg (by omega),if_neg (by omega)]
theorem Ac6 {e:Ex} {n:Int} (h:Aq e=n) (C:n≠5):Nd e.kind=true->False:=fun c=>C (h.symm.trans (lv5 (by rw[Nd,Bool.or_eq_true,decide_eq_true_eq,decide_eq_true_eq] at c;omega)))
structure Rd (l:List Tok) (p:PS) (e:Ex) (k k':Nat):Prop where
 le:k<=l.length/\k'<=l.length
 name:Bu e=true->p.name k=p.nameL 0 (stE e) k'
 bare:Nd e.kind=true->p.paren k= .ok (stE e) k'
 prim:Aq e=5->nof w5 (tk l k')->p.primary k= .ok (stE e) k'
 fac:4<=Aq e->nof w5 (tk l k')->p.factor k= .ok (stE e) k'
 term:3<=Aq e->nof w5 (tk l k')->p.term k=p.mulL (stE e) k'
 simp:2<=Aq e->nof w3 (tk l k')->p.simple k=p.addL (stE e) k'
 rel:1<=Aq e->nof w2d (tk l k')->(Aq e≠1->nof w1 (tk l k'))->Ba1 p k= .ok (stE e) k'
 exp:Aq e=0->nof w1 (tk l k')->p.expr k=p.restL e.oper.toNat (stE e) k'
theorem s53 {t:Tok} (h:nof w3 t):nof w5 t:=Gb h (by decide)
theorem s31 {t:Tok} (h:nof w1 t):nof w3 t:=Gb h (by decide)
theorem s32 {t:Tok} (h:nof w2 t):nof w3 t:=Gb h (by decide)
theorem s2d {t:Tok} (h:nof w2d t):nof w2 t:=Gb h (by decide)
theorem sd1 {t:Tok} (h:nof w1 t):nof w2d t:=Gb h (by decide)
theorem s10 {t:Tok} (h:nof w0 t):nof w1 t:=Gb h (by decide)
theorem Wz {e:Ex} {n:Int} (h:Aq e=n) (C:n≠5):Bu e=true->False:=fun c=>C (h.symm.trans (Rs c))
theorem Rd.of1 {e:Ex} (hk:k<=l.length/\k'<=l.length) (hl:Aq e=1) (h:nof w2d (tk l k')->Ba1 p k= .ok (stE e) k'):Rd l p e k k':=
 ⟨hk,fun c=>(Wz hl (by decide) c).elim,fun c=>(Ac6 hl (by decide) c).elim,fun c=>by omega,fun c=>by omega,fun c=>by omega,fun c=>by omega,fun _ a _=>h a,fun c=>by omega⟩
theorem Rd.of0 {e:Ex} (hk:k<=l.length/\k'<=l.length) (hl:Aq e=0) (h:nof w1 (tk l k')->p.expr k=p.restL e.oper.toNat (stE e) k'):Rd l p e k k':=
 ⟨hk,fun c=>(Wz hl (by decide) c).elim,fun c=>(Ac6 hl (by decide) c).elim,fun c=>by omega,fun c=>by omega,fun c=>by omega,fun c=>by omega,fun c=>by omega,fun _=>h⟩
theorem Rd.of2 {e:Ex} (hk:k<=l.length/\k'<=l.length) (hl:Aq e=2) (h:nof w3 (tk l k')->p.simple k=p.addL (stE e) k'):Rd l p e k k':=
 ⟨hk,fun c=>(Wz hl (by decide) c).elim,fun c=>(Ac6 hl (by decide) c).elim,fun c=>by omega,fun c=>by omega,fun c=>by omega,fun _=>h,fun _ _ a=>Ox hk.2 (h (s31 (a (by omega)))) (a (by omega)),fun c=>by omega⟩
theorem Rd.of3 {e:Ex} (hk:k<=l.length/\k'<=l.length) (hl:Aq e=3) (h:nof w5 (tk l k')->p.term k=p.mulL (stE e) k'):Rd l p e k k':=
 have h2:nof w3 (tk l k')->p.simple k=p.addL (stE e) k':=fun a=>Kz hk.1 hk.2 (h (s53 a)) a
 ⟨hk,fun c=>(Wz hl (by decide) c).elim,fun c=>(Ac6 hl (by decide) c).elim,fun c=>by omega,fun c=>by omega,fun _=>h,fun _=>h2,fun _ _ a=>Ox hk.2 (h2 (s31 (a (by omega)))) (a (by omega)),fun c=>by omega⟩
theorem Rd.of4 {e:Ex} (hk:k<=l.length/\k'<=l.length) (hl:Aq e=4) (h:nof w5 (tk l k')->p.factor k= .ok (stE e) k'):Rd l p e k k':=
 have h3:nof w5 (tk l k')->p.term k=p.mulL (stE e) k':=fun a=>Mm hk.1 (h a)
 have h2:nof w3 (tk l k')->p.simple k=p.addL (stE e) k':=fun a=>Kz hk.1 hk.2 (h3 (s53 a)) a
 ⟨hk,fun c=>(Wz hl (by decide) c).elim,fun c=>(Ac6 hl (by decide) c).elim,fun c=>by omega,fun _=>h,fun _=>h3,fun _=>h2,fun _ _ a=>Ox hk.2 (h2 (s31 (a (by omega)))) (a (by omega)),fun c=>by omega⟩
theorem Rd.of5 {e:Ex} (hk:k<=l.length/\k'<=l.length) (hl:Aq e=5) (C:Bu e=true->p.name k=p.nameL 0 (stE e) k') (hb:Nd e.kind=true->p.paren k= .ok (stE e) k') (h:nof w5 (tk l k')->p.primary k= .ok (stE e) k'):Rd l p e k k':=
 have h4:nof w5 (tk l k')->p.factor k= .ok (stE e) k':=fun a=>Ml hk.1 (h a)
 have h3:nof w5 (tk l k')->p.term k=p.mulL (stE e) k':=fun a=>Mm hk.1 (h4 a)
 have h2:nof w3 (tk l k')->p.simple k=p.addL (stE e) k':=fun a=>Kz hk.1 hk.2 (h3 (s53 a)) a
 ⟨hk,C,hb,fun _=>h,fun _=>h4,fun _=>h3,fun _=>h2,fun _ _ a=>Ox hk.2 (h2 (s31 (a (by omega)))) (a (by omega)),fun c=>by omega⟩
theorem Rd.ofName {e:Ex} (hk:k<=l.length/\k'<=l.length) (hl:Bu e=true) (C:p.name k=p.nameL 0 (stE e) k'):Rd l p e k k':=
 .of5 hk (Rs hl) (fun _=>C) (fun c=>by
  rw[Nd,Bool.or_eq_true,decide_eq_true_eq,decide_eq_true_eq] at c;rw[Bu,jF,decide_eq_true_eq,decide_eq_true_eq] at hl;omega) fun a=>by
  rw[Ba0 hk.2 a] at C;have:(tk l k).kind=1:=by
   rw[Cj7 hk.1,Ka] at C;split at C
   ·assumption
   ·cases C
  rw[Cc1 hk.1 this,C]
theorem Rd.full {e:Ex} (r:Rd l p e k k') (h:nof w0 (tk l k')):p.expr k= .ok (stE e) k':=by
 have hg:=(Pp e).1;by_cases c:Aq e=0
 ·rw[r.exp c (s10 h),Al4 r.le.2 h]
 ·rw[Br2 r.le.1,r.rel (by omega) (sd1 (s10 h)) fun _=>s10 h];exact Al4 r.le.2 h
def RT (l:List Tok) (p:PS) (e:Ex):Prop:= ∀k,At l k (Ai e)->Rd l p e k (k+(Ai e).length)
theorem Xa {e:Ex} {C:Int} (R:RT l p e) (h:At l k (Ar e C)) (D:k'=k+(Ar e C).length):(Aq e<C/\p.primary k= .ok (stE e) k')\/(C<=Aq e/\Rd l p e k k'):=by
 subst D;unfold Ar at h⊢
 by_cases c:Aq e<C
 ·refine .inl ⟨c, ?_⟩;rw[decide_eq_true c] at h⊢
  have h1:At l (k+1) (Ai e++ [Ah Bv]):=At.tail h;have h2:=h1.right;have hs:=At.word h2;have r:=R _ h1.left;have he:=r.full (by rw[h2.head.1];decide+kernel);rw[Al5 (At.word h),Br4 (At.word h) he hs];simp only[Wb,if_true,jA,jC,jB];congr 1;omega
 ·refine .inr ⟨by omega, ?_⟩;rw[decide_eq_false c] at h⊢
  exact R _ h
section
variable {e:Ex} (R:RT l p e)
include R
theorem Gu2 (h:At l k (Ar e 5)) (C:k'=k+(Ar e 5).length) (D:nof w5 (tk l k')):p.primary k= .ok (stE e) k':=by
 rcases Xa R h C with⟨_,h1⟩ | ⟨h1,r⟩
 ·exact h1
 ·exact r.prim (by have:=(Pp e).2;omega) D
theorem Gu3 (h:At l k (Ar e 4)) (C:k'=k+(Ar e 4).length) (D:nof w5 (tk l k')):p.factor k= .ok (stE e) k':=by
 rcases Xa R h C with⟨_,h1⟩ | ⟨h1,r⟩
 ·exact Ml h.1 h1
 ·exact r.fac h1 D
theorem Fe2 (h:At l k (Ar e 3)) (C:k'=k+(Ar e 3).length) (D:nof w5 (tk l k')):p.term k=p.mulL (stE e) k':=by
 rcases Xa R h C with⟨_,h1⟩ | ⟨h1,r⟩
 ·exact Mm h.1 (Ml h.1 h1)
 ·exact r.term h1 D
theorem Ge0 (h:At l k (Ar e 2)) (D:k'=k+(Ar e 2).length) (C:nof w3 (tk l k')):p.simple k=p.addL (stE e) k':=by
 rcases Xa R h D with⟨_,h1⟩ | ⟨h1,r⟩
 ·exact Kz h.1 (by have:=h.le;omega) (Mm h.1 (Ml h.1 h1)) C
 ·exact r.simp h1 C
theorem Ac7 (h:At l k (Ar e 2)) (D:k'=k+(Ar e 2).length) (C:nof w2 (tk l k')):p.simple k= .ok (stE e) k':=by
 rw[Ge0 R h D (s32 C),Th (by have:=h.le;omega) C]
theorem Ge1 (h:At l k (Ar e 1)) (E:k'=k+(Ar e 1).length) (C:nof w1 (tk l k')):Ba1 p k= .ok (stE e) k':=by
 rcases Xa R h E with⟨_,h1⟩ | ⟨h1,r⟩
 ·have D:k'<=l.length:=by have:=h.le;omega
  exact Ox D (Kz h.1 D (Mm h.1 (Ml h.1 h1)) (s31 C)) C
 ·exact r.rel h1 (sd1 C) fun _=>C
end
end
end Go.Dl
