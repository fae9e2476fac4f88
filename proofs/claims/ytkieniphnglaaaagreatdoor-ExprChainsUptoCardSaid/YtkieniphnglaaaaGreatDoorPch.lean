/- The data level and the contracts of the functions that are reached (part 8). -/
import Derived.Test.YtkieniphnglaaaaGreatDoorPcg
set_option linter.unusedSimpArgs false
set_option linter.unusedVariables false
set_option linter.unusedSectionVars false
-- Chapter 3: expressions: the plain laws, part 10: what reading asks of the first token, and of the one behind.
namespace Go.Dl
open Go
set_option maxRecDepth 10000
theorem Ah1 {α β γ:Type} (r:Res α) (f:α->Nat->Res β) (g:β->Nat->Res γ):(r.then f).then g=r.then fun x k=>(f x k).then g:=by cases r<;>rfl
def w5:List (List UInt8):= [In,Bo,Fl]
def w3:List (List UInt8):=w5++ [[42],[47],Ds8,Ds9]
def w2:List (List UInt8):=w3++ [[43],[45]]
def w2d:List (List UInt8):=w2++ [Ef]
def w1:List (List UInt8):=w2d++ [[61],[47,61],[60],[60,61],[62],[62,61],wIn,Nf]
def w0:List (List UInt8):=w1++ [Ak6,wOr,Ce1]
def nof (ws:List (List UInt8)) (t:Tok):Prop:= ∀s∈ws,¬(t.kind=Jf s/\t.text=s)
instance (ws:List (List UInt8)) (t:Tok):Decidable (nof ws t):=inferInstanceAs (Decidable (∀s∈ws,¬(t.kind=Jf s/\t.text=s)))
theorem Fo {ws ws':List (List UInt8)} {t:Tok} (h:nof ws t) (hs: ∀s∈ws',s∈ws):nof ws' t:=fun s m=>h s (hs s m)
theorem Cv4 (ws:List (List UInt8)):nof ws Wg:=fun s _ h=>Ad6 s h.1.symm
class Rdr (l:outParam (List Tok)) (p:PS):Prop where
 fix:p.Fix l
 adv:p.Adv l
instance (l:List Tok):Rdr l (Q l):=⟨Du2,Dk3⟩
theorem Ah2 {ws:List (List UInt8)} {t:Tok} (h:t.kind=1\/t.kind=3):nof ws t:=fun s _ e=>by
 have:=Cf9 (s:=s);rcases h with h | h
 ·rw[h] at e;exact this.1 e.1.symm
 ·rw[h] at e;exact this.2.1 e.1.symm
section
variable {l:List Tok} {k k':Nat} {s:List UInt8}
theorem Eg {t:List UInt8} (h:isW l k [t]=false) (r:List (List UInt8)):isW l k (t::r)=false:=by
 rw[Af7] at h;rw[isW,h];rfl
theorem Fc {ws:List (List UInt8)} (h:nof ws (tk l k)) (hs:s∈ws) (r:List (List UInt8)):isW l k (s::r)=false:=by
 refine Eg ?_ r;have:=h s hs;rw[Af7];by_cases c1:(tk l k).kind=Jf s
 ·by_cases c2:(tk l k).text=s
  ·exact absurd ⟨c1,c2⟩ this
  ·rw[decide_eq_false c2,Bool.and_false]
 ·rw[decide_eq_false c1,Bool.false_and]
theorem Va {ws:List (List UInt8)} {os:List Nat} {want:Nat} (h:nof ws (tk l k)) (ho:(os.all fun o=>(Al o).head?.any fun s=>decide (s∈ws))=true):opF l want k os=(0,k):=by
 refine Af8 fun o hm=> ?_;have:=List.all_eq_true.1 ho o hm;cases hw:Al o with
 | nil=>rw[hw] at this;simp at this
 | cons s r=>
  rw[hw] at this;exact Fc h (by simpa using this) r
theorem Fw (h:isW l k [s]=true):(tk l k).kind≠1/\(tk l k).kind≠3/\k<l.length:=by
 rw[Af7,Bool.and_eq_true,decide_eq_true_eq,decide_eq_true_eq] at h;rw[h.1];exact⟨Cf9.1,Cf9.2.1,Ks (by rw[h.1];exact Ad6 s)⟩
theorem Rk {os:List Nat} {want:Nat} (h:isW l k [s]=true) (ho:(os.all fun o=>(Al o).head?.any fun t=>decide (s≠t))=true):opF l want k os=(0,k):=by
 refine Af8 fun o hm=> ?_;have:=List.all_eq_true.1 ho o hm;cases hw:Al o with
 | nil=>rw[hw] at this;simp at this
 | cons t r=>
  rw[hw] at this;exact Eg (Dw h (by simpa using this)) r
variable {p:PS} [hr:Rdr l p]
theorem Bp3 (hk:k<=l.length):p.expr k=(p.simple k).then fun x k=>p.rest x k:=hr.fix.expr k hk
theorem Cv5 (x:Ex) (hk:k<=l.length):p.rest x k=(p.relation x k).then fun x k=>p.restL (opF l 0 k Ci).1 x k:=hr.fix.rest x k hk
theorem Vb (o:Nat) (x:Ex) (hk:k<=l.length):p.restL o x k=if o=0 then .ok x k else if(opF l o k Ci).1=0 then .ok x k else(p.simple (opF l o k Ci).2).then fun y k=>(p.relation y k).then fun y k=>p.restL o (both o x y) k:=hr.fix.restL o x k hk
theorem Me (x:Ex) (hk:k<=l.length):p.relation x k=if(opF l 0 k Io).1≠0 then(p.simple (opF l 0 k Io).2).then fun y j=> .ok (both (opF l 0 k Io).1 x y) j else if isW l k [wIn] then inK l x 13 (k+1) p else if isW l k [Nf,wIn] then inK l x 14 (k+2) p else .ok x k:=hr.fix.relation x k hk
theorem Ah3 (hk:k<=l.length):p.simple k=(p.term (opF l 0 k Ej).2).then fun x k'=>p.addL (Kf (opF l 0 k Ej).1 (tk l k).line x) k':=hr.fix.simple k hk
theorem Cv6 (x:Ex) (hk:k<=l.length):p.addL x k=if(opF l 0 k Oq).1=0 then .ok x k else(p.term (opF l 0 k Oq).2).then fun y j=>p.addL (both (opF l 0 k Oq).1 x y) j:=hr.fix.addL x k hk
theorem Cv7 (hk:k<=l.length):p.term k=(p.factor k).then fun x k=>p.mulL x k:=hr.fix.term k hk
theorem Cv8 (x:Ex) (hk:k<=l.length):p.mulL x k=if(opF l 0 k Ot).1=0 then .ok x k else(p.factor (opF l 0 k Ot).2).then fun y j=>p.mulL (both (opF l 0 k Ot).1 x y) j:=hr.fix.mulL x k hk
theorem Ah4 (hk:k<=l.length):p.factor k=(p.primary (opF l 0 k Gp).2).then fun x k'=> .ok (Kf (opF l 0 k Gp).1 (tk l k).line x) k':=hr.fix.factor k hk
theorem Ns (hk:k<=l.length):p.primary k=if(tk l k).kind=3 then .ok (.mk 1 0 (tk l k).n [] [] [] (tk l k).line 0 0) (k+1) else if isW l k [Mz] then .ok (.mk 2 0 0 [] [] [] (tk l k).line 0 0) (k+1) else if isW l k [Bo] then p.paren k else p.name k:=hr.fix.primary k hk
theorem Bv9 (hk:k<=l.length):p.paren k=Da l Bo k fun k1=>
  if isW l k1 [wIf] then(p.expr (k1+1)).then fun a k=>Da l Jm k fun k=>(p.expr k).then fun b k=>Da l Ke k fun k=>(p.expr k).then fun c k'=>Da l Cc k' fun k'=> .ok (.mk 10 0 0 [] [a,b,c] [] (tk l (k1-1)).line 0 0) k'
  else(p.assoc k1).then fun a k=>(p.assocsL [a] k).then fun az k=>Da l Cc k fun k=> .ok (Ad5 (tk l (k1-1)).line az) k:=hr.fix.paren k hk
theorem Au4 (hk:k<=l.length):p.assoc k=(p.choice k).then fun c k=>
  if c.kind=1/\isW l k [Fk]=false/\isW l k [Bc]=false then .ok (.mk [] (c.l.getD 0 ex0)) k
  else if c.kind=3 then Da l Bc k fun k=>(p.expr k).then fun e k=> .ok (.mk [c] e) k
  else(p.choicesL [c] k).then fun cs k=>Da l Bc k fun k=>(p.expr k).then fun e k=> .ok (.mk cs e) k:=hr.fix.assoc k hk
theorem Ao8 (az:List As) (hk:k<=l.length):p.assocsL az k=if isW l k [Gx] then(p.assoc (k+1)).then fun a k=>p.assocsL (az++ [a]) k else .ok az k:=hr.fix.assocsL az k hk
theorem Vc (hk:k<=l.length):p.choice k=if isW l k [Gr] then .ok (.mk 3 []) (k+1) else
  (p.simple k).then fun x k=>if isW l k [Ef] then(p.simple (k+1)).then fun y k=> .ok (.mk 2 [x,y]) k
   else(p.rest x k).then fun x k=> .ok (.mk 1 [x]) k:=hr.fix.choice k hk
theorem Bp4 (cs:List Ch) (hk:k<=l.length):p.choicesL cs k=if isW l k [Fk] then(p.choice (k+1)).then fun c k=>p.choicesL (cs++ [c]) k else .ok cs k:=hr.fix.choicesL cs k hk
theorem Dk9 (hk:k<=l.length):p.arg k=if(tk l k).kind=1/\isW l (k+1) [Bc]=true then(p.expr (k+2)).then fun e k'=> .ok (.mk [.mk 1 [.mk 3 0 0 (tk l k).text [] [] (tk l k).line 0 0]] e) k'
  else(p.expr k).then fun e k=> .ok (.mk [] e) k:=hr.fix.arg k hk
theorem Dg5 (az:List As) (hk:k<=l.length):p.argsL az k=if isW l k [Gx] then(p.arg (k+1)).then fun a k=>p.argsL (az++ [a]) k else .ok az k:=hr.fix.argsL az k hk
theorem Au5 (hk:k<=l.length):p.name k=Fq l k fun s k1=>p.nameL (tk l k).line (.mk 3 0 0 s [] [] (tk l k).line 0 0) k1:=hr.fix.name k hk
theorem Rl (line:Int) (x:Ex) (hk:k<=l.length):p.nameL line x k=if isW l k [In,Qi] then p.nameL line (.mk 5 0 0 [] [x] [] line 0 0) (k+2)
  else if isW l k [In] then Fq l (k+1) fun s k=>p.nameL line (.mk 4 0 0 s [x] [] line 0 0) k
  else if isW l k [Bo] then(p.arg (k+1)).then fun a k=>(p.argsL [a] k).then fun az k=>Da l Cc k fun k=>p.nameL line (.mk 7 0 0 [] [x] az line 0 0) k
  else if isW l k [Fl,Bo] then(p.paren (k+1)).then fun y k=>p.nameL line (.mk 8 0 0 [] [x,y] [] line 0 0) k
  else if isW l k [Fl] then Fq l (k+1) fun s k=>p.nameL line (.mk 6 0 0 s [x] [] line 0 0) k
  else .ok x k:=hr.fix.nameL line x k hk
def Xc:List (List UInt8):= [Mz,Bo,Ce2,Nf,[43],[45]]
theorem Xd (h:isW l k [s]=true) (h1:s≠Mz) (h2:s≠Bo):p.primary k= .fail k:=by
 obtain⟨a,b,c⟩:=Fw h;have hk:k<=l.length:=by omega
 rw[Ns hk,if_neg b,Dw h h1,Dw h h2,if_neg (by simp),if_neg (by simp),Au5 hk,Fq,if_neg a]
theorem Cv9 (h:isW l k [s]=true) (h1:s≠Mz) (h2:s≠Bo) (h3:s≠Ce2) (h4:s≠Nf):p.factor k= .fail k:=by
 obtain⟨a,b,c⟩:=Fw h;have hk:k<=l.length:=by omega
 rw[Ah4 hk,Rk h (by simp [Gp,show Al 21= [Nf] from rfl,show Al 20= [Ce2] from rfl,h3,h4]),Xd h h1 h2];rfl
theorem Xe (h:isW l k [s]=true) (h1:s≠Mz) (h2:s≠Bo) (h3:s≠Ce2) (h4:s≠Nf):p.term k= .fail k:=by
 obtain⟨a,b,c⟩:=Fw h;rw[Cv7 (by omega),Cv9 h h1 h2 h3 h4];rfl
theorem Qp (h:isW l k [s]=true) (hs:s∉Xc):p.simple k= .fail k:=by
 simp only[Xc,List.mem_cons,List.not_mem_nil,or_false,not_or] at hs;obtain⟨h1,h2,h3,h4,h5,h6⟩:=hs;obtain⟨a,b,c⟩:=Fw h;rw[Ah3 (by omega),Rk h (by simp [Ej,show Al 19= [[45]] from rfl,show Al 18= [[43]] from rfl,h5,h6]),Xe h h1 h2 h3 h4];rfl
theorem Cg7 (h:isW l k [s]=true) (hs:s∉Xc):p.expr k= .fail k:=by
 obtain⟨a,b,c⟩:=Fw h;rw[Bp3 (by omega),Qp h hs];rfl
theorem Xf {y:Ex} (h:p.simple k= .ok y k') (hs:s∉Xc):isW l k [s]=false:=by
 cases c:isW l k [s] with
 | false=>rfl
 | true=>rw[Qp c hs] at h;cases h
theorem Dg6 {y:Ex} (h:p.expr k= .ok y k') (hs:s∉Xc):isW l k [s]=false:=by
 cases c:isW l k [s] with
 | false=>rfl
 | true=>rw[Cg7 c hs] at h;cases h
theorem Xg {i:Int} {x:Ex} (hk:k<=l.length) (h:nof w5 (tk l k)):p.nameL i x k= .ok x k:=by
 rw[Rl i x hk,Fc h (by decide),Fc h (by decide),Fc h (by decide),Fc h (by decide),Fc h (by decide)];rfl
theorem Rm {x:Ex} (hk:k<=l.length) (h:nof w3 (tk l k)):p.mulL x k= .ok x k:=by
 rw[Cv8 x hk,Va h (by decide)];rfl
theorem Rn {x:Ex} (hk:k<=l.length) (h:nof w2 (tk l k)):p.addL x k= .ok x k:=by
 rw[Cv6 x hk,Va h (by decide)];rfl
theorem Cw0 {x:Ex} (hk:k<=l.length) (h:nof w1 (tk l k)):p.relation x k= .ok x k:=by
 rw[Me x hk,Va h (by decide),Fc h (by decide),Fc h (by decide)];rfl
theorem Bp5 {x:Ex} (hk:k<=l.length):p.restL 0 x k= .ok x k:=by rw[Vb 0 x hk];rfl
theorem Tg {o:Nat} {x:Ex} (hk:k<=l.length) (h:nof w0 (tk l k)):p.restL o x k= .ok x k:=by
 rw[Vb o x hk,Va h (by decide)];simp
theorem Iy {x:Ex} (hk:k<=l.length) (h:p.primary k= .ok x k'):p.factor k= .ok x k':=by
 by_cases c:(opF l 0 k Gp).1=0
 ·have:=(Cl (want:=0) Dw0.2.2.2.2.2 hk).1 c;rw[Ah4 hk,c,this,h];rfl
 ·exfalso;obtain⟨h1,h2,h3⟩:=Au2 c;rcases Dg0 h1 with e | e
  ·rw[e] at h3;rw[Xd (s:=Ce2) h3 (by decide) (by decide)] at h;cases h
  ·rw[e] at h3;rw[Xd (s:=Nf) h3 (by decide) (by decide)] at h;cases h
theorem Iz {x:Ex} (hk:k<=l.length) (h:p.factor k= .ok x k'):p.term k=p.mulL x k':=by rw[Cv7 hk,h];rfl
theorem Hq {x:Ex} (hk:k<=l.length) (hk':k'<=l.length) (h:p.term k=p.mulL x k') (hn:nof w3 (tk l k')):p.simple k=p.addL x k':=by
 rw[Rm hk' hn] at h;by_cases c:(opF l 0 k Ej).1=0
 ·have:=(Cl (want:=0) Dw0.2.2.1 hk).1 c;rw[Ah3 hk,c,this,h];rfl
 ·exfalso;obtain⟨h1,h2,h3⟩:=Au2 c;rcases Cu4 h1 with e | e
  ·rw[e] at h3;rw[Xe (s:= [43]) h3 (by decide) (by decide) (by decide) (by decide)] at h;cases h
  ·rw[e] at h3;rw[Xe (s:= [45]) h3 (by decide) (by decide) (by decide) (by decide)] at h;cases h
def Xh (p:PS) (k:Nat):Res Ex:=(p.simple k).then fun x k=>p.relation x k
theorem Ja {x:Ex} (hk':k'<=l.length) (h:p.simple k=p.addL x k') (hn:nof w1 (tk l k')):Xh p k= .ok x k':=by
 rw[Xh,h,Rn hk' (Fo hn (by decide))];exact Cw0 hk' hn
theorem Vd (hk:k<=l.length):p.expr k=(Xh p k).then fun x k=>p.restL (opF l 0 k Ci).1 x k:=by
 rw[Bp3 hk,Xh,Ah1];have ha:=hr.adv.simple k hk;cases c:p.simple k with
 | bot=>rfl
 | fail j=>rfl
 | ok x j=>
  rw[c] at ha;exact Cv5 x ha.2
theorem Cg8 {x y:Ex} {j:Nat} (hj:j<=l.length) (hd:isW l j [Ef]=true) (h:p.rest x j= .ok y k'):k'=j:=by
 have e1:opF l 0 j Io=(0,j):=Rk hd (by decide);have e2:opF l 0 j Ci=(0,j):=Rk hd (by decide);have e3:isW l j [wIn]=false:=Dw hd (by decide);have e4:isW l j [Nf,wIn]=false:=Eg (Dw hd (by decide)) _;have e5:p.relation x j= .ok x j:=by rw[Me x hj,e1,e3,e4];rfl
 rw[Cv5 x hj,e5] at h;change p.restL (opF l 0 j Ci).1 x j=_ at h;rw[e2,Bp5 hj] at h;cases h;rfl
theorem Yn {y:Ex} (hk:k<=l.length) (h:p.expr k= .ok y k') (hd:isW l k' [Ef]=false):p.choice k= .ok (.mk 1 [y]) k':=by
 rw[Vc hk,Dg6 h (s:=Gr) (by decide)];rw[Bp3 hk] at h;have ha:=hr.adv.simple k hk;cases c:p.simple k with
 | bot=>rw[c] at h;cases h
 | fail j=>rw[c] at h;cases h
 | ok x j=>
  rw[c] at h ha;change p.rest x j=_ at h;show(if isW l j [Ef] then _ else _)=_;cases cd:isW l j [Ef] with
  | true=>rw[Cg8 ha.2 cd h,cd] at hd;cases hd
  | false=>
   show(p.rest x j).then _=_
   rw[h];rfl
theorem Ah5 {y:Ex} (hk:k<=l.length) (h:p.expr k= .ok y k') (hd:isW l k' [Ef]=false) (hb:isW l k' [Fk]=false) (ha:isW l k' [Bc]=false):p.assoc k= .ok (.mk [] y) k':=by
 rw[Au4 hk,Yn hk h hd];show(if _ then _ else _)=_;rw[if_pos ⟨rfl,hb,ha⟩];rfl
theorem Cw1 {x:As} (h:p.assoc k= .ok x k') (hs:s∉Xc) (ho:s≠Gr):isW l k [s]=false:=by
 cases c:isW l k [s] with
 | false=>rfl
 | true=>
  have hk:k<=l.length:=by have:=(Fw c).2.2;omega
  rw[Au4 hk,Vc hk,Dw c ho,Qp c hs] at h;cases h
theorem Ve {a:As} {az:List As} {j j':Nat} (h0:isW l k [Bo]=true) (h1:p.assoc (k+1)= .ok a j) (h2:p.assocsL [a] j= .ok az j') (h3:isW l j' [Cc]=true):p.paren k= .ok (Ad5 (tk l k).line az) (j'+1):=by
 have hk:k<=l.length:=by have:=(Fw h0).2.2;omega
 rw[Bv9 hk,Da,if_pos h0,Cw1 h1 (s:=wIf) (by decide) (by decide),if_neg (by simp),h1];show(p.assocsL [a] j).then _=_
 rw[h2];show Da l Cc j' _=_;rw[Da,if_pos h3,Nat.add_sub_cancel]
theorem Dg7 (h:isW l k [Cc]=true):isW l k [Ef]=false/\isW l k [Fk]=false/\isW l k [Bc]=false/\isW l k [Gx]=false:=⟨Dw h (by decide),Dw h (by decide),Dw h (by decide),Dw h (by decide)⟩
theorem Ah6 {y:Ex} (h0:isW l k [Bo]=true) (h1:p.expr (k+1)= .ok y k') (h3:isW l k' [Cc]=true):p.paren k= .ok y (k'+1):=by
 obtain⟨a,b,c,d⟩:=Dg7 h3;have hk:k<l.length:=(Fw h0).2.2;have hk':k'<l.length:=(Fw h3).2.2;rw[Ve (a:= .mk [] y) (az:= [.mk [] y]) h0 (Ah5 (by omega) h1 a b c) (by rw[Ao8 _ (by omega),d];rfl) h3];rfl
theorem Th (h0:isW l k [Bo]=true):p.primary k=p.paren k:=by
 obtain⟨a,b,c⟩:=Fw h0;rw[Ns (by omega),if_neg b,Dw h0 (t:=Mz) (by decide),h0];rfl
theorem Ao9 (hk:k<=l.length) (h:(tk l k).kind=1):p.primary k=p.name k:=by
 have hn:nof [Mz,Bo] (tk l k):=Ah2 (.inl h);rw[Ns hk,if_neg (by rw[h];decide),Fc hn (by decide),Fc hn (by decide)];rfl
theorem Bp6 {y:Ex} (h:p.expr k= .ok y k') (h1:(tk l k).kind=1) (h2:isW l (k+1) [Bc]=true):k'=k+1:=by
 have hk:k<l.length:=Ks (by rw[h1];decide);have hn: ∀ws,(∀s∈ws,s≠Bc)->nof ws (tk l (k+1)):=fun ws hs s hm ⟨e1,e2⟩=>by
  rw[Af7,Bool.and_eq_true,decide_eq_true_eq,decide_eq_true_eq] at h2;exact hs s hm (e2.symm.trans h2.2)
 have hp:p.primary k= .ok (.mk 3 0 0 (tk l k).text [] [] (tk l k).line 0 0) (k+1):=by
  rw[Ao9 (by omega) h1,Au5 (by omega),Fq,if_pos h1,Xg (by omega) (hn _ (by decide))]
 have hr:=Ja (by omega) (Hq (by omega) (by omega) (Iz (by omega) (Iy (by omega) hp)) (hn _ (by decide))) (hn _ (by decide));rw[Vd (by omega),hr] at h;change p.restL _ _ (k+1)=_ at h;rw[Tg (by omega) (hn _ (by decide))] at h;cases h;rfl
theorem Cw2 {y:Ex} (hk:k<=l.length) (h:p.expr k= .ok y k') (ha:isW l k' [Bc]=false):p.arg k= .ok (.mk [] y) k':=by
 rw[Dk9 hk,if_neg,h]
 ·rfl
 ·rintro⟨h1,h2⟩;rw[Bp6 h h1 h2,h2] at ha;cases ha
end
end Go.Dl

-- Chapter 3: expressions: the plain laws, part 11: reading the tokens of an expression.
namespace Go.Dl
open Go
set_option maxRecDepth 10000
def At (l:List Tok) (k:Nat) (ts:List Tok):Prop:=k<=l.length/\ts<+:l.drop k
section
variable {l:List Tok} {k k':Nat} {s:List UInt8} {p:PS} [hr:Rdr l p]
theorem At.le {ts:List Tok} (h:At l k ts):k+ts.length<=l.length:=by
 have:=h.2.length_le;rw[List.length_drop] at this;have:=h.1;omega
theorem At.left {a b:List Tok} (h:At l k (a++b)):At l k a:=⟨h.1,(List.prefix_append a b).trans h.2⟩
theorem At.right {a b:List Tok} (h:At l k (a++b)):At l (k+a.length) b:=by
 obtain⟨r,hr⟩:=h.2;have:=h.le;rw[List.length_append] at this;refine⟨by omega,r,?_⟩;rw[<-List.drop_drop,<-hr,List.append_assoc,List.drop_left]
theorem At.head {t:Tok} {ts:List Tok} (h:At l k (t::ts)):tk l k=t/\k<l.length:=by
 obtain⟨r,hr⟩:=h.2;have hl:=h.le;rw[List.length_cons] at hl;have hk:k<l.length:=by omega
 refine⟨?_,hk⟩;have:(l.drop k)[0]? =some t:=by rw[<-hr];rfl
 rw[List.getElem?_drop,Nat.add_zero] at this;rw[tk,List.getD,this];rfl
theorem At.tail {t:Tok} {ts:List Tok} (h:At l k (t::ts)):At l (k+1) ts:=At.right (a:= [t]) h
theorem At.word {ts:List Tok} (h:At l k (Am s::ts)):isW l k [s]=true:=by
 rw[Af7,h.head.1];simp [Am]
theorem At.words: ∀ {ws:List (List UInt8)} {k:Nat} {ts:List Tok},At l k (ws.map Am++ts)->isW l k ws=true
 | [],_,_,_=>rfl
 | s::r,k,ts,h=>by
  have h1:=At.word (s:=s) h;have h2:=At.words (ws:=r) (At.tail h);rw[Af7] at h1;rw[isW,h1,h2];rfl
theorem Ti {want o:Nat} (hw:isW l k (Al o)=true) (hwant:want=0\/want=o): ∀ {pre post:List Nat},(∀p∈pre,isW l k (Al p)=false)->opF l want k (pre++o::post)=(o,k+(Al o).length)
 | [],post,_=>by
  rw[List.nil_append,opF,if_pos hw,if_neg];rintro⟨h1,h2⟩;rcases hwant with h | h
  ·exact h1 h
  ·exact h2 h.symm
 | p::pre,post,h=>by
  rw[List.cons_append,opF,h p (by simp)];exact Ti hw hwant fun q hq=>h q (by simp [hq])
theorem Gb {o:Nat} {s t:List UInt8} {r:List (List UInt8)} (h:isW l k [s]=true) (e:Al o=t::r) (hs:s≠t):isW l k (Al o)=false:=by
 rw[e];exact Eg (Dw h hs) r
theorem Be6 {want o:Nat} {os:List Nat} {ts:List Tok} (ho:(o∈Io/\os=Io)\/(o∈Ej/\os=Ej)\/(o∈Oq/\os=Oq)\/(o∈Ot/\os=Ot)\/(o∈Gp/\os=Gp))
  (h:At l k ((Al o).map Am++ts)) (hwant:want=0\/want=o):opF l want k os=(o,k+(Al o).length)/\(Al o).length=1:=by
 have hw:=At.words h;have key: ∀(pre post:List Nat) (s:List UInt8),os=pre++o::post->Al o= [s]->(pre.all fun p=>(Al p).head?.any fun t=>decide (s≠t))=true->opF l want k os=(o,k+(Al o).length)/\(Al o).length=1:=fun pre post s e1 e2 e3=>by
  rw[e1];refine⟨Ti hw hwant fun p hp=> ?_,by rw[e2];rfl⟩;have:=List.all_eq_true.1 e3 p hp;rw[e2] at hw;cases hp2:Al p with
  | nil=>rw[hp2] at this;simp at this
  | cons t r=>
   rw[hp2] at this;exact Eg (Dw hw (by simpa using this)) r
 rcases ho with⟨h1,rfl⟩ | ⟨h1,rfl⟩ | ⟨h1,rfl⟩ | ⟨h1,rfl⟩ | ⟨h1,rfl⟩
 ·simp only[Io,List.mem_cons,List.not_mem_nil,or_false] at h1;rcases h1 with rfl | rfl | rfl | rfl | rfl | rfl
  ·exact key [] [11,10,9,8,7] _ rfl rfl (by decide)
  ·exact key [12] [10,9,8,7] _ rfl rfl (by decide)
  ·exact key [12,11] [9,8,7] _ rfl rfl (by decide)
  ·exact key [12,11,10] [8,7] _ rfl rfl (by decide)
  ·exact key [12,11,10,9] [7] _ rfl rfl (by decide)
  ·exact key [12,11,10,9,8] [] _ rfl rfl (by decide)
 ·simp only[Ej,List.mem_cons,List.not_mem_nil,or_false] at h1;rcases h1 with rfl | rfl
  ·exact key [] [18] _ rfl rfl (by decide)
  ·exact key [19] [] _ rfl rfl (by decide)
 ·simp only[Oq,List.mem_cons,List.not_mem_nil,or_false] at h1;rcases h1 with rfl | rfl
  ·exact key [] [1] _ rfl rfl (by decide)
  ·exact key [2] [] _ rfl rfl (by decide)
 ·simp only[Ot,List.mem_cons,List.not_mem_nil,or_false] at h1;rcases h1 with rfl | rfl | rfl | rfl
  ·exact key [] [5,4,3] _ rfl rfl (by decide)
  ·exact key [6] [4,3] _ rfl rfl (by decide)
  ·exact key [6,5] [3] _ rfl rfl (by decide)
  ·exact key [6,5,4] [] _ rfl rfl (by decide)
 ·simp only[Gp,List.mem_cons,List.not_mem_nil,or_false] at h1;rcases h1 with rfl | rfl
  ·exact key [] [20] _ rfl rfl (by decide)
  ·exact key [21] [] _ rfl rfl (by decide)
theorem Dq6 {want o:Nat} {ts:List Tok} {y:Ex} {j:Nat} (ho:o∈Ci) (h:At l k ((Al o).map Am++ts)) (hwant:want=0\/want=o) (hs:p.simple (k+(Al o).length)= .ok y j):opF l want k Ci=(o,k+(Al o).length):=by
 have hw:=At.words h;simp only[Ci,List.mem_cons,List.not_mem_nil,or_false] at ho;rcases ho with rfl | rfl | rfl | rfl | rfl
 ·exact Ti hw hwant (pre:= []) (post:= [16,15,14,13]) (by simp)
 ·have h1:isW l k [Ak6]=true:=Cu2 hw rfl;refine Ti hw hwant (pre:= [17]) (post:= [15,14,13]) fun p hp=> ?_;simp only[List.mem_cons,List.not_mem_nil,or_false] at hp;subst hp;exact Gb h1 rfl (by decide)
 ·refine Ti hw hwant (pre:= [17,16]) (post:= [14,13]) fun p hp=> ?_;simp only[List.mem_cons,List.not_mem_nil,or_false] at hp;rcases hp with rfl | rfl
  ·exact Gb (s:=Ce1) hw rfl (by decide)
  ·exact Gb (s:=Ce1) hw rfl (by decide)
 ·have h3:isW l (k+1) [Ke]=false:=Xf hs (by decide);refine Ti hw hwant (pre:= [17,16,15]) (post:= [13]) fun p hp=> ?_;simp only[List.mem_cons,List.not_mem_nil,or_false] at hp;rcases hp with rfl | rfl | rfl
  ·show isW l k [wOr,Ke]=false;rw[Cu1,h3,Bool.and_false]
  ·exact Gb (s:=wOr) hw rfl (by decide)
  ·exact Gb (s:=wOr) hw rfl (by decide)
 ·have h3:isW l (k+1) [Jm]=false:=Xf hs (by decide);refine Ti hw hwant (pre:= [17,16,15,14]) (post:= []) fun p hp=> ?_;simp only[List.mem_cons,List.not_mem_nil,or_false] at hp;rcases hp with rfl | rfl | rfl | rfl
  ·exact Gb (s:=Ak6) hw rfl (by decide)
  ·show isW l k [Ak6,Jm]=false;rw[Cu1,h3,Bool.and_false]
  ·exact Gb (s:=Ak6) hw rfl (by decide)
  ·exact Gb (s:=Ak6) hw rfl (by decide)
theorem lv5 {e:Ex} (h:1<=e.kind/\e.kind<=10):Ak e=5:=by unfold Ak;rw[if_neg (by omega),if_neg (by omega),if_neg (by omega)]
theorem Qq {e:Ex} {n:Int} (h:Ak e=n) (hn:n≠5):Ki e.kind=true->False:=fun c=>hn (h.symm.trans (lv5 (by rw[Ki,Bool.or_eq_true,decide_eq_true_eq,decide_eq_true_eq] at c;omega)))
structure Rd (l:List Tok) (p:PS) (e:Ex) (k k':Nat):Prop where
 le:k<=l.length/\k'<=l.length
 name:Az e=true->p.name k=p.nameL 0 (stE e) k'
 bare:Ki e.kind=true->p.paren k= .ok (stE e) k'
 prim:Ak e=5->nof w5 (tk l k')->p.primary k= .ok (stE e) k'
 fac:4<=Ak e->nof w5 (tk l k')->p.factor k= .ok (stE e) k'
 term:3<=Ak e->nof w5 (tk l k')->p.term k=p.mulL (stE e) k'
 simp:2<=Ak e->nof w3 (tk l k')->p.simple k=p.addL (stE e) k'
 rel:1<=Ak e->nof w2d (tk l k')->(Ak e≠1->nof w1 (tk l k'))->Xh p k= .ok (stE e) k'
 exp:Ak e=0->nof w1 (tk l k')->p.expr k=p.restL e.oper.toNat (stE e) k'
theorem s53 {t:Tok} (h:nof w3 t):nof w5 t:=Fo h (by decide)
theorem s31 {t:Tok} (h:nof w1 t):nof w3 t:=Fo h (by decide)
theorem s32 {t:Tok} (h:nof w2 t):nof w3 t:=Fo h (by decide)
theorem s2d {t:Tok} (h:nof w2d t):nof w2 t:=Fo h (by decide)
theorem sd1 {t:Tok} (h:nof w1 t):nof w2d t:=Fo h (by decide)
theorem s10 {t:Tok} (h:nof w0 t):nof w1 t:=Fo h (by decide)
theorem Nu {e:Ex} {n:Int} (h:Ak e=n) (hn:n≠5):Az e=true->False:=fun c=>hn (h.symm.trans (Qn c))
theorem Rd.of1 {e:Ex} (hk:k<=l.length/\k'<=l.length) (hl:Ak e=1) (h:nof w2d (tk l k')->Xh p k= .ok (stE e) k'):Rd l p e k k':=
 ⟨hk,fun c=>(Nu hl (by decide) c).elim,fun c=>(Qq hl (by decide) c).elim,fun c=>by omega,fun c=>by omega,fun c=>by omega,fun c=>by omega,fun _ a _=>h a,fun c=>by omega⟩
theorem Rd.of0 {e:Ex} (hk:k<=l.length/\k'<=l.length) (hl:Ak e=0) (h:nof w1 (tk l k')->p.expr k=p.restL e.oper.toNat (stE e) k'):Rd l p e k k':=
 ⟨hk,fun c=>(Nu hl (by decide) c).elim,fun c=>(Qq hl (by decide) c).elim,fun c=>by omega,fun c=>by omega,fun c=>by omega,fun c=>by omega,fun c=>by omega,fun _=>h⟩
theorem Rd.of2 {e:Ex} (hk:k<=l.length/\k'<=l.length) (hl:Ak e=2) (h:nof w3 (tk l k')->p.simple k=p.addL (stE e) k'):Rd l p e k k':=
 ⟨hk,fun c=>(Nu hl (by decide) c).elim,fun c=>(Qq hl (by decide) c).elim,fun c=>by omega,fun c=>by omega,fun c=>by omega,fun _=>h,fun _ _ a=>Ja hk.2 (h (s31 (a (by omega)))) (a (by omega)),fun c=>by omega⟩
theorem Rd.of3 {e:Ex} (hk:k<=l.length/\k'<=l.length) (hl:Ak e=3) (h:nof w5 (tk l k')->p.term k=p.mulL (stE e) k'):Rd l p e k k':=
 have h2:nof w3 (tk l k')->p.simple k=p.addL (stE e) k':=fun a=>Hq hk.1 hk.2 (h (s53 a)) a
 ⟨hk,fun c=>(Nu hl (by decide) c).elim,fun c=>(Qq hl (by decide) c).elim,fun c=>by omega,fun c=>by omega,fun _=>h,fun _=>h2,fun _ _ a=>Ja hk.2 (h2 (s31 (a (by omega)))) (a (by omega)),fun c=>by omega⟩
theorem Rd.of4 {e:Ex} (hk:k<=l.length/\k'<=l.length) (hl:Ak e=4) (h:nof w5 (tk l k')->p.factor k= .ok (stE e) k'):Rd l p e k k':=
 have h3:nof w5 (tk l k')->p.term k=p.mulL (stE e) k':=fun a=>Iz hk.1 (h a)
 have h2:nof w3 (tk l k')->p.simple k=p.addL (stE e) k':=fun a=>Hq hk.1 hk.2 (h3 (s53 a)) a
 ⟨hk,fun c=>(Nu hl (by decide) c).elim,fun c=>(Qq hl (by decide) c).elim,fun c=>by omega,fun _=>h,fun _=>h3,fun _=>h2,fun _ _ a=>Ja hk.2 (h2 (s31 (a (by omega)))) (a (by omega)),fun c=>by omega⟩
theorem Rd.of5 {e:Ex} (hk:k<=l.length/\k'<=l.length) (hl:Ak e=5) (hn:Az e=true->p.name k=p.nameL 0 (stE e) k') (hb:Ki e.kind=true->p.paren k= .ok (stE e) k') (h:nof w5 (tk l k')->p.primary k= .ok (stE e) k'):Rd l p e k k':=
 have h4:nof w5 (tk l k')->p.factor k= .ok (stE e) k':=fun a=>Iy hk.1 (h a)
 have h3:nof w5 (tk l k')->p.term k=p.mulL (stE e) k':=fun a=>Iz hk.1 (h4 a)
 have h2:nof w3 (tk l k')->p.simple k=p.addL (stE e) k':=fun a=>Hq hk.1 hk.2 (h3 (s53 a)) a
 ⟨hk,hn,hb,fun _=>h,fun _=>h4,fun _=>h3,fun _=>h2,fun _ _ a=>Ja hk.2 (h2 (s31 (a (by omega)))) (a (by omega)),fun c=>by omega⟩
theorem Rd.ofName {e:Ex} (hk:k<=l.length/\k'<=l.length) (hl:Az e=true) (hn:p.name k=p.nameL 0 (stE e) k'):Rd l p e k k':=
 .of5 hk (Qn hl) (fun _=>hn) (fun c=>by
  rw[Ki,Bool.or_eq_true,decide_eq_true_eq,decide_eq_true_eq] at c;rw[Az,Bool.and_eq_true,decide_eq_true_eq,decide_eq_true_eq] at hl;omega) fun a=>by
  rw[Xg hk.2 a] at hn;have:(tk l k).kind=1:=by
   rw[Au5 hk.1,Fq] at hn;split at hn
   ·assumption
   ·cases hn
  rw[Ao9 hk.1 this,hn]
theorem Rd.full {e:Ex} (r:Rd l p e k k') (h:nof w0 (tk l k')):p.expr k= .ok (stE e) k':=by
 have hg:=(Kk e).1;by_cases c:Ak e=0
 ·rw[r.exp c (s10 h),Tg r.le.2 h]
 ·rw[Vd r.le.1,r.rel (by omega) (sd1 (s10 h)) fun _=>s10 h];exact Tg r.le.2 h
def RT (l:List Tok) (p:PS) (e:Ex):Prop:= ∀k,At l k (Ag e)->Rd l p e k (k+(Ag e).length)
theorem Qr {e:Ex} {lv:Int} (R:RT l p e) (h:At l k (Aw e lv)) (hk':k'=k+(Aw e lv).length):(Ak e<lv/\p.primary k= .ok (stE e) k')\/(lv<=Ak e/\Rd l p e k k'):=by
 subst hk';unfold Aw at h⊢
 by_cases c:Ak e<lv
 ·refine .inl ⟨c,?_⟩;rw[decide_eq_true c] at h⊢
  have h1:At l (k+1) (Ag e++ [Am Cc]):=At.tail h;have h2:=h1.right;have hs:=At.word h2;have r:=R _ h1.left;have he:=r.full (by rw[h2.head.1];decide+kernel);rw[Th (At.word h),Ah6 (At.word h) he hs];simp only[Pq,if_true,List.length_cons,List.length_append,List.length_nil];congr 1;omega
 ·refine .inr ⟨by omega,?_⟩;rw[decide_eq_false c] at h⊢
  exact R _ h
section
variable {e:Ex} (R:RT l p e)
include R
theorem Du8 (h:At l k (Aw e 5)) (hk':k'=k+(Aw e 5).length) (hn:nof w5 (tk l k')):p.primary k= .ok (stE e) k':=by
 rcases Qr R h hk' with⟨_,h1⟩ | ⟨h1,r⟩
 ·exact h1
 ·exact r.prim (by have:=(Kk e).2;omega) hn
theorem Du9 (h:At l k (Aw e 4)) (hk':k'=k+(Aw e 4).length) (hn:nof w5 (tk l k')):p.factor k= .ok (stE e) k':=by
 rcases Qr R h hk' with⟨_,h1⟩ | ⟨h1,r⟩
 ·exact Iy h.1 h1
 ·exact r.fac h1 hn
theorem Cw3 (h:At l k (Aw e 3)) (hk':k'=k+(Aw e 3).length) (hn:nof w5 (tk l k')):p.term k=p.mulL (stE e) k':=by
 rcases Qr R h hk' with⟨_,h1⟩ | ⟨h1,r⟩
 ·exact Iz h.1 (Iy h.1 h1)
 ·exact r.term h1 hn
theorem Dl0 (h:At l k (Aw e 2)) (hk':k'=k+(Aw e 2).length) (hn:nof w3 (tk l k')):p.simple k=p.addL (stE e) k':=by
 rcases Qr R h hk' with⟨_,h1⟩ | ⟨h1,r⟩
 ·exact Hq h.1 (by have:=h.le;omega) (Iz h.1 (Iy h.1 h1)) hn
 ·exact r.simp h1 hn
theorem Qs (h:At l k (Aw e 2)) (hk':k'=k+(Aw e 2).length) (hn:nof w2 (tk l k')):p.simple k= .ok (stE e) k':=by
 rw[Dl0 R h hk' (s32 hn),Rn (by have:=h.le;omega) hn]
theorem Dl1 (h:At l k (Aw e 1)) (hk':k'=k+(Aw e 1).length) (hn:nof w1 (tk l k')):Xh p k= .ok (stE e) k':=by
 rcases Qr R h hk' with⟨_,h1⟩ | ⟨h1,r⟩
 ·have hk2:k'<=l.length:=by have:=h.le;omega
  exact Ja hk2 (Hq h.1 hk2 (Iz h.1 (Iy h.1 h1)) (s31 hn)) hn
 ·exact r.rel h1 (sd1 hn) fun _=>hn
end
end
end Go.Dl

-- Chapter 3: expressions: the plain laws, part 12: the tokens of an expression are read as that expression.
namespace Go.Dl
open Go
set_option maxRecDepth 10000
theorem Cw4 {l:List Ex} (h:l.length=1): ∃x,l= [x]:=by
 match l,h with
 | [x],_=>exact⟨x,rfl⟩
theorem Cg9 {l:List Ex} (h:l.length=2): ∃x y,l= [x,y]:=by
 match l,h with
 | [x,y],_=>exact⟨x,y,rfl⟩
theorem Dv0 {l:List Ex} (h:l.length=3): ∃x y z,l= [x,y,z]:=by
 match l,h with
 | [x,y,z],_=>exact⟨x,y,z,rfl⟩
theorem Au6 {e:Ex} (h:Ev e 1=true): ∃x,e.l= [x]/\Az x=true:=by
 rw[Ev,Bool.and_eq_true,decide_eq_true_eq] at h;obtain⟨x,hx⟩:=Cw4 h.1;rw[hx] at h;exact⟨x,hx,h.2⟩
theorem Dg8 {e:Ex} (h:Ev e 2=true): ∃x y,e.l= [x,y]/\Az x=true:=by
 rw[Ev,Bool.and_eq_true,decide_eq_true_eq] at h;obtain⟨x,y,hx⟩:=Cg9 h.1;rw[hx] at h;exact⟨x,y,hx,h.2⟩
section
variable {e:Ex}
theorem ff1 (h:e.kind=1) (hf:Ae e=true):e.l= []/\e.oper=0/\e.s= []/\e.a= []:=by
 have:Ae e=(e.l.isEmpty&&decide (0<=e.n)&&decide (e.n<=2147483647)&&zO e&&zS e&&zA e):=by unfold Ae;rw[h];rfl
 rw[this] at hf;simp only[Bool.and_eq_true,zO,zS,zA,decide_eq_true_eq,List.isEmpty_iff] at hf;exact⟨hf.1.1.1.1.1,hf.1.1.2,hf.1.2,hf.2⟩
theorem ff2 (h:e.kind=2) (hf:Ae e=true):e.l= []/\e.oper=0/\e.n=0/\e.s= []/\e.a= []:=by
 have:Ae e=(e.l.isEmpty&&zO e&&zN e&&zS e&&zA e):=by unfold Ae;rw[h];rfl
 rw[this] at hf;simp only[Bool.and_eq_true,zO,zN,zS,zA,decide_eq_true_eq,List.isEmpty_iff] at hf;exact⟨hf.1.1.1.1,hf.1.1.1.2,hf.1.1.2,hf.1.2,hf.2⟩
theorem ff3 (h:e.kind=3) (hf:Ae e=true):e.l= []/\e.oper=0/\e.n=0/\e.a= []:=by
 have:Ae e=(e.l.isEmpty&&Lx e.s&&zO e&&zN e&&zA e):=by unfold Ae;rw[h];rfl
 rw[this] at hf;simp only[Bool.and_eq_true,zO,zN,zA,decide_eq_true_eq,List.isEmpty_iff] at hf;exact⟨hf.1.1.1.1,hf.1.1.2,hf.1.2,hf.2⟩
theorem Ch0 (h:e.kind=4\/e.kind=6) (hf:Ae e=true):(∃x,e.l= [x]/\Az x=true)/\e.oper=0/\e.n=0/\e.a= []:=by
 have:Ae e=(Ev e 1&&Lx e.s&&zO e&&zN e&&zA e):=by rcases h with h | h<;>(unfold Ae;rw[h];rfl)
 rw[this] at hf;simp only[Bool.and_eq_true,zO,zN,zA,decide_eq_true_eq,List.isEmpty_iff] at hf;exact⟨Au6 hf.1.1.1.1,hf.1.1.2,hf.1.2,hf.2⟩
theorem ff5 (h:e.kind=5) (hf:Ae e=true):(∃x,e.l= [x]/\Az x=true)/\e.oper=0/\e.n=0/\e.s= []/\e.a= []:=by
 have:Ae e=(Ev e 1&&zO e&&zN e&&zS e&&zA e):=by unfold Ae;rw[h];rfl
 rw[this] at hf;simp only[Bool.and_eq_true,zO,zN,zS,zA,decide_eq_true_eq,List.isEmpty_iff] at hf;exact⟨Au6 hf.1.1.1.1,hf.1.1.1.2,hf.1.1.2,hf.1.2,hf.2⟩
theorem ff7 (h:e.kind=7) (hf:Ae e=true):(∃x,e.l= [x]/\Az x=true)/\Hx e.a=true/\e.oper=0/\e.n=0/\e.s= []:=by
 have:Ae e=(Ev e 1&&Hx e.a&&zO e&&zN e&&zS e):=by unfold Ae;rw[h];rfl
 rw[this] at hf;simp only[Bool.and_eq_true,zO,zN,zS,decide_eq_true_eq] at hf;exact⟨Au6 hf.1.1.1.1,hf.1.1.1.2,hf.1.1.2,hf.1.2,hf.2⟩
theorem ff8 (h:e.kind=8) (hf:Ae e=true):(∃x y,e.l= [x,y]/\Az x=true)/\e.oper=0/\e.n=0/\e.s= []/\e.a= []:=by
 have:Ae e=(Ev e 2&&zO e&&zN e&&zS e&&zA e):=by unfold Ae;rw[h];rfl
 rw[this] at hf;simp only[Bool.and_eq_true,zO,zN,zS,zA,decide_eq_true_eq,List.isEmpty_iff] at hf;exact⟨Dg8 hf.1.1.1.1,hf.1.1.1.2,hf.1.1.2,hf.1.2,hf.2⟩
theorem ff9 (h:e.kind=9) (hf:Ae e=true):e.l= []/\Ey e.a=true/\e.oper=0/\e.n=0/\e.s= []:=by
 have:Ae e=(e.l.isEmpty&&Ey e.a&&zO e&&zN e&&zS e):=by unfold Ae;rw[h];rfl
 rw[this] at hf;simp only[Bool.and_eq_true,zO,zN,zS,decide_eq_true_eq,List.isEmpty_iff] at hf;exact⟨hf.1.1.1.1,hf.1.1.1.2,hf.1.1.2,hf.1.2,hf.2⟩
theorem Dq7 (h:e.kind=10) (hf:Ae e=true):(∃x y z,e.l= [x,y,z])/\e.oper=0/\e.n=0/\e.s= []/\e.a= []:=by
 have:Ae e=(decide (e.l.length=3)&&zO e&&zN e&&zS e&&zA e):=by unfold Ae;rw[h];rfl
 rw[this] at hf;simp only[Bool.and_eq_true,zO,zN,zS,zA,decide_eq_true_eq,List.isEmpty_iff] at hf;exact⟨Dv0 hf.1.1.1.1,hf.1.1.1.2,hf.1.1.2,hf.1.2,hf.2⟩
theorem Dq8 (h:e.kind=11) (hf:Ae e=true):(∃x,e.l= [x])/\(∃o:Nat,e.oper=o/\(o=18\/o=19\/o=20\/o=21))/\e.n=0/\e.s= []/\e.a= []:=by
 have:Ae e=(decide (e.l.length=1)&&decide (18<=e.oper)&&decide (e.oper<=21)&&zN e&&zS e&&zA e):=by unfold Ae;rw[h];rfl
 rw[this] at hf;simp only[Bool.and_eq_true,zN,zS,zA,decide_eq_true_eq,List.isEmpty_iff] at hf;exact⟨Cw4 hf.1.1.1.1.1,⟨e.oper.toNat,by omega,by omega⟩,hf.1.1.2,hf.1.2,hf.2⟩
theorem Dq9 (h:e.kind=12) (hf:Ae e=true):(∃x y,e.l= [x,y])/\(∃o:Nat,e.oper=o/\1<=o/\o<=17)/\e.n=0/\e.s= []/\e.a= []:=by
 have:Ae e=(decide (e.l.length=2)&&decide (1<=e.oper)&&decide (e.oper<=17)&&zN e&&zS e&&zA e):=by unfold Ae;rw[h];rfl
 rw[this] at hf;simp only[Bool.and_eq_true,zN,zS,zA,decide_eq_true_eq,List.isEmpty_iff] at hf;exact⟨Cg9 hf.1.1.1.1.1,⟨e.oper.toNat,by omega,by omega,by omega⟩,hf.1.1.2,hf.1.2,hf.2⟩
theorem Cw5 (h:e.kind=13\/e.kind=14) (hf:Ae e=true):((∃x y z,e.l= [x,y,z])\/ ∃x y,e.l= [x,y]/\Az y=true)/\e.oper=0/\e.n=0/\e.s= []/\e.a= []:=by
 have:Ae e=((decide (e.l.length=3) || decide (e.l.length=2)&&Az (e.l.getD 1 ex0))&&zO e&&zN e&&zS e&&zA e):=by rcases h with h | h<;>(unfold Ae;rw[h];rfl)
 rw[this] at hf;simp only[Bool.and_eq_true,Bool.or_eq_true,zO,zN,zS,zA,decide_eq_true_eq,List.isEmpty_iff] at hf;refine⟨?_,hf.1.1.1.2,hf.1.1.2,hf.1.2,hf.2⟩;rcases hf.1.1.1.1 with h3 | h2
 ·exact .inl (Dv0 h3)
 ·obtain⟨x,y,hx⟩:=Cg9 h2.1;rw[hx] at h2;exact .inr ⟨x,y,hx,h2.2⟩
theorem Pg (h:3<=e.kind/\e.kind<=8):Az e=true:=by rw[Az,decide_eq_true h.1,decide_eq_true h.2];rfl
theorem Mf (h:e.kind<3\/8<e.kind):Az e=true->False:=fun c=>by
 rw[Az,Bool.and_eq_true,decide_eq_true_eq,decide_eq_true_eq] at c;omega
end
theorem Ap0 (s:List UInt8): ∀(x:List Tok) (xs:List (List Tok)),Fm s (x::xs)=x++xs.flatMap fun t=>Am s::t
 | x,[]=>by simp [Fm]
 | x,y::ys=>by rw[Rj s x _ (by simp),Ap0 s y ys,List.flatMap_cons];simp
section
variable {l:List Tok} {k k':Nat} {s:List UInt8} {p:PS} [hr:Rdr l p]
theorem Bw0 {α β:Type} {f:Nat->Res α} {fL:List α->Nat->Res (List α)} {sep:List UInt8} {W:List (List UInt8)} {g:β->List Tok} {st:β->α}
  (hL: ∀az k,k<=l.length->fL az k=if isW l k [sep] then(f (k+1)).then fun a k=>fL (az++ [a]) k else .ok az k) (hsep:nof W (Am sep)):
  ∀(bs:List β) (acc:List α) (k:Nat),(∀b∈bs,∀k,At l k (g b)->nof W (tk l (k+(g b).length))->f k= .ok (st b) (k+(g b).length))->At l k (bs.flatMap fun b=>Am sep::g b)->
   nof W (tk l (k+(bs.flatMap fun b=>Am sep::g b).length))->isW l (k+(bs.flatMap fun b=>Am sep::g b).length) [sep]=false->fL acc k= .ok (acc++bs.map st) (k+(bs.flatMap fun b=>Am sep::g b).length)
 | [],acc,k,_,ha,_,hn=>by
  rw[List.flatMap_nil,List.length_nil,Nat.add_zero] at hn⊢
  rw[hL acc k ha.1,hn,List.map_nil,List.append_nil];rfl
 | b::r,acc,k,he,ha,hw,hn=>by
  rw[List.flatMap_cons] at ha hw hn⊢
  have e1:k+(Am sep::g b++r.flatMap fun b=>Am sep::g b).length=k+1+(g b).length+(r.flatMap fun b=>Am sep::g b).length:=by
   rw[List.length_append,List.length_cons];omega
  rw[e1] at hw hn⊢
  have h1:At l (k+1) (g b++r.flatMap fun b=>Am sep::g b):=At.tail ha;have h2:=h1.right;have hf:nof W (tk l (k+1+(g b).length)):=by
   cases r with
   | nil=>simpa using hw
   | cons c r'=>
    rw[List.flatMap_cons] at h2;rw[(At.head h2).1];exact hsep
  rw[hL acc k ha.1,if_pos (At.word ha),he b (by simp) _ h1.left hf];show fL (acc++ [st b]) _=_;rw[Bw0 hL hsep r (acc++ [st b]) _ (fun c hc=>he c (by simp [hc])) h2 hw hn];simp
theorem Ah7 {α β:Type} {f:Nat->Res α} {fL:List α->Nat->Res (List α)} {sep:List UInt8} {W:List (List UInt8)} {g:β->List Tok} {st:β->α}
  (hL: ∀az k,k<=l.length->fL az k=if isW l k [sep] then(f (k+1)).then fun a k=>fL (az++ [a]) k else .ok az k) (hsep:nof W (Am sep))
  {b:β} {r:List β} (he: ∀c∈b::r,∀k,At l k (g c)->nof W (tk l (k+(g c).length))->f k= .ok (st c) (k+(g c).length)) (ha:At l k (Fm sep ((b::r).map g)))
  (hk':k'=k+(Fm sep ((b::r).map g)).length) (hw:nof W (tk l k')) (hn:isW l k' [sep]=false):
  ∃j,f k= .ok (st b) j/\fL [st b] j= .ok ((b::r).map st) k'/\j<=l.length/\(r≠ []->isW l j [sep]=true)/\(r= []->j=k'):=by
 have e1:Fm sep ((b::r).map g)=g b++r.flatMap fun c=>Am sep::g c:=by
  rw[List.map_cons,Ap0,Oz]
 rw[e1] at ha hk';rw[List.length_append,<-Nat.add_assoc] at hk';have h2:=ha.right;have hf:nof W (tk l (k+(g b).length)):=by
  cases r with
  | nil=>rw[List.flatMap_nil,List.length_nil,Nat.add_zero] at hk';rw[<-hk'];exact hw
  | cons c r'=>
   rw[List.flatMap_cons] at h2;rw[(At.head h2).1];exact hsep
 refine⟨_,he b (by simp) k ha.left hf,?_,h2.1,fun hr=> ?_,fun hr=> ?_⟩
 ·subst hk';rw[Bw0 hL hsep r [st b] _ (fun c hc=>he c (by simp [hc])) h2 hw hn];rfl
 ·cases r with
  | nil=>exact absurd rfl hr
  | cons c r'=>
   rw[List.flatMap_cons] at h2;exact At.word h2
 ·subst hr;rw[hk',List.flatMap_nil,List.length_nil,Nat.add_zero]
def wA:List (List UInt8):=w0++ [Bc,Fk]
theorem Ah8 {x:Ex} (h:x.kind=3) (hf:Ae x=true):stE x= .mk 3 0 0 x.s [] [] 0 0 0:=by
 obtain⟨a,b,c,d⟩:=ff3 h hf;rw[Dh,h,a,b,c,d];rfl
theorem Dr0 (hz: ∀k,(tk l k).line=0) {a:As} (ha:(a.c.isEmpty || Cn a.c)=true) (hp: ∀x∈Cu a,Ae x=true/\RT l p x) (h:At l k (Ez a)) (hn:nof wA (tk l (k+(Ez a).length))):
  p.arg k= .ok (stA a) (k+(Ez a).length):=by
 obtain⟨he1,he2⟩:=hp a.e (Je a)
 rw[Tf]
 by_cases c0:a.c= []
 ·rw[Kj,c0,List.isEmpty_nil,if_pos rfl] at h hn⊢
  exact Cw2 h.1 ((he2 _ h).full (Fo hn (by decide))) (Fc hn (by decide) [])
 ·obtain⟨c,hc⟩: ∃c,a.c= [c]/\c.kind=1/\ ∃x,c.l= [x]/\x.kind=3:=by
   match hcc:a.c,c0 with
   | [c],_=>
    rw[hcc] at ha
    simp only[Cn,List.isEmpty_cons,Bool.false_or,Bool.and_eq_true,decide_eq_true_eq] at ha
    refine⟨c,rfl,ha.1,?_⟩
    match hl:c.l with
    | [x]=>rw[hl] at ha;exact⟨x,rfl,by simpa using ha.2⟩
    | []=>rw[hl] at ha;cases ha.2
    | _::_::_=>rw[hl] at ha;cases ha.2
   | c::d::r,_=>rw[hcc] at ha;simp [Cn] at ha
  obtain⟨hc,hk1,x,hx,hx3⟩:=hc
  have hpx:=hp x (Ky (c:=c) (by rw[hc];simp) (by rw[hx];simp))
  have ht:Ez a=Hs x.s::Am Bc::Ag a.e:=by
   rw[Kj,hc]
   show Et c++_=_
   rw[Ig,if_pos hk1,hx,List.map_singleton]
   show Ag x++_=_
   rw[Ao1 hx3];rfl
  rw[ht] at h hn⊢
  have h1:At l (k+1) (Am Bc::Ag a.e):=At.tail h
  have h2:At l (k+2) (Ag a.e):=At.tail h1
  have e1:k+(Hs x.s::Am Bc::Ag a.e).length=k+2+(Ag a.e).length:=by simp only[List.length_cons];omega
  rw[e1] at hn⊢
  rw[Dk9 h.1,h.head.1,if_pos ⟨rfl,At.word h1⟩,(he2 _ h2).full (Fo hn (by decide))]
  show Res.ok _ _=_
  rw[hc,List.map_singleton,Ag5,hk1,hx,List.map_singleton,Ah8 hx3 hpx.1];rfl
theorem Ch1 {n:Nat} {c:Ch} (hc:Dt n c=true) (hp: ∀x∈c.l,RT l p x) (h:At l k (Et c)) (hn:nof w0 (tk l (k+(Et c).length))):p.choice k= .ok (stC c) (k+(Et c).length):=by
 rw[Ag5];unfold Dt at hc;by_cases c1:c.kind=1
 ·rw[if_pos c1,decide_eq_true_eq] at hc;obtain⟨x,hx⟩:=Cw4 hc;have ht:Et c=Ag x:=by rw[Ig,if_pos c1,hx];rfl
  rw[ht] at h hn⊢
  rw[Yn h.1 ((hp x (by rw[hx];simp) _ h).full hn) (Fc hn (by decide) []),c1,hx];rfl
 ·rw[if_neg c1] at hc;by_cases c2:c.kind=2
  ·rw[if_pos c2,decide_eq_true_eq] at hc;obtain⟨x,y,hx⟩:=Cg9 hc;have ht:Et c=Aw x 2++Am Ef::Aw y 2:=by rw[Ig,if_neg c1,if_pos c2,hx];rfl
   rw[ht] at h hn⊢
   have h1:=h.right;have h2:At l (k+(Aw x 2).length+1) (Aw y 2):=At.tail h1;have e1:k+(Aw x 2++Am Ef::Aw y 2).length=k+(Aw x 2).length+1+(Aw y 2).length:=by rw[List.length_append,List.length_cons];omega
   rw[e1] at hn⊢
   have s1:=Qs (hp x (by rw[hx];simp)) h.left rfl (by rw[h1.head.1];decide+kernel);have s2:=Qs (hp y (by rw[hx];simp)) h2 rfl (Fo hn (by decide));rw[Vc h.1,Xf s1 (s:=Gr) (by decide),s1];show(if isW l _ [Ef] then _ else _)=_;rw[if_pos (At.word h1),s2,c2,hx];rfl
  ·rw[if_neg c2] at hc;simp only[Bool.and_eq_true,decide_eq_true_eq] at hc;have ht:Et c= [Am Gr]:=by rw[Ig,if_neg c1,if_neg c2]
   rw[ht] at h hn⊢
   rw[Vc h.1,if_pos (At.word h),hc.1.1,List.length_eq_zero_iff.1 hc.1.2];rfl
theorem Cw6 {a:As} (ha:(a.c.isEmpty || Co a.c)=true) (hp: ∀x∈Cu a,RT l p x) (h:At l k (Ez a)) (hn:nof wA (tk l (k+(Ez a).length))):
  p.assoc k= .ok (stA a) (k+(Ez a).length):=by
 have he:=hp a.e (Je a);rw[Tf];cases hc:a.c with
 | nil=>
  rw[Kj,hc,List.isEmpty_nil,if_pos rfl] at h hn⊢
  exact Ah5 h.1 ((he _ h).full (Fo hn (by decide))) (Fc hn (by decide) []) (Fc hn (by decide) []) (Fc hn (by decide) [])
 | cons c r=>
  rw[hc] at ha;simp only[List.isEmpty_cons,Bool.false_or,Co,Bool.and_eq_true,decide_eq_true_eq,List.all_eq_true] at ha;have ht:Ez a=Fm Fk ((c::r).map Et)++Am Bc::Ag a.e:=by rw[Kj,hc,List.isEmpty_cons,if_neg (by simp)]
  rw[ht] at h hn⊢
  have h1:=h.right;have h2:At l (k+(Fm Fk ((c::r).map Et)).length+1) (Ag a.e):=At.tail h1;have e1:k+(Fm Fk ((c::r).map Et)++Am Bc::Ag a.e).length=k+(Fm Fk ((c::r).map Et)).length+1+(Ag a.e).length:=by rw[List.length_append,List.length_cons];omega
  rw[e1] at hn⊢
  have hex:=(he _ h2).full (Fo hn (by decide));have hw:=At.word h1;obtain⟨j,g1,g2,g3,g4,g5⟩:=Ah7 (l:=l) (f:=p.choice) (fL:=p.choicesL) (sep:=Fk) (W:=w0) (g:=Et) (st:=stC) (fun az k hk=>Bp4 az hk) (by decide+kernel) (b:=c) (r:=r)
   (fun d hd k hat hno=>Ch1 (ha.2 d hd) (fun x hx=>hp x (Ky (c:=d) (by rw[hc];exact hd) hx)) hat hno) h.left rfl (by rw[h1.head.1];decide+kernel) (Dw hw (by decide))
  rw[Au4 h.1,g1];show(if _ then _ else _)=_;rw[if_neg,Uy]
  ·by_cases c3:c.kind=3
   ·have hr0:r= []:=by
     have:=ha.2 c (by simp);unfold Dt at this;rw[if_neg (by omega),if_neg (by omega)] at this;simp only[Bool.and_eq_true,decide_eq_true_eq,List.length_cons] at this;exact List.length_eq_zero_iff.1 (by omega)
    rw[if_pos c3,g5 hr0,Da,if_pos hw,hex,hr0];rfl
   ·rw[if_neg c3,g2];show Da l Bc _ (fun k=>(p.expr k).then fun e k=>Res.ok (As.mk ((c::r).map stC) e) k)=_;rw[Da,if_pos hw,hex];rfl
  ·rintro⟨_,b1,b2⟩;cases r with
   | nil=>rw[g5 rfl,hw] at b2;cases b2
   | cons d r'=>rw[g4 (by simp)] at b1;cases b1
end
end Go.Dl

-- Chapter 3: expressions: the plain laws, part 13: the tokens of an expression are read as that expression: each kind.
namespace Go.Dl
open Go
set_option maxRecDepth 10000
theorem Ch2 {az:List As} (h:My az=false) (li:Int):Ad5 li az= .mk 9 0 0 [] [] az li 0 0:=by
 match az,h with
 | [],_=>rfl
 | [x],h=>
  show(if x.c= [] then x.e else _)=_
  rw[if_neg]
  intro c
  simp [My,c] at h
 | _::_::_,_=>rfl
theorem Lb: ∀ {l:List As},Ew l=true-> ∀a∈l,(a.c.isEmpty || Co a.c)=true
 | [],_,a,h=>by cases h
 | b::r,h,a,hm=>by
  rw[Ew,Bool.and_eq_true] at h;rcases List.mem_cons.1 hm with rfl | hm
  ·have:=h.1;rw[Bool.or_eq_true] at this⊢
   rcases this with h1 | h1
   ·exact .inl h1
   ·rw[Bool.and_eq_true] at h1;exact .inr h1.1
  ·exact Lb h.2 a hm
theorem Xi {α β:Type} (x:α) (k:Nat) (f:α->Nat->Res β):(Res.ok x k).then f=f x k:=rfl
theorem Vf {l:List Tok} {α:Type} {s:List UInt8} {k:Nat} {f:Nat->Res α} (h:isW l k [s]=true):Da l s k f=f (k+1):=by rw[Da,if_pos h]
section
variable {l:List Tok} {k k':Nat} {s:List UInt8} {p:PS} [hr:Rdr l p] {e:Ex}
variable (hz: ∀k,(tk l k).line=0) (hf:Ae e=true) (ih: ∀x∈parts e,RT l p x)
include hf hz
theorem rt1 (h:e.kind=1):RT l p e:=by
 obtain⟨a,b,c,d⟩:=ff1 h hf;intro k hat;rw[Ct4 h] at hat⊢
 refine .of5 ⟨hat.1,hat.le⟩ (lv5 (by omega)) (fun c=>(Mf (by omega) c).elim) (fun c=>by rw[h] at c;cases c) fun _=> ?_;have ht:=hat.head.1;rw[Ns hat.1,ht,if_pos (show(Bd7 e.n).kind=3 from rfl),Dh,h,a,b,c,d];rfl
theorem rt2 (h:e.kind=2):RT l p e:=by
 obtain⟨a,b,c,d,d2⟩:=ff2 h hf;intro k hat;rw[Ct5 h] at hat⊢
 refine .of5 ⟨hat.1,hat.le⟩ (lv5 (by omega)) (fun c=>(Mf (by omega) c).elim) (fun c=>by rw[h] at c;cases c) fun _=> ?_;have hw:=At.word hat;rw[Ns hat.1,if_neg (Fw hw).2.1,if_pos hw,hz,Dh,h,a,b,c,d,d2];rfl
theorem rt3 (h:e.kind=3):RT l p e:=by
 intro k hat;rw[Ao1 h] at hat⊢
 refine .ofName ⟨hat.1,hat.le⟩ (Pg (by omega)) ?_;have ht:=hat.head.1;rw[Au5 hat.1,Fq,if_pos (by rw[ht];rfl),hz,ht,Ah8 h hf];rfl
include ih
theorem rt4 (h:e.kind=4):RT l p e:=by
 obtain⟨⟨x,hx,hn⟩,b,c,d⟩:=Ch0 (.inl h) hf;have ht:Ag e=Ag x++ [Am In,Hs e.s]:=by rw[Ct6 h];unfold tE;rw[hx];rfl
 intro k hat;rw[ht] at hat⊢
 have r:=ih x (Ar (by rw[hx];simp)) k hat.left;have h1:=hat.right;have h2:At l (k+(Ag x).length+1) [Hs e.s]:=At.tail h1;have h3:=h2.head.1;have w1:isW l (k+(Ag x).length) [In]=true:=At.word h1;have w4:isW l (k+(Ag x).length+1) [Qi]=false:=Fc (ws:= [Qi]) (by rw[h3];exact Ah2 (.inl rfl)) (by simp) [];refine .ofName ⟨hat.1,hat.le⟩ (Pg (by omega)) ?_;rw[r.name hn,Rl _ _ r.le.2,Cu1 (s:=In) (t:=Qi),w4,Bool.and_false,if_neg (by simp),if_pos w1,Fq,if_pos (by rw[h3];rfl),h3,Dh e,h,hx,b,c,d,List.length_append];rfl
theorem rt5 (h:e.kind=5):RT l p e:=by
 obtain⟨⟨x,hx,hn⟩,b,c,d,d2⟩:=ff5 h hf;have ht:Ag e=Ag x++ [Am In,Am Qi]:=by rw[Ct7 h];unfold tE;rw[hx];rfl
 intro k hat;rw[ht] at hat⊢
 have r:=ih x (Ar (by rw[hx];simp)) k hat.left;have w1:isW l (k+(Ag x).length) [In,Qi]=true:=At.words (ws:= [In,Qi]) (ts:= []) hat.right;refine .ofName ⟨hat.1,hat.le⟩ (Pg (by omega)) ?_;rw[r.name hn,Rl _ _ r.le.2,if_pos w1,Dh e,h,hx,b,c,d,d2,List.length_append];rfl
theorem rt6 (h:e.kind=6):RT l p e:=by
 obtain⟨⟨x,hx,hn⟩,b,c,d⟩:=Ch0 (.inr h) hf;have ht:Ag e=Ag x++ [Am Fl,Hs e.s]:=by rw[Ct8 h];unfold tE;rw[hx];rfl
 intro k hat;rw[ht] at hat⊢
 have r:=ih x (Ar (by rw[hx];simp)) k hat.left;have h1:=hat.right;have h2:At l (k+(Ag x).length+1) [Hs e.s]:=At.tail h1;have h3:=h2.head.1;have w1:isW l (k+(Ag x).length) [Fl]=true:=At.word h1;have w2:isW l (k+(Ag x).length) [In]=false:=Dw w1 (by decide);have w4:isW l (k+(Ag x).length+1) [Bo]=false:=Fc (ws:= [Bo]) (by rw[h3];exact Ah2 (.inl rfl)) (by simp) [];refine .ofName ⟨hat.1,hat.le⟩ (Pg (by omega)) ?_;rw[r.name hn,Rl _ _ r.le.2,Eg w2,w2,Dw w1 (t:=Bo) (by decide),Cu1 (s:=Fl) (t:=Bo),w4,Bool.and_false,if_neg (by simp),if_neg (by simp),if_neg (by simp),if_neg (by simp),if_pos w1,Fq,if_pos (by rw[h3];rfl),h3,Dh e,h,hx,b,c,d,List.length_append];rfl
theorem rt7 (hv: ∀x∈parts e,Ae x=true) (h:e.kind=7):RT l p e:=by
 obtain⟨⟨x,hx,hn⟩,ha,b,c,d⟩:=ff7 h hf;have ht:Ag e=Ag x++Am Bo::(taE e++ [Am Cc]):=by rw[Ct9 h];unfold tE;rw[hx];rfl
 intro k hat;rw[ht] at hat⊢
 have r:=ih x (Ar (by rw[hx];simp)) k hat.left;have h1:=hat.right;have h2:At l (k+(Ag x).length+1) (taE e++ [Am Cc]):=At.tail h1;have h3:=h2.right;have w1:isW l (k+(Ag x).length) [Bo]=true:=At.word h1;have w2:isW l (k+(Ag x).length) [In]=false:=Dw w1 (by decide);have w3:=At.word h3;rw[Hx,Bool.and_eq_true,Bool.and_eq_true,Bool.and_eq_true,decide_eq_true_eq,decide_eq_true_eq,List.all_eq_true] at ha;refine .ofName ⟨hat.1,hat.le⟩ (Pg (by omega)) ?_;cases hea:e.a with
 | nil=>rw[hea] at ha;simp at ha
 | cons a az=>
  have hta:taE e=Fm Gx ((a::az).map Ez):=by rw[taE,hea]
  obtain⟨j,g1,g2,g3,g4,g5⟩:=Ah7 (l:=l) (f:=p.arg) (fL:=p.argsL) (sep:=Gx) (W:=wA) (g:=Ez) (st:=stA) (fun az k hk=>Dg5 az hk) (by decide+kernel) (b:=a) (r:=az)
   (fun c hc k hat hno=>Dr0 hz (ha.2 c (by rw[hea];exact hc)) (fun y hy=>⟨hv y (Gv (by rw[hea];exact hc) hy),ih y (Gv (by rw[hea];exact hc) hy)⟩) hat hno) (by rw[<-hta];exact h2.left) rfl (by rw[<-hta,h3.head.1];decide+kernel) (by rw[<-hta];exact Dw w3 (by decide))
  rw[r.name hn,Rl _ _ r.le.2,Eg w2,w2,if_neg (by simp),if_neg (by simp),if_pos w1,g1];show(p.argsL [stA a] j).then _=_
  rw[g2];show Da l Cc _ (fun k=>p.nameL 0 (.mk 7 0 0 [] [stE x] ((a::az).map stA) 0 0 0) k)=_;rw[Da,<-hta,if_pos w3,Dh e,h,hx,b,c,d,hea,List.length_append,List.length_cons,List.length_append];congr 1;simp only[List.length_cons,List.length_nil];omega
theorem rt8 (h:e.kind=8):RT l p e:=by
 obtain⟨⟨x,y,hx,hn⟩,b,c,d,d2⟩:=ff8 h hf;have ht:Ag e=Ag x++Am Fl::Pq (!Ki y.kind) (Ag y):=by rw[Cu0 h];unfold tE;rw[hx];rfl
 intro k hat;rw[ht] at hat⊢
 have r:=ih x (Ar (by rw[hx];simp)) k hat.left;have hy:=ih y (Ar (by rw[hx];simp));have h1:=hat.right;have h2:At l (k+(Ag x).length+1) (Pq (!Ki y.kind) (Ag y)):=At.tail h1;have w1:isW l (k+(Ag x).length) [Fl]=true:=At.word h1;have w2:isW l (k+(Ag x).length) [In]=false:=Dw w1 (by decide);have key:isW l (k+(Ag x).length+1) [Bo]=true/\p.paren (k+(Ag x).length+1)= .ok (stE y) (k+(Ag x).length+1+(Pq (!Ki y.kind) (Ag y)).length):=by
  cases hb:Ki y.kind with
  | true=>
   rw[hb] at h2;have h2:At l (k+(Ag x).length+1) (Ag y):=h2;have hpr:=(hy _ h2).bare hb;refine⟨?_,hpr⟩;have hy5:y.kind=9\/y.kind=10:=by simpa [Ki] using hb
   rcases hy5 with h9 | h9
   ·rw[Bv4 h9] at h2;exact At.word h2
   ·rw[Au0 h9] at h2;exact At.word h2
  | false=>
   rw[hb] at h2;have h2:At l (k+(Ag x).length+1) (Am Bo::(Ag y++ [Am Cc])):=h2;have h3:At l (k+(Ag x).length+1+1) (Ag y++ [Am Cc]):=At.tail h2;have h4:=h3.right;refine⟨At.word h2,?_⟩;rw[Ah6 (At.word h2) ((hy _ h3.left).full (by rw[h4.head.1];decide+kernel)) (At.word h4)];show _=Res.ok _ (_+(Am Bo::(Ag y++ [Am Cc])).length);congr 1;simp only[List.length_cons,List.length_append,List.length_nil];omega
 refine .ofName ⟨hat.1,hat.le⟩ (Pg (by omega)) ?_;rw[r.name hn,Rl _ _ r.le.2,Eg w2,w2,Dw w1 (t:=Bo) (by decide),Cu1,w1,key.1,if_neg (by simp),if_neg (by simp),if_neg (by simp),if_pos (by rfl),key.2];show p.nameL 0 _ _=_;rw[Dh e,h,hx,b,c,d,d2,List.length_append,List.length_cons];congr 1;omega
theorem rt9 (h:e.kind=9):RT l p e:=by
 obtain⟨hl,ha,b,c,d⟩:=ff9 h hf;intro k hat;rw[Bv4 h] at hat⊢
 have h2:At l (k+1) (taE e++ [Am Cc]):=At.tail hat;have h3:=h2.right;have w3:=At.word h3;have w0':=At.word hat;rw[Ey] at ha;simp only[Bool.and_eq_true,decide_eq_true_eq,Bool.not_eq_true'] at ha;have hpar:p.paren k= .ok (stE e) (k+(Am Bo::(taE e++ [Am Cc])).length):=by
  cases hea:e.a with
  | nil=>rw[hea] at ha;simp at ha
  | cons a az=>
   have hta:taE e=Fm Gx ((a::az).map Ez):=by rw[taE,hea]
   obtain⟨j,g1,g2,g3,g4,g5⟩:=Ah7 (l:=l) (f:=p.assoc) (fL:=p.assocsL) (sep:=Gx) (W:=wA) (g:=Ez) (st:=stA) (fun az k hk=>Ao8 az hk) (by decide+kernel) (b:=a) (r:=az)
    (fun c hc k hat hno=>Cw6 (Lb ha.2 c (by rw[hea];exact hc)) (fun y hy=>ih y (Gv (by rw[hea];exact hc) hy)) hat hno) (by rw[<-hta];exact h2.left) rfl (by rw[<-hta,h3.head.1];decide+kernel) (by rw[<-hta];exact Dw w3 (by decide))
   rw[Ve w0' g1 g2 (by rw[<-hta];exact w3),hz,Ch2 (by rw[Ah0,<-hea];exact ha.1.2),Dh e,h,hl,b,c,d,hea,<-hta];congr 1;simp only[List.length_cons,List.length_append,List.length_nil];omega
 exact .of5 ⟨hat.1,hat.le⟩ (lv5 (by omega)) (fun c=>(Mf (by omega) c).elim) (fun _=>hpar) fun _=>by rw[Th w0',hpar]
theorem Dw3 (h:e.kind=10):RT l p e:=by
 obtain⟨⟨x,y,z,hx⟩,b,c,d,d2⟩:=Dq7 h hf;have ht:Ag e=Am Bo::Am wIf::(Ag x++Am Jm::(Ag y++Am Ke::(Ag z++ [Am Cc]))):=by rw[Au0 h];unfold tE;rw[hx];rfl
 intro k hat;rw[ht] at hat⊢
 have w0':=At.word hat;have h1:At l (k+1) (Am wIf::_):=At.tail hat;have h2:=At.tail h1;have h3:=h2.right;have h4:=(At.tail h3);have h5:=h4.right;have h6:=(At.tail h5);have h7:=h6.right;have r1:=(ih x (Ar (by rw[hx];simp)) _ h2.left).full (by rw[h3.head.1];decide+kernel);have r2:=(ih y (Ar (by rw[hx];simp)) _ h4.left).full (by rw[h5.head.1];decide+kernel);have r3:=(ih z (Ar (by rw[hx];simp)) _ h6.left).full (by rw[h7.head.1];decide+kernel);have hpar:p.paren k= .ok (stE e) (k+(Am Bo::Am wIf::(Ag x++Am Jm::(Ag y++Am Ke::(Ag z++ [Am Cc])))).length):=by
  rw[Bv9 hat.1,Vf w0',if_pos (At.word h1),r1];simp only[Xi,Vf (At.word h3),r2,Vf (At.word h5),r3,Vf (At.word h7)];rw[hz,Dh e,h,hx,b,c,d,d2];congr 1;simp only[List.length_cons,List.length_append,List.length_nil];omega
 exact .of5 ⟨hat.1,hat.le⟩ (lv5 (by omega)) (fun c=>(Mf (by omega) c).elim) (fun _=>hpar) fun _=>by rw[Th w0',hpar]
theorem Dw4 (h:e.kind=11):RT l p e:=by
 obtain⟨⟨x,hx⟩,⟨o,ho,ho2⟩,b,c,d⟩:=Dq8 h hf;have ht:Ag e=(Al o).map Am++Aw x (Gq e):=by rw[Bo7 h,ho,Int.toNat_natCast];unfold pE tE;rw[hx];rfl
 have hlv:Ak e=if o=18\/o=19 then 2 else 4:=by
  unfold Ak;rw[h,ho,if_neg (by decide),if_pos rfl];rcases ho2 with rfl | rfl | rfl | rfl<;>rfl
 have hR:=ih x (Ar (by rw[hx];simp));intro k hat;rw[ht] at hat⊢
 have h1:=hat.right;rw[List.length_map] at h1;have hst: ∀li,li=0->Kf o li (stE x)=stE e:=fun li hli=>by
  rw[Kf,if_neg (by omega),Dh e,h,ho,hx,b,c,d,hli];rfl
 have e1:k+((Al o).map Am++Aw x (Gq e)).length=k+(Al o).length+(Aw x (Gq e)).length:=by rw[List.length_append,List.length_map];omega
 by_cases c1:o=18\/o=19
 ·have hl2:Ak e=2:=by rw[hlv,if_pos c1]
  have hM:Gq e=3:=by rw[Gq,if_pos hl2]
  rw[hM] at hat h1 e1⊢
  rw[e1];obtain⟨q1,q2⟩:=Be6 (want:=0) (.inr (.inl ⟨by simp [Ej];omega,rfl⟩)) hat (.inl rfl);refine .of2 ⟨hat.1,by have:=h1.le;exact this⟩ hl2 fun hn=> ?_;rw[Ah3 hat.1,q1];show(p.term (k+(Al o).length)).then _=_
  rw[Cw3 hR h1 rfl (s53 hn),Rm h1.le hn];show p.addL (Kf o _ (stE x)) _=_;rw[hst _ (hz k)]
 ·have hl2:Ak e=4:=by rw[hlv,if_neg c1]
  have hM:Gq e=5:=by rw[Gq,if_neg (by omega)]
  rw[hM] at hat h1 e1⊢
  rw[e1];obtain⟨q1,q2⟩:=Be6 (want:=0) (.inr (.inr (.inr (.inr ⟨by simp [Gp];omega,rfl⟩)))) hat (.inl rfl);refine .of4 ⟨hat.1,by have:=h1.le;exact this⟩ hl2 fun hn=> ?_;rw[Ah4 hat.1,q1];show(p.primary (k+(Al o).length)).then _=_
  rw[Du8 hR h1 rfl hn];show Res.ok (Kf o _ (stE x)) _=_;rw[hst _ (hz k)]
end
end Go.Dl

-- Chapter 3: expressions: the plain laws, part 14: the tokens of an expression are read as that expression: operators, membership; all.
namespace Go.Dl
open Go
set_option maxRecDepth 10000
def hdW (o:Nat):List UInt8:=(Al o).headD []
theorem Dr1: ∀o,o<18->1<=o->Al o=hdW o::(Al o).tail:=by decide+kernel
theorem Dg9: ∀o,o<18->1<=o->(o<3->nof w3 (Am (hdW o)))/\(o<7->nof w5 (Am (hdW o)))/\(7<=o->o<13->nof w2 (Am (hdW o)))/\(13<=o->nof w1 (Am (hdW o))):=by decide+kernel
section
variable {l:List Tok} {k k':Nat} {s:List UInt8} {p:PS} [hr:Rdr l p] {e:Ex}
theorem Dh0 {o:Nat} {ts:List Tok} (h1:1<=o) (h2:o<=17) (h:At l k ((Al o).map Am++ts)):tk l k=Am (hdW o):=by
 rw[Dr1 o (by omega) h1] at h;exact(At.head h).1
theorem Ch3 {o:Nat} {x y:Ex} (h1:13<=o) (h2:o<=17) (hR:RT l p y) (h:At l k ((Al o).map Am++Aw y 1)) (hk':k'=k+(Al o).length+(Aw y 1).length) (hn:nof w1 (tk l k')) (want:Nat) (hw:want=0\/want=o):
  (opF l want k Ci)=(o,k+(Al o).length)/\p.restL o x k=p.restL o (both o x (stE y)) k':=by
 have h3:=h.right;rw[List.length_map] at h3;have hrel:=Dl1 hR h3 hk' hn;have ho:o∈Ci:=by simp [Ci];omega
 have hs: ∃z j,p.simple (k+(Al o).length)= .ok z j:=by
  rw[Xh] at hrel;cases c:p.simple (k+(Al o).length) with
  | bot=>rw[c] at hrel;cases hrel
  | fail j=>rw[c] at hrel;cases hrel
  | ok z j=>exact⟨z,j,rfl⟩
 obtain⟨z,j,hs⟩:=hs;have q: ∀want,want=0\/want=o->opF l want k Ci=(o,k+(Al o).length):=fun want hw=>Dq6 ho h hw hs;refine⟨q want hw,?_⟩;rw[Vb o x h.1,if_neg (by omega),q o (.inr rfl),if_neg (by dsimp only;omega)];have e1:((p.simple (k+(Al o).length)).then fun y k=>(p.relation y k).then fun y k=>p.restL o (both o x y) k)=(Xh p (k+(Al o).length)).then fun y k=>p.restL o (both o x y) k:=by rw[Xh,Ah1]
 show((p.simple (k+(Al o).length)).then fun y k=>(p.relation y k).then fun y k=>p.restL o (both o x y) k)=_;rw[e1,hrel];rfl
variable (hz: ∀k,(tk l k).line=0) (hf:Ae e=true) (ih: ∀x∈parts e,RT l p x)
include hf ih
theorem Dw5 (h:e.kind=12):RT l p e:=by
 obtain⟨⟨x,y,hx⟩,⟨o,ho,ho1,ho2⟩,b,c,d⟩:=Dq9 h hf;have ht:Ag e=Aw x (Cw e)++((Al o).map Am++Aw y (Eb e)):=by rw[Bo8 h,ho,Int.toNat_natCast];unfold pE tE;rw[hx];rfl
 have hlv:Ak e=if 13<=o then 0 else if 7<=o then 1 else if o<=2 then 2 else 3:=by
  unfold Ak;rw[h,ho,if_neg (by decide),if_neg (by decide),if_pos rfl]
  repeat' split
  all_goals omega
 have hX:=ih x (Ar (by rw[hx];simp));have hY:=ih y (Ar (by rw[hx];simp));have hst:stE e=both o (stE x) (stE y):=by
  rw[Dh e,h,ho,hx,b,c,d,both,Nr];rfl
 have g0:e.l.getD 0 ex0=x:=by rw[hx];rfl
 have hwn:=Dg9 o (by omega) ho1;intro k hat;rw[ht] at hat⊢
 have h1:=hat.right;have hhd:=Dh0 ho1 ho2 h1;have h2:=h1.right;rw[List.length_map] at h2;have e1:k+(Aw x (Cw e)++((Al o).map Am++Aw y (Eb e))).length=k+(Aw x (Cw e)).length+(Al o).length+(Aw y (Eb e)).length:=by
  rw[List.length_append,List.length_append,List.length_map];omega
 have hle:=hat.le;rw[e1] at hle⊢
 by_cases c13:13<=o
 ·have hl:Ak e=0:=by rw[hlv,if_pos c13]
  have hR:Eb e=1:=by rw[Eb,hl];rfl
  have hL:Cw e=if x.kind=12/\x.oper=o then 0 else 1:=by
   rw[Cw,hl,if_neg (by decide),g0,ho];by_cases cc:x.kind=12/\x.oper=o
   ·rw[if_pos cc,if_neg (by rintro⟨_,a | a⟩;exact a cc.1;exact a cc.2)]
   ·rw[if_neg cc,if_pos ⟨rfl,by by_cases c1:x.kind=12;exact .inr fun a=>cc ⟨c1,a⟩;exact .inl c1⟩]
  rw[hR] at h1 h2 hle⊢
  refine .of0 ⟨hat.1,hle⟩ hl fun hn=> ?_;rw[hst,ho,Int.toNat_natCast];have hr1:=fun want hw=>Ch3 (x:=stE x) c13 ho2 hY h1 rfl hn want hw;by_cases cc:x.kind=12/\x.oper=o
  ·rw[hL,if_pos cc] at hat hr1 hhd⊢
   have hpx:Aw x 0=Ag x:=by
    rw[Aw,decide_eq_false (by have:=(Kk x).1;omega)];rfl
   rw[hpx] at hat hr1 hhd⊢
   have r:=hX _ hat.left;have hlx:Ak x=0:=by
    unfold Ak;rw[cc.1,cc.2,if_neg (by decide),if_neg (by decide),if_pos rfl,if_pos (by omega)]
   rw[r.exp hlx (by rw[hhd];exact hwn.2.2.2 c13),cc.2,Int.toNat_natCast,(hr1 0 (.inl rfl)).2]
  ·rw[hL,if_neg cc] at hat hr1 hhd⊢
   have hrel:=Dl1 hX hat.left rfl (by rw[hhd];exact hwn.2.2.2 c13);rw[Vd hat.1,hrel];show p.restL (opF l 0 _ Ci).1 (stE x) _=_;rw[(hr1 0 (.inl rfl)).1,(hr1 0 (.inl rfl)).2]
 ·by_cases c7:7<=o
  ·have hl:Ak e=1:=by rw[hlv,if_neg c13,if_pos c7]
   have hR:Eb e=2:=by rw[Eb,hl];rfl
   have hL:Cw e=2:=by rw[Cw,hl];rfl
   rw[hL] at hat h1 h2 hhd hle⊢
   rw[hR] at h1 h2 hle⊢
   refine .of1 ⟨hat.1,hle⟩ hl fun hn=> ?_;have s1:=Qs hX hat.left rfl (by rw[hhd];exact hwn.2.2.1 c7 (by omega));have s2:=Qs hY h2 rfl (s2d hn);obtain⟨q1,q2⟩:=Be6 (want:=0) (.inl ⟨by simp [Io];omega,rfl⟩) h1 (.inl rfl);rw[hst,Xh,s1];show p.relation (stE x) _=_;rw[Me _ h1.1,q1,if_pos (by dsimp only;omega),s2];rfl
  ·by_cases c2:o<=2
   ·have hl:Ak e=2:=by rw[hlv,if_neg c13,if_neg c7,if_pos c2]
    have hR:Eb e=3:=by rw[Eb,hl];rfl
    have hL:Cw e=2:=by rw[Cw,hl,if_neg (by decide),if_neg (by rintro⟨a,_⟩;cases a)]
    rw[hL] at hat h1 h2 hhd hle⊢
    rw[hR] at h1 h2 hle⊢
    refine .of2 ⟨hat.1,hle⟩ hl fun hn=> ?_;obtain⟨q1,q2⟩:=Be6 (want:=0) (.inr (.inr (.inl ⟨by simp [Oq];omega,rfl⟩))) h1 (.inl rfl);rw[hst,Dl0 hX hat.left rfl (by rw[hhd];exact hwn.1 (by omega)),Cv6 _ h1.1,q1,if_neg (by dsimp only;omega)];show(p.term (_+(Al o).length)).then _=_
    rw[Cw3 hY h2 rfl (s53 hn),Rm hle hn];rfl
   ·have hl:Ak e=3:=by rw[hlv,if_neg c13,if_neg c7,if_neg c2]
    have hR:Eb e=4:=by rw[Eb,hl];rfl
    have hL:Cw e=3:=by rw[Cw,hl,if_neg (by decide),if_neg (by rintro⟨a,_⟩;cases a)]
    rw[hL] at hat h1 h2 hhd hle⊢
    rw[hR] at h1 h2 hle⊢
    refine .of3 ⟨hat.1,hle⟩ hl fun hn=> ?_;obtain⟨q1,q2⟩:=Be6 (want:=0) (.inr (.inr (.inr (.inl ⟨by simp [Ot];omega,rfl⟩)))) h1 (.inl rfl);rw[hst,Cw3 hX hat.left rfl (by rw[hhd];exact hwn.2.1 (by omega)),Cv8 _ h1.1,q1,if_neg (by dsimp only;omega)];show(p.factor (_+(Al o).length)).then _=_
    rw[Du9 hY h2 rfl hn];rfl
theorem Dl2 {j:Nat} {x:Ex} {kind:Int} (hkd:kind=13\/kind=14) (h:e.kind=kind) (hx:(∃y z,e.l= [x,y,z])\/ ∃y,e.l= [x,y]/\Az y=true) (b:e.oper=0) (c:e.n=0) (d:e.s= []) (d2:e.a= []) (ha:At l j (Ga e)) (hk':k'=j+(Ga e).length) (hn:nof w2d (tk l k')):
  inK l (stE x) kind j p= .ok (stE e) k':=by
 rcases hx with⟨y,z,hx⟩ | ⟨y,hx,hny⟩
 ·have hY:=ih y (Ar (by rw[hx];simp));have hZ:=ih z (Ar (by rw[hx];simp));have ht:Ga e=Aw y 2++Am Ef::Aw z 2:=by unfold Ga pE tE;rw[hx];rfl
  have hst:stE e= .mk kind 0 0 [] [stE x,stE y,stE z] [] 0 0 0:=by rw[Dh e,h,hx,b,c,d,d2];rfl
  rw[ht] at ha hk';have h1:=ha.right;have h2:At l (j+(Aw y 2).length+1) (Aw z 2):=At.tail h1;have s1:=Qs hY ha.left rfl (by rw[h1.head.1];decide+kernel);have s2:=Qs hZ h2 (k':=k') (by rw[hk',List.length_append,List.length_cons];omega) (s2d hn);rw[inK,s1,Xi,if_pos (At.word h1),s2,Xi,hst,Nr]
 ·have hY:=ih y (Ar (by rw[hx];simp));have ht:Ga e=Ag y:=by unfold Ga pE tE;rw[hx];rfl
  have hst:stE e= .mk kind 0 0 [] [stE x,stE y] [] 0 0 0:=by rw[Dh e,h,hx,b,c,d,d2];rfl
  rw[ht] at ha hk';subst hk';have r:=hY _ ha;have s1:p.simple j= .ok (stE y) (j+(Ag y).length):=by
   rw[r.simp (by rw[Qn hny];decide) (s32 (s2d hn)),Rn r.le.2 (s2d hn)]
  rw[inK,s1,Xi,Fc hn (by decide),if_neg (by simp),Uz,hny,if_pos rfl,hst,Nr]
theorem Dv1 (hkd:e.kind=13\/e.kind=14):RT l p e:=by
 obtain⟨hx',b,c,d,d2⟩:=Cw5 hkd hf;have hx: ∃x,(∃y z,e.l= [x,y,z])\/ ∃y,e.l= [x,y]/\Az y=true:=by
  rcases hx' with⟨x,y,z,hx⟩ | ⟨x,y,hx⟩
  ·exact⟨x, .inl ⟨y,z,hx⟩⟩
  ·exact⟨x, .inr ⟨y,hx⟩⟩
 clear hx';obtain⟨x,hx⟩:=hx;have g0:e.l.getD 0 ex0=x/\0<e.l.length:=by rcases hx with⟨y,z,hx⟩ | ⟨y,hx,_⟩<;>(rw[hx];exact⟨rfl,by simp⟩)
 have hX:=ih x (Ar (by rcases hx with⟨y,z,hx⟩ | ⟨y,hx,_⟩<;>(rw[hx];simp)));have hl:Ak e=1:=by unfold Ak;rw[if_pos hkd]
 have hp0:pE e 0 2=Aw x 2:=by rw[Dk5 g0.2,g0.1]
 intro k hat;rcases hkd with h | h
 ·rw[Bo9 h,hp0] at hat⊢
  have h1:=hat.right;have hw:=At.word h1;have h2:At l (k+(Aw x 2).length+1) (Ga e):=At.tail h1;have e1:k+(Aw x 2++Am wIn::Ga e).length=k+(Aw x 2).length+1+(Ga e).length:=by rw[List.length_append,List.length_cons];omega
  rw[e1];refine .of1 ⟨hat.1,h2.le⟩ hl fun hn=> ?_;rw[Xh,Qs hX hat.left rfl (by rw[h1.head.1];decide+kernel),Xi,Me _ h1.1,Rk hw (by decide),if_neg (by simp),if_pos hw];exact Dl2 hf ih (.inl rfl) h hx b c d d2 h2 rfl hn
 ·rw[Bp0 h,hp0] at hat⊢
  have h1:=hat.right;have hw:=At.word h1;have hw2:isW l (k+(Aw x 2).length) [Nf,wIn]=true:=At.words (ws:= [Nf,wIn]) h1;have h2:At l (k+(Aw x 2).length+2) (Ga e):=At.tail (At.tail h1);have e1:k+(Aw x 2++Am Nf::Am wIn::Ga e).length=k+(Aw x 2).length+2+(Ga e).length:=by rw[List.length_append,List.length_cons,List.length_cons];omega
  rw[e1];refine .of1 ⟨hat.1,h2.le⟩ hl fun hn=> ?_;rw[Xh,Qs hX hat.left rfl (by rw[h1.head.1];decide+kernel),Xi,Me _ h1.1,Rk hw (by decide),if_neg (by simp),Dw hw (t:=wIn) (by decide),if_neg (by simp),if_pos hw2];exact Dl2 hf ih (.inr rfl) h hx b c d d2 h2 rfl hn
end
theorem Lc {d:Nat} {e:Ex} (h:Cv d e=true):Ae e=true/\ ∀x∈parts e,Cv (d+1) x=true:=by
 rw[Iv,Bool.and_eq_true,Bool.and_eq_true,List.all_eq_true] at h;exact⟨h.1.2,h.2⟩
theorem Bp7 {l:List Tok} {p:PS} [hr:Rdr l p] (hz: ∀k,(tk l k).line=0) (e:Ex): ∀d,Cv d e=true->RT l p e:=by
 refine Ex.ind (p:=fun e=> ∀d,Cv d e=true->RT l p e) (fun e ih d hv=> ?_) e;obtain⟨hf,hp⟩:=Lc hv;have ih': ∀x∈parts e,RT l p x:=fun x hx=>ih x hx _ (hp x hx);have hvp: ∀x∈parts e,Ae x=true:=fun x hx=>(Lc (hp x hx)).1;by_cases c1:e.kind=1
 ·exact rt1 hz hf c1
 by_cases c2:e.kind=2
 ·exact rt2 hz hf c2
 by_cases c3:e.kind=3
 ·exact rt3 hz hf c3
 by_cases c4:e.kind=4
 ·exact rt4 hz hf ih' c4
 by_cases c5:e.kind=5
 ·exact rt5 hz hf ih' c5
 by_cases c6:e.kind=6
 ·exact rt6 hz hf ih' c6
 by_cases c7:e.kind=7
 ·exact rt7 hz hf ih' hvp c7
 by_cases c8:e.kind=8
 ·exact rt8 hz hf ih' c8
 by_cases c9:e.kind=9
 ·exact rt9 hz hf ih' c9
 by_cases c10:e.kind=10
 ·exact Dw3 hz hf ih' c10
 by_cases c11:e.kind=11
 ·exact Dw4 hz hf ih' c11
 by_cases c12:e.kind=12
 ·exact Dw5 hf ih' c12
 by_cases c13:e.kind=13\/e.kind=14
 ·exact Dv1 hf ih' c13
 exfalso;have:Ae e=false:=by
  unfold Ae;rw[if_neg c1,if_neg c2,if_neg c3,if_neg (by omega),if_neg c5,if_neg c7,if_neg c8,if_neg c9,if_neg c10,if_neg c11,if_neg c12,if_neg c13]
 rw[this] at hf;cases hf
end Go.Dl

-- Chapter 3: the package's writer: bounds, operators, membership, choices.
namespace Go.Dl
open Go Go.Proofs
set_option maxRecDepth 100000
theorem lx0 {e:List Ex} {x:Ex} {r:List Ex} (h:e=x::r):(e.flatMap dEx).take 9=dEx x:=by
 rw[h,List.flatMap_cons,List.take_append_of_le_length (by rw[Aj];omega),List.take_of_length_le (by rw[Aj];omega)]
theorem lx1 {e:List Ex} {x y:Ex} {r:List Ex} (h:e=x::y::r):((e.flatMap dEx).drop 9).take 9=dEx y:=by
 rw[h,List.flatMap_cons,List.drop_left' (Aj x)];exact lx0 rfl
theorem lx2 {e:List Ex} {x y z:Ex} {r:List Ex} (h:e=x::y::z::r):((e.flatMap dEx).drop 18).take 9=dEx z:=by
 rw[h,List.flatMap_cons,show 18=9+9 from rfl,<-List.drop_drop,List.drop_left' (Aj x)];exact lx1 rfl
section
variable {G:Nat->DVal}
set_option maxHeartbeats 4000000 in
theorem Vg (hG:GX G) (a b:Ex) (ha:WrC Tryz.prog G 255 [.agg (dEx a)] (Ag a)) (hb:WrC Tryz.prog G 255 [.agg (dEx b)] (Ag b)):WrC Tryz.prog G 421 [.agg (dEx a), .agg (dEx b)] (Aw a 2++Am Ef::Aw b 2):=by
 intro B r ts H hB hlen hw;rw[List.length_append,List.length_cons] at hlen;refine Ac Tryz.func421 Tryz.call421 rfl (by kernel_rfl) ?_;simp(disch:=omega) only[go_sem,↓reduceIte,DVal.cells];intro r4 hr4;dsimp only at hr4;obtain⟨K,hK⟩: ∃K',K'=upd H r4 (some (.cells (dEx a) 36)):=⟨_,rfl⟩;rw[<-hK];have gr4:K r4=some (.cells (dEx a) 36):=by rw[hK];exact Aa _ _ _
 have hwK:WAt (upd B r4 (some (.cells (dEx a) 36))) r ts K:=by rw[hK];exact hw.frame hr4 _
 have n4:r≠r4:=hw.ne hr4;have hB4:B r4=none:=(hw.lo hr4).1;simp(disch:=omega) only[go_sem,↓reduceIte,DVal.cells];intro r5 hr5;dsimp only at hr5;obtain⟨L,hL⟩: ∃K',K'=upd K r5 (some (.cells (dEx b) 36)):=⟨_,rfl⟩;rw[<-hL];have gr5:L r5=some (.cells (dEx b) 36):=by rw[hL];exact Aa _ _ _
 have hwL:WAt (upd (upd B r4 (some (.cells (dEx a) 36))) r5 (some (.cells (dEx b) 36))) r ts L:=by rw[hL];exact hwK.frame hr5 _
 have n5:r≠r5:=hwK.ne hr5;have hB5:=(hwK.lo hr5).1;have n45:r4≠r5:=Af hr5 gr4;have gr4':L r4=some (.cells (dEx a) 36):=by rw[hL];exact Ai gr4 n45
 obtain⟨C,hC⟩: ∃C,C=upd (upd B r4 (some (.cells (dEx a) 36))) r5 (some (.cells (dEx b) 36)):=⟨_,rfl⟩;rw[<-hC] at hwL;have hCr:C r=none:=by rw[hC,Aq _ _ _ _ n5,Aq _ _ _ _ n4];exact hB
 have c4:C r4=some (.cells (dEx a) 36):=by rw[hC];exact Ai (Aa _ _ _) n45
 have c5:C r5=some (.cells (dEx b) 36):=by rw[hC];exact Aa _ _ _
 simp(disch:=omega) only[go_sem,↓reduceIte,gr4'];refine(Ca hG a 2 ha C r _ _ hCr (by omega) hwL).mono ?_;rintro _ H1 ⟨rfl,h1⟩;simp(disch:=omega) only[go_sem,↓reduceIte];intro q1 hq1;dsimp only at hq1;simp(disch:=omega) only[go_sem,↓reduceIte];refine(Mk hG Ef hq1 hCr (by simp;omega) h1).mono ?_;rintro _ H2 ⟨rfl,h2⟩;have g5:=h2.keep c5 n5.symm;simp(disch:=omega) only[go_sem,↓reduceIte,g5];refine(Ca hG b 2 hb C r _ _ hCr (by simp;omega) h2).mono ?_;rintro _ H3 ⟨rfl,h3⟩;simp(disch:=omega) only[go_sem,↓reduceIte];refine Pm.refl ⟨rfl,?_⟩;rw[hC] at h3;have:=(h3.drop hB5).drop hB4;simpa using this
set_option maxHeartbeats 4000000 in
theorem Bp8 (hG:GX G) (e x:Ex) (o:Nat) (hl:e.l= [x]) (ho:e.oper=o) (ho2:o<22) (hx:WrC Tryz.prog G 255 [.agg (dEx x)] (Ag x)):WrC Tryz.prog G 376 [.agg (dEx e)] ((Al o).map Am++Aw x (Gq e)):=by
 intro B r ts H hB hlen hw;rw[List.length_append,List.length_map] at hlen;have hl0:=lx0 hl;have hfl:=Bj Aj e.l;have hll:e.l.length=1:=by rw[hl];rfl
 have hwo:=Sz ho2;have hwl:(Cr4.map dW).length=22:=rfl;refine Ac Tryz.func376 Tryz.call376 rfl (by kernel_rfl) ?_;simp(disch:=omega) only[go_sem,↓reduceIte,DVal.cells];intro r3 hr3;dsimp only at hr3;obtain⟨K,hK⟩: ∃K',K'=upd H r3 (some (.cells (dEx e) 36)):=⟨_,rfl⟩;rw[<-hK];have gr3:K r3=some (.cells (dEx e) 36):=by rw[hK];exact Aa _ _ _
 have hwK:WAt (upd B r3 (some (.cells (dEx e) 36))) r ts K:=by rw[hK];exact hw.frame hr3 _
 have n3:r≠r3:=hw.ne hr3;have hB3:B r3=none:=(hw.lo hr3).1;have hBK:upd B r3 (some (.cells (dEx e) 36)) r=none:=by rw[Aq _ _ _ _ n3];exact hB
 simp(disch:=omega) only[go_sem,↓reduceIte,gr3];refine(Jw G K e).mono ?_;rintro _ K1 ⟨rfl,rfl⟩;by_cases c:Ak e=2
 ·have hM:Gq e=3:=by rw[Gq,if_pos c]
  rw[hM] at hlen⊢
  simp(disch:=omega) only[go_sem,↓reduceIte,c];refine An (by kernel_rfl) (.take 0 (.take 2 (.take 3 (.go 1 [3] (.take 4 (.take 5 (.go 6 [] .done))))))) (by kernel_rfl) ?_;simp(disch:=omega) only[go_sem,↓reduceIte,gr3];refine(Gy G K1).mono ?_;rintro _ K2 ⟨rfl,rfl⟩;simp(disch:=omega) only[go_sem,↓reduceIte,gr3,ho,Jg,hwo,hwl,Int.toNat_natCast];refine(Hd hG (Al o) _ r _ _ hBK (by rw[List.length_map];omega) hwK).mono ?_;rintro _ H1 ⟨rfl,h1⟩;have g3:=h1.keep (Aa _ _ _) n3.symm;simp(disch:=omega) only[go_sem,↓reduceIte,g3,hll,hl0,hfl];refine(Ca hG x _ hx _ r _ _ hBK (by rw[List.length_append,List.length_map];omega) h1).mono ?_;rintro _ H2 ⟨rfl,h2⟩;simp(disch:=omega) only[go_sem,↓reduceIte];refine Pm.refl ⟨rfl,?_⟩;have:=h2.drop hB3;rw[List.append_assoc] at this;exact this
 ·have hM:Gq e=5:=by rw[Gq,if_neg c]
  rw[hM] at hlen⊢
  simp(disch:=omega) only[go_sem,↓reduceIte,c];refine An (by kernel_rfl) (.take 0 (.take 2 (.take 3 (.go 1 [3] (.take 4 (.take 5 (.go 6 [] .done))))))) (by kernel_rfl) ?_;simp(disch:=omega) only[go_sem,↓reduceIte,gr3];refine(Gy G K1).mono ?_;rintro _ K2 ⟨rfl,rfl⟩;simp(disch:=omega) only[go_sem,↓reduceIte,gr3,ho,Jg,hwo,hwl,Int.toNat_natCast];refine(Hd hG (Al o) _ r _ _ hBK (by rw[List.length_map];omega) hwK).mono ?_;rintro _ H1 ⟨rfl,h1⟩;have g3:=h1.keep (Aa _ _ _) n3.symm;simp(disch:=omega) only[go_sem,↓reduceIte,g3,hll,hl0,hfl];refine(Ca hG x _ hx _ r _ _ hBK (by rw[List.length_append,List.length_map];omega) h1).mono ?_;rintro _ H2 ⟨rfl,h2⟩;simp(disch:=omega) only[go_sem,↓reduceIte];refine Pm.refl ⟨rfl,?_⟩;have:=h2.drop hB3;rw[List.append_assoc] at this;exact this
set_option maxHeartbeats 4000000 in
theorem Bp9 (hG:GX G) (e x y:Ex) (o:Nat) (hl:e.l= [x,y]) (ho:e.oper=o) (ho2:o<22) (hx:WrC Tryz.prog G 255 [.agg (dEx x)] (Ag x)) (hy:WrC Tryz.prog G 255 [.agg (dEx y)] (Ag y)):
  WrC Tryz.prog G 377 [.agg (dEx e)] (Aw x (Cw e)++((Al o).map Am++Aw y (Eb e))):=by
 intro B r ts H hB hlen hw;rw[List.length_append,List.length_append,List.length_map] at hlen;have hl0:=lx0 hl;have hl1:=lx1 hl;have hfl:=Bj Aj e.l;have hll:e.l.length=2:=by rw[hl];rfl
 have hwo:=Sz ho2;have hwl:(Cr4.map dW).length=22:=rfl;have hlv:=Kk e;have g0:e.l.getD 0 ex0=x:=by rw[hl];rfl
 have hx0:(e.l.flatMap dEx)[0]? =some (.int .u8 x.kind):=by rw[hl,List.flatMap_cons,Ju];rfl
 have hx1:(e.l.flatMap dEx)[1]? =some (.int .u8 x.oper):=by rw[hl,List.flatMap_cons,Ju];rfl
 refine Ac Tryz.func377 Tryz.call377 rfl (by kernel_rfl) ?_;simp(disch:=omega) only[go_sem,↓reduceIte,DVal.cells];intro r3 hr3;dsimp only at hr3;obtain⟨K,hK⟩: ∃K',K'=upd H r3 (some (.cells (dEx e) 36)):=⟨_,rfl⟩;rw[<-hK];have gr3:K r3=some (.cells (dEx e) 36):=by rw[hK];exact Aa _ _ _
 have hwK:WAt (upd B r3 (some (.cells (dEx e) 36))) r ts K:=by rw[hK];exact hw.frame hr3 _
 have n3:r≠r3:=hw.ne hr3;have hB3:B r3=none:=(hw.lo hr3).1;have hBK:upd B r3 (some (.cells (dEx e) 36)) r=none:=by rw[Aq _ _ _ _ n3];exact hB
 simp(disch:=omega) only[go_sem,↓reduceIte,gr3];refine(Jw G K e).mono ?_;rintro _ K1 ⟨rfl,rfl⟩;have hwl1:IntKind.i64.wrap (Ak e+1)=Ak e+1:=by rw[IntKind.wrap_i64];omega
 by_cases c1:Ak e=1
 ·have hL:Cw e=2:=by rw[Cw,if_pos c1]
  have hR:Eb e=2:=by rw[Eb,if_pos c1]
  rw[hL,hR] at hlen⊢
  simp(disch:=omega) only[go_sem,↓reduceIte,c1,hwl1];simp(disch:=omega) only[go_sem,↓reduceIte,gr3,hll,hl0,hfl];refine(Ca hG x _ hx _ r _ _ hBK (by omega) hwK).mono ?_;rintro _ H1 ⟨rfl,h1⟩;have g3:=h1.keep (Aa _ _ _) n3.symm;simp(disch:=omega) only[go_sem,↓reduceIte];refine An (by kernel_rfl) (.take 0 (.take 2 (.take 3 (.go 1 [3] (.take 4 (.take 5 (.go 6 [] .done))))))) (by kernel_rfl) ?_;simp(disch:=omega) only[go_sem,↓reduceIte,g3];refine(Gy G H1).mono ?_;rintro _ K2 ⟨rfl,rfl⟩;simp(disch:=omega) only[go_sem,↓reduceIte,g3,ho,Jg,hwo,hwl,Int.toNat_natCast];refine(Hd hG (Al o) _ r _ _ hBK (by rw[List.length_append,List.length_map];omega) h1).mono ?_;rintro _ H3 ⟨rfl,h3⟩;have g3':=h3.keep (Aa _ _ _) n3.symm;simp(disch:=omega) only[go_sem,↓reduceIte,g3',hll,hl1,hfl];refine(Ca hG y _ hy _ r _ _ hBK (by rw[List.length_append,List.length_append,List.length_map];omega) h3).mono ?_;rintro _ H4 ⟨rfl,h4⟩;simp(disch:=omega) only[go_sem,↓reduceIte];refine Pm.refl ⟨rfl,?_⟩;have:=h4.drop hB3;rw[List.append_assoc,List.append_assoc] at this;exact this
 ·have hR:Eb e=Ak e+1:=by rw[Eb,if_neg c1]
  by_cases c0:Ak e=0
  ·have hR:Eb e=1:=by rw[Eb,if_neg c1,c0];rfl
   by_cases ck:x.kind=12
   ·by_cases co:x.oper=(o:Int)
    ·have hL:Cw e=0:=by rw[Cw,if_neg c1,g0,ho,if_neg (by rintro⟨_,a | a⟩;exact a ck;exact a co),c0]
     rw[hL,hR] at hlen⊢
     have c01: ¬(0:Int)=1:=by decide
     simp(disch:=omega) only[go_sem,↓reduceIte,c0,hwl1,c01];refine An (by kernel_rfl) (.take 0 (.take 1 (.take 2 (.take 3 (.take 4 (.take 5 (.take 6 (.take 7 (.take 8 (.take 9 (.take 10 (.take 11 (.take 12 (.take 13 (.take 14 (.take 15 (.take 16 (.take 17 (.take 18 (.take 19 (.take 20 .done))))))))))))))))))))) (by kernel_rfl) ?_;simp(disch:=omega) only[go_sem,↓reduceIte,gr3,hll,hfl,hx0,hx1,ck,co,ho];simp(disch:=omega) only[go_sem,↓reduceIte,gr3,hll,hl0,hfl];refine(Ca hG x _ hx _ r _ _ hBK (by omega) hwK).mono ?_;rintro _ H1 ⟨rfl,h1⟩;have g3:=h1.keep (Aa _ _ _) n3.symm;simp(disch:=omega) only[go_sem,↓reduceIte];refine An (by kernel_rfl) (.take 0 (.take 2 (.take 3 (.go 1 [3] (.take 4 (.take 5 (.go 6 [] .done))))))) (by kernel_rfl) ?_;simp(disch:=omega) only[go_sem,↓reduceIte,g3];refine(Gy G H1).mono ?_;rintro _ K2 ⟨rfl,rfl⟩;simp(disch:=omega) only[go_sem,↓reduceIte,g3,ho,Jg,hwo,hwl,Int.toNat_natCast];refine(Hd hG (Al o) _ r _ _ hBK (by rw[List.length_append,List.length_map];omega) h1).mono ?_;rintro _ H3 ⟨rfl,h3⟩;have g3':=h3.keep (Aa _ _ _) n3.symm;simp(disch:=omega) only[go_sem,↓reduceIte,g3',hll,hl1,hfl];refine(Ca hG y _ hy _ r _ _ hBK (by rw[List.length_append,List.length_append,List.length_map];omega) h3).mono ?_;rintro _ H4 ⟨rfl,h4⟩;simp(disch:=omega) only[go_sem,↓reduceIte];refine Pm.refl ⟨rfl,?_⟩;have:=h4.drop hB3;rw[List.append_assoc,List.append_assoc] at this;exact this
    ·have hL:Cw e=1:=by rw[Cw,if_neg c1,g0,ho,if_pos ⟨c0, .inr co⟩]
     rw[hL,hR] at hlen⊢
     simp(disch:=omega) only[go_sem,↓reduceIte,c0,hwl1];refine An (by kernel_rfl) (.take 0 (.take 1 (.take 2 (.take 3 (.take 4 (.take 5 (.take 6 (.take 7 (.take 8 (.take 9 (.take 10 (.take 11 (.take 12 (.take 13 (.take 14 (.take 15 (.take 16 (.take 17 (.take 18 (.take 19 (.take 20 .done))))))))))))))))))))) (by kernel_rfl) ?_;simp(disch:=omega) only[go_sem,↓reduceIte,gr3,hll,hfl,hx0,hx1,ck,co,ho];simp(disch:=omega) only[go_sem,↓reduceIte,gr3,hll,hl0,hfl];refine(Ca hG x _ hx _ r _ _ hBK (by omega) hwK).mono ?_;rintro _ H1 ⟨rfl,h1⟩;have g3:=h1.keep (Aa _ _ _) n3.symm;simp(disch:=omega) only[go_sem,↓reduceIte];refine An (by kernel_rfl) (.take 0 (.take 2 (.take 3 (.go 1 [3] (.take 4 (.take 5 (.go 6 [] .done))))))) (by kernel_rfl) ?_;simp(disch:=omega) only[go_sem,↓reduceIte,g3];refine(Gy G H1).mono ?_;rintro _ K2 ⟨rfl,rfl⟩;simp(disch:=omega) only[go_sem,↓reduceIte,g3,ho,Jg,hwo,hwl,Int.toNat_natCast];refine(Hd hG (Al o) _ r _ _ hBK (by rw[List.length_append,List.length_map];omega) h1).mono ?_;rintro _ H3 ⟨rfl,h3⟩;have g3':=h3.keep (Aa _ _ _) n3.symm;simp(disch:=omega) only[go_sem,↓reduceIte,g3',hll,hl1,hfl];refine(Ca hG y _ hy _ r _ _ hBK (by rw[List.length_append,List.length_append,List.length_map];omega) h3).mono ?_;rintro _ H4 ⟨rfl,h4⟩;simp(disch:=omega) only[go_sem,↓reduceIte];refine Pm.refl ⟨rfl,?_⟩;have:=h4.drop hB3;rw[List.append_assoc,List.append_assoc] at this;exact this
   ·have hL:Cw e=1:=by rw[Cw,if_neg c1,g0,ho,if_pos ⟨c0, .inl ck⟩]
    rw[hL,hR] at hlen⊢
    simp(disch:=omega) only[go_sem,↓reduceIte,c0,hwl1];refine An (by kernel_rfl) (.take 0 (.take 1 (.take 2 (.take 3 (.take 4 (.take 5 (.take 6 (.take 7 (.take 8 (.take 9 (.take 10 (.take 11 (.take 12 (.take 13 (.take 14 (.take 15 (.take 16 (.take 17 (.take 18 (.take 19 (.take 20 .done))))))))))))))))))))) (by kernel_rfl) ?_;simp(disch:=omega) only[go_sem,↓reduceIte,gr3,hll,hfl,hx0,hx1,ck,ho];simp(disch:=omega) only[go_sem,↓reduceIte,gr3,hll,hl0,hfl];refine(Ca hG x _ hx _ r _ _ hBK (by omega) hwK).mono ?_;rintro _ H1 ⟨rfl,h1⟩;have g3:=h1.keep (Aa _ _ _) n3.symm;simp(disch:=omega) only[go_sem,↓reduceIte];refine An (by kernel_rfl) (.take 0 (.take 2 (.take 3 (.go 1 [3] (.take 4 (.take 5 (.go 6 [] .done))))))) (by kernel_rfl) ?_;simp(disch:=omega) only[go_sem,↓reduceIte,g3];refine(Gy G H1).mono ?_;rintro _ K2 ⟨rfl,rfl⟩;simp(disch:=omega) only[go_sem,↓reduceIte,g3,ho,Jg,hwo,hwl,Int.toNat_natCast];refine(Hd hG (Al o) _ r _ _ hBK (by rw[List.length_append,List.length_map];omega) h1).mono ?_;rintro _ H3 ⟨rfl,h3⟩;have g3':=h3.keep (Aa _ _ _) n3.symm;simp(disch:=omega) only[go_sem,↓reduceIte,g3',hll,hl1,hfl];refine(Ca hG y _ hy _ r _ _ hBK (by rw[List.length_append,List.length_append,List.length_map];omega) h3).mono ?_;rintro _ H4 ⟨rfl,h4⟩;simp(disch:=omega) only[go_sem,↓reduceIte];refine Pm.refl ⟨rfl,?_⟩;have:=h4.drop hB3;rw[List.append_assoc,List.append_assoc] at this;exact this
  ·have hL:Cw e=Ak e:=by rw[Cw,if_neg c1,if_neg (by rintro⟨a,_⟩;exact c0 a)]
   rw[hL,hR] at hlen⊢
   simp(disch:=omega) only[go_sem,↓reduceIte,c0,c1,hwl1];refine An (by kernel_rfl) (.take 0 (.take 1 (.take 2 (.take 3 (.take 4 (.take 5 (.take 6 (.take 7 (.take 8 (.take 9 (.take 10 (.take 11 (.take 12 (.take 13 (.take 14 (.take 15 (.take 16 (.take 17 (.take 18 (.take 19 (.take 20 .done))))))))))))))))))))) (by kernel_rfl) ?_;simp(disch:=omega) only[go_sem,↓reduceIte,gr3,hll,hfl,hx0,hx1,ho,c0];simp(disch:=omega) only[go_sem,↓reduceIte,gr3,hll,hl0,hfl];refine(Ca hG x _ hx _ r _ _ hBK (by omega) hwK).mono ?_;rintro _ H1 ⟨rfl,h1⟩;have g3:=h1.keep (Aa _ _ _) n3.symm;simp(disch:=omega) only[go_sem,↓reduceIte];refine An (by kernel_rfl) (.take 0 (.take 2 (.take 3 (.go 1 [3] (.take 4 (.take 5 (.go 6 [] .done))))))) (by kernel_rfl) ?_;simp(disch:=omega) only[go_sem,↓reduceIte,g3];refine(Gy G H1).mono ?_;rintro _ K2 ⟨rfl,rfl⟩;simp(disch:=omega) only[go_sem,↓reduceIte,g3,ho,Jg,hwo,hwl,Int.toNat_natCast];refine(Hd hG (Al o) _ r _ _ hBK (by rw[List.length_append,List.length_map];omega) h1).mono ?_;rintro _ H3 ⟨rfl,h3⟩;have g3':=h3.keep (Aa _ _ _) n3.symm;simp(disch:=omega) only[go_sem,↓reduceIte,g3',hll,hl1,hfl];refine(Ca hG y _ hy _ r _ _ hBK (by rw[List.length_append,List.length_append,List.length_map];omega) h3).mono ?_;rintro _ H4 ⟨rfl,h4⟩;simp(disch:=omega) only[go_sem,↓reduceIte];refine Pm.refl ⟨rfl,?_⟩;have:=h4.drop hB3;rw[List.append_assoc,List.append_assoc] at this;exact this
set_option maxHeartbeats 4000000 in
theorem Vh (hG:GX G) (e x:Ex) (ws:List (List UInt8)) (hl:(∃y z,e.l= [x,y,z])\/ ∃y,e.l= [x,y]) (hp: ∀y∈e.l,WrC Tryz.prog G 255 [.agg (dEx y)] (Ag y)):
  WrC Tryz.prog G 378 [.agg (dEx e),dW ws] (Aw x 2++(ws.map Am++Ga e)):=by
 intro B r ts H hB hlen hw;rw[List.length_append,List.length_append,List.length_map] at hlen;have hx:WrC Tryz.prog G 255 [.agg (dEx x)] (Ag x):=hp x (by rcases hl with⟨y,z,hl⟩ | ⟨y,hl⟩<;>(rw[hl];simp));have hl0:(e.l.flatMap dEx).take 9=dEx x:=by rcases hl with⟨y,z,hl⟩ | ⟨y,hl⟩<;>exact lx0 hl
 have hfl:=Bj Aj e.l;have hlp:0<e.l.length:=by rcases hl with⟨y,z,hl⟩ | ⟨y,hl⟩<;>(rw[hl];simp)
 refine Ac Tryz.func378 Tryz.call378 rfl (by kernel_rfl) ?_;simp(disch:=omega) only[go_sem,↓reduceIte,DVal.cells];intro r4 hr4;dsimp only at hr4;obtain⟨K,hK⟩: ∃K',K'=upd H r4 (some (.cells (dEx e) 36)):=⟨_,rfl⟩;rw[<-hK];have gr4:K r4=some (.cells (dEx e) 36):=by rw[hK];exact Aa _ _ _
 have hwK:WAt (upd B r4 (some (.cells (dEx e) 36))) r ts K:=by rw[hK];exact hw.frame hr4 _
 have n4:r≠r4:=hw.ne hr4;have hB4:B r4=none:=(hw.lo hr4).1;have hBK:upd B r4 (some (.cells (dEx e) 36)) r=none:=by rw[Aq _ _ _ _ n4];exact hB
 rcases hl with⟨y,z,hl⟩ | ⟨y,hl⟩
 ·have hll:e.l.length=3:=by rw[hl];rfl
  have hl1:=lx1 hl;have hl2:=lx2 hl;have ht:Ga e=Aw y 2++Am Ef::Aw z 2:=by unfold Ga pE tE;rw[hl];rfl
  rw[ht] at hlen⊢
  simp(disch:=omega) only[go_sem,↓reduceIte,gr4,hl0,hfl,hlp];refine(Ca hG x _ hx _ r _ _ hBK (by omega) hwK).mono ?_;rintro _ H1 ⟨rfl,h1⟩;simp(disch:=omega) only[go_sem,↓reduceIte];refine(Hd hG ws _ r _ _ hBK (by rw[List.length_append,List.length_map];omega) h1).mono ?_;rintro _ H2 ⟨rfl,h2⟩;have g2:=h2.keep (Aa _ _ _) n4.symm;simp(disch:=omega) only[go_sem,↓reduceIte,g2,hll];refine An (by kernel_rfl) (.take 0 (.take 1 (.take 2 (.take 3 (.take 4 (.take 5 (.take 6 (.take 7 (.take 8 (.go 9 [] .done)))))))))) (by kernel_rfl) ?_;simp(disch:=omega) only[go_sem,↓reduceIte,g2,hll,hl1,hl2,hfl];refine(Vg hG y z (hp y (by rw[hl];simp)) (hp z (by rw[hl];simp)) _ r _ _ hBK (by rw[List.length_append,List.length_append,List.length_map];omega) h2).mono ?_;rintro _ H4 ⟨rfl,h4⟩;simp(disch:=omega) only[go_sem,↓reduceIte];refine Pm.refl ⟨rfl,?_⟩;have:=h4.drop hB4;rw[List.append_assoc,List.append_assoc] at this;exact this
 ·have hll:e.l.length=2:=by rw[hl];rfl
  have hl1:=lx1 hl;have ht:Ga e=Ag y:=by unfold Ga pE tE;rw[hl];rfl
  rw[ht] at hlen⊢
  simp(disch:=omega) only[go_sem,↓reduceIte,gr4,hl0,hfl,hlp];refine(Ca hG x _ hx _ r _ _ hBK (by omega) hwK).mono ?_;rintro _ H1 ⟨rfl,h1⟩;simp(disch:=omega) only[go_sem,↓reduceIte];refine(Hd hG ws _ r _ _ hBK (by rw[List.length_append,List.length_map];omega) h1).mono ?_;rintro _ H2 ⟨rfl,h2⟩;have g2:=h2.keep (Aa _ _ _) n4.symm;simp(disch:=omega) only[go_sem,↓reduceIte,g2,hll,hl1,hfl];refine(hp y (by rw[hl];simp) _ r _ _ hBK (by rw[List.length_append,List.length_append,List.length_map];omega) h2).mono ?_;rintro _ H4 ⟨rfl,h4⟩;simp(disch:=omega) only[go_sem,↓reduceIte];refine Pm.refl ⟨rfl,?_⟩;have:=h4.drop hB4;rw[List.append_assoc,List.append_assoc] at this;exact this
set_option maxHeartbeats 4000000 in
theorem Au7 (hG:GX G) (c:Ch) {n:Nat} (hc:Dt n c=true) (hp: ∀y∈c.l,WrC Tryz.prog G 255 [.agg (dEx y)] (Ag y)):WrC Tryz.prog G 404 [.agg (dCh c)] (Et c):=by
 intro B r ts H hB hlen hw;have hfl:=Bj Aj c.l;unfold Dt at hc;refine Ac Tryz.func404 Tryz.call404 rfl (by kernel_rfl) ?_;simp(disch:=omega) only[go_sem,↓reduceIte,DVal.cells];intro r3 hr3;dsimp only at hr3;obtain⟨K,hK⟩: ∃K',K'=upd H r3 (some (.cells (dCh c) 54)):=⟨_,rfl⟩;rw[<-hK];have gr3:K r3=some (.cells (dCh c) 54):=by rw[hK];exact Aa _ _ _
 have hwK:WAt (upd B r3 (some (.cells (dCh c) 54))) r ts K:=by rw[hK];exact hw.frame hr3 _
 have n3:r≠r3:=hw.ne hr3;have hB3:B r3=none:=(hw.lo hr3).1;have hBK:upd B r3 (some (.cells (dCh c) 54)) r=none:=by rw[Aq _ _ _ _ n3];exact hB
 by_cases c1:c.kind=1
 ·rw[if_pos c1,decide_eq_true_eq] at hc;obtain⟨x,hx⟩:=Cw4 hc;have hl0:=lx0 hx;have ht:Et c=Ag x:=by rw[Ig,if_pos c1,hx];rfl
  rw[ht] at hlen⊢
  simp(disch:=omega) only[go_sem,↓reduceIte,gr3,c1,hc,hl0,hfl];refine(hp x (by rw[hx];simp) _ r _ _ hBK hlen hwK).mono ?_;rintro _ H4 ⟨rfl,h4⟩;simp(disch:=omega) only[go_sem,↓reduceIte];exact Pm.refl ⟨rfl,h4.drop hB3⟩
 ·rw[if_neg c1] at hc;by_cases c2:c.kind=2
  ·rw[if_pos c2,decide_eq_true_eq] at hc;obtain⟨x,y,hx⟩:=Cg9 hc;have hl0:=lx0 hx;have hl1:=lx1 hx;have ht:Et c=Aw x 2++Am Ef::Aw y 2:=by rw[Ig,if_neg c1,if_pos c2,hx];rfl
   rw[ht] at hlen⊢
   simp(disch:=omega) only[go_sem,↓reduceIte,gr3,c2];refine An (by kernel_rfl) (.take 0 (.take 1 (.take 2 (.take 3 (.take 4 (.take 5 (.take 6 (.take 7 (.take 8 (.go 9 [] .done)))))))))) (by kernel_rfl) ?_;simp(disch:=omega) only[go_sem,↓reduceIte,gr3,hc,hl0,hl1,hfl];refine(Vg hG x y (hp x (by rw[hx];simp)) (hp y (by rw[hx];simp)) _ r _ _ hBK hlen hwK).mono ?_;rintro _ H4 ⟨rfl,h4⟩;simp(disch:=omega) only[go_sem,↓reduceIte];exact Pm.refl ⟨rfl,h4.drop hB3⟩
  ·have ht:Et c= [Am Gr]:=by rw[Ig,if_neg c1,if_neg c2]
   rw[ht] at hlen⊢
   simp(disch:=omega) only[go_sem,↓reduceIte,gr3,c1,c2];intro q1 hq1;dsimp only at hq1;simp(disch:=omega) only[go_sem,↓reduceIte];refine(Mk hG Gr hq1 hBK hlen hwK).mono ?_;rintro _ H1 ⟨rfl,h1⟩;simp(disch:=omega) only[go_sem,↓reduceIte];exact Pm.refl ⟨rfl,h1.drop hB3⟩
end
end Go.Dl

-- Chapter 3: the package's writer: lists, associations.
namespace Go.Dl
open Go Go.Proofs
set_option maxRecDepth 100000
theorem Ch4 {α:Type} {l:List α} {j:Nat} (h:j<l.length):l.take (j+1)=l.take j++ [l[j]]:=by rw[List.take_add_one,List.getElem?_eq_getElem h];rfl
theorem Xj {α:Type} (g:α->List Tok) (s:List UInt8) (l:List α) (j:Nat) (h:j<l.length):Fm s ((l.take (j+1)).map g)=Fm s ((l.take j).map g)++((if j=0 then [] else [Am s])++g l[j]):=by
 rw[Ch4 h,List.map_append,List.map_singleton];by_cases c:j=0
 ·subst c;simp [Fm]
 ·rw[Ao2 s _ _ (by cases l with
   | nil=>simp at h
   | cons x l=>cases j with
    | zero=>exact absurd rfl c
    | succ j=>simp),if_neg c];rfl
theorem Ap1 {α:Type} (g:α->List Tok) (s:List UInt8) (l:List α): ∀(n j:Nat),j+n<=l.length->(Fm s ((l.take j).map g)).length<=(Fm s ((l.take (j+n)).map g)).length
 | 0,j,_=>Nat.le_refl _
 | n+1,j,h=>by
  rw[<-Nat.add_assoc,Xj g s l (j+n) (by omega),List.length_append];have:=Ap1 g s l n j (by omega);omega
theorem Bw1 {α:Type} (g:α->List Tok) (s:List UInt8) (l:List α) (j:Nat) (h:j<=l.length):(Fm s ((l.take j).map g)).length<=(Fm s (l.map g)).length:=by
 have:=Ap1 g s l (l.length-j) j (by omega);rw[Nat.add_sub_cancel' h,List.take_length] at this;exact this
section
variable {G:Nat->DVal}
set_option maxHeartbeats 4000000 in
theorem Be7 (hG:GX G) (l:List Ch) (s:List UInt8) (hll:l.length<=1000000000) (hp: ∀c∈l,WrC Tryz.prog G 404 [.agg (dCh c)] (Et c)) (B:Ab) (r:Nat) (ts:List Tok) (H:Ab) (hB:B r=none) (hlen:ts.length+(Fm s (l.map Et)).length<=1000000000) (hw:WAt B r ts H):
  Ah Tryz.prog G 403 [.optr r 0,dCl l, .str s, .func (.func 404) [.optr r 0] []] H (WQ B r (ts++Fm s (l.map Et))):=by
 refine Ac Tryz.func403 Tryz.call403 rfl (by kernel_rfl) ?_;simp(disch:=omega) only[go_sem,↓reduceIte,dCl];obtain⟨I,hI⟩: ∃I:Nat->(Nat->DVal)->Ab->Prop,∀j env heap,I j env heap↔(env 0= .optr r 0/\env 2= .str s/\env 3= .func (.func 404) [.optr r 0] []/\env 10=dCl l/\env 11=dI l.length/\env 12=dI j/\j<=l.length/\WAt B r (ts++Fm s ((l.take j).map Et)) heap):=⟨_,fun _ _ _=>Iff.rfl⟩;refine Bs7.run I (fun j=>l.length-j) 0 ((hI _ _ _).2 ?_) ?_
 ·simp(disch:=omega) only[go_sem,↓reduceIte];(repeat' apply And.intro)<;>(try first | rfl | assumption | omega);simpa [Fm] using hw
 ·intro j env heap hi;obtain⟨e0,e2,e3,e10,e11,e12,hj,hwj⟩:=(hI _ _ _).1 hi;by_cases hlt:j<l.length
  ·have hlt':(j:Int)<(l.length:Int):=by omega
   have hw1:IntKind.i64.wrap ((j:Int)+1)=((j+1:Nat):Int):=by rw[IntKind.wrap_i64];omega
   have hget:=Df Ec l j hlt;have hfl:=Bj Ec l;have htk:=Xj Et s l j hlt;have hle:=Bw1 Et s l (j+1) hlt;have hpc:=hp l[j] (List.getElem_mem hlt);obtain⟨c,hce⟩: ∃c,c=l[j]:=⟨_,rfl⟩;rw[<-hce] at hget htk hpc;rw[htk,List.length_append,List.length_append] at hle;simp(disch:=omega) only[go_sem,↓reduceIte,e0,e2,e3,e10,e11,e12,hlt',dCl,hget,hfl,Int.toNat_natCast];intro r9 hr9;dsimp only at hr9;simp(disch:=omega) only[go_sem,↓reduceIte,e0,e2,e3,e10,e11,e12];obtain⟨K,hK⟩: ∃K',K'=upd heap r9 (some (.cells (dCh c) 54)):=⟨_,rfl⟩;rw[<-hK];have gr9:K r9=some (.cells (dCh c) 54):=by rw[hK];exact Aa _ _ _
   have hwK:WAt (upd B r9 (some (.cells (dCh c) 54))) r (ts++Fm s ((l.take j).map Et)) K:=by rw[hK];exact hwj.frame hr9 _
   have n9:r≠r9:=hwj.ne hr9;have hB9:B r9=none:=(hwj.lo hr9).1;have hBK:upd B r9 (some (.cells (dCh c) 54)) r=none:=by rw[Aq _ _ _ _ n9];exact hB
   by_cases c0:j=0
   ·have c0': ¬(j:Int)>0:=by omega
    have c0'': ¬(0:Int)<(j:Int):=by omega
    rw[if_pos c0] at htk hle;simp(disch:=omega) only[go_sem,↓reduceIte,e0,e2,e3,e10,e11,e12,gr9,c0',c0''];refine(hpc _ r _ _ hBK (by rw[List.length_append];simp only[List.length_nil] at hle;omega) hwK).mono ?_;rintro _ H2 ⟨rfl,h2⟩;simp(disch:=omega) only[go_sem,↓reduceIte,e0,e2,e3,e10,e11,e12];refine⟨j+1,_,Ik.refl _,(hI _ _ _).2 ?_,by omega⟩;simp(disch:=omega) only[go_sem,↓reduceIte,e0,e2,e3,e10,e11,e12,hw1];(repeat' apply And.intro)<;>(try first | rfl | assumption | omega);have:=h2.drop hB9;rw[htk,List.nil_append,<-List.append_assoc];exact this
   ·have c0'':(0:Int)<(j:Int):=by omega
    rw[if_neg c0] at htk hle;simp only[List.length_singleton] at hle;simp(disch:=omega) only[go_sem,↓reduceIte,e0,e2,e3,e10,e11,e12,gr9,c0''];intro q1 hq1;dsimp only at hq1;simp(disch:=omega) only[go_sem,↓reduceIte,e0,e2,e3,e10,e11,e12];refine(Mk hG s hq1 hBK (by rw[List.length_append];omega) hwK).mono ?_;rintro _ H1 ⟨rfl,h1⟩;have g1:=h1.keep (Aa _ _ _) n9.symm;simp(disch:=omega) only[go_sem,↓reduceIte,e0,e2,e3,e10,e11,e12,g1];refine(hpc _ r _ _ hBK (by rw[List.length_append,List.length_append,List.length_singleton];omega) h1).mono ?_;rintro _ H2 ⟨rfl,h2⟩;simp(disch:=omega) only[go_sem,↓reduceIte,e0,e2,e3,e10,e11,e12];refine⟨j+1,_,Ik.refl _,(hI _ _ _).2 ?_,by omega⟩;simp(disch:=omega) only[go_sem,↓reduceIte,e0,e2,e3,e10,e11,e12,hw1];(repeat' apply And.intro)<;>(try first | rfl | assumption | omega);have:=h2.drop hB9;rw[htk,<-List.append_assoc,<-List.append_assoc];exact this
  ·have:j=l.length:=by omega
   subst this;have hlt': ¬(l.length:Int)<(l.length:Int):=by omega
   rw[List.take_length] at hwj;simp(disch:=omega) only[go_sem,↓reduceIte,e0,e2,e3,e10,e11,e12,hlt'];exact Pm.refl ⟨rfl,hwj⟩
set_option maxHeartbeats 4000000 in
theorem Yo (hG:GX G) (l:List As) (s:List UInt8) (hll:l.length<=1000000000) (hp: ∀c∈l,WrC Tryz.prog G 375 [.agg (dAs c)] (Ez c)) (B:Ab) (r:Nat) (ts:List Tok) (H:Ab) (hB:B r=none) (hlen:ts.length+(Fm s (l.map Ez)).length<=1000000000) (hw:WAt B r ts H):
  Ah Tryz.prog G 374 [.optr r 0,dAl l, .str s, .func (.func 375) [.optr r 0] []] H (WQ B r (ts++Fm s (l.map Ez))):=by
 refine Ac Tryz.func374 Tryz.call374 rfl (by kernel_rfl) ?_;simp(disch:=omega) only[go_sem,↓reduceIte,dAl];obtain⟨I,hI⟩: ∃I:Nat->(Nat->DVal)->Ab->Prop,∀j env heap,I j env heap↔(env 0= .optr r 0/\env 2= .str s/\env 3= .func (.func 375) [.optr r 0] []/\env 10=dAl l/\env 11=dI l.length/\env 12=dI j/\j<=l.length/\WAt B r (ts++Fm s ((l.take j).map Ez)) heap):=⟨_,fun _ _ _=>Iff.rfl⟩;refine Bs7.run I (fun j=>l.length-j) 0 ((hI _ _ _).2 ?_) ?_
 ·simp(disch:=omega) only[go_sem,↓reduceIte];(repeat' apply And.intro)<;>(try first | rfl | assumption | omega);simpa [Fm] using hw
 ·intro j env heap hi;obtain⟨e0,e2,e3,e10,e11,e12,hj,hwj⟩:=(hI _ _ _).1 hi;by_cases hlt:j<l.length
  ·have hlt':(j:Int)<(l.length:Int):=by omega
   have hw1:IntKind.i64.wrap ((j:Int)+1)=((j+1:Nat):Int):=by rw[IntKind.wrap_i64];omega
   have hget:=Df Dv l j hlt;have hfl:=Bj Dv l;have htk:=Xj Ez s l j hlt;have hle:=Bw1 Ez s l (j+1) hlt;have hpc:=hp l[j] (List.getElem_mem hlt);obtain⟨c,hce⟩: ∃c,c=l[j]:=⟨_,rfl⟩;rw[<-hce] at hget htk hpc;rw[htk,List.length_append,List.length_append] at hle;simp(disch:=omega) only[go_sem,↓reduceIte,e0,e2,e3,e10,e11,e12,hlt',dAl,hget,hfl,Int.toNat_natCast];intro r9 hr9;dsimp only at hr9;simp(disch:=omega) only[go_sem,↓reduceIte,e0,e2,e3,e10,e11,e12];obtain⟨K,hK⟩: ∃K',K'=upd heap r9 (some (.cells (dAs c) 51)):=⟨_,rfl⟩;rw[<-hK];have gr9:K r9=some (.cells (dAs c) 51):=by rw[hK];exact Aa _ _ _
   have hwK:WAt (upd B r9 (some (.cells (dAs c) 51))) r (ts++Fm s ((l.take j).map Ez)) K:=by rw[hK];exact hwj.frame hr9 _
   have n9:r≠r9:=hwj.ne hr9;have hB9:B r9=none:=(hwj.lo hr9).1;have hBK:upd B r9 (some (.cells (dAs c) 51)) r=none:=by rw[Aq _ _ _ _ n9];exact hB
   by_cases c0:j=0
   ·have c0': ¬(j:Int)>0:=by omega
    have c0'': ¬(0:Int)<(j:Int):=by omega
    rw[if_pos c0] at htk hle;simp(disch:=omega) only[go_sem,↓reduceIte,e0,e2,e3,e10,e11,e12,gr9,c0',c0''];refine(hpc _ r _ _ hBK (by rw[List.length_append];simp only[List.length_nil] at hle;omega) hwK).mono ?_;rintro _ H2 ⟨rfl,h2⟩;simp(disch:=omega) only[go_sem,↓reduceIte,e0,e2,e3,e10,e11,e12];refine⟨j+1,_,Ik.refl _,(hI _ _ _).2 ?_,by omega⟩;simp(disch:=omega) only[go_sem,↓reduceIte,e0,e2,e3,e10,e11,e12,hw1];(repeat' apply And.intro)<;>(try first | rfl | assumption | omega);have:=h2.drop hB9;rw[htk,List.nil_append,<-List.append_assoc];exact this
   ·have c0'':(0:Int)<(j:Int):=by omega
    rw[if_neg c0] at htk hle;simp only[List.length_singleton] at hle;simp(disch:=omega) only[go_sem,↓reduceIte,e0,e2,e3,e10,e11,e12,gr9,c0''];intro q1 hq1;dsimp only at hq1;simp(disch:=omega) only[go_sem,↓reduceIte,e0,e2,e3,e10,e11,e12];refine(Mk hG s hq1 hBK (by rw[List.length_append];omega) hwK).mono ?_;rintro _ H1 ⟨rfl,h1⟩;have g1:=h1.keep (Aa _ _ _) n9.symm;simp(disch:=omega) only[go_sem,↓reduceIte,e0,e2,e3,e10,e11,e12,g1];refine(hpc _ r _ _ hBK (by rw[List.length_append,List.length_append,List.length_singleton];omega) h1).mono ?_;rintro _ H2 ⟨rfl,h2⟩;simp(disch:=omega) only[go_sem,↓reduceIte,e0,e2,e3,e10,e11,e12];refine⟨j+1,_,Ik.refl _,(hI _ _ _).2 ?_,by omega⟩;simp(disch:=omega) only[go_sem,↓reduceIte,e0,e2,e3,e10,e11,e12,hw1];(repeat' apply And.intro)<;>(try first | rfl | assumption | omega);have:=h2.drop hB9;rw[htk,<-List.append_assoc,<-List.append_assoc];exact this
  ·have:j=l.length:=by omega
   subst this;have hlt': ¬(l.length:Int)<(l.length:Int):=by omega
   rw[List.take_length] at hwj;simp(disch:=omega) only[go_sem,↓reduceIte,e0,e2,e3,e10,e11,e12,hlt'];exact Pm.refl ⟨rfl,hwj⟩
end
end Go.Dl

-- Chapter 3: the package's writer: associations; all expressions.
namespace Go.Dl
open Go Go.Proofs
set_option maxRecDepth 100000
section
variable {G:Nat->DVal}
set_option maxHeartbeats 4000000 in
theorem Yp (hG:GX G) (a:As) (hc:a.c= []\/(a.c.length<=1000000000/\ ∃n,∀c∈a.c,Dt n c=true)) (hp: ∀y∈Cu a,WrC Tryz.prog G 255 [.agg (dEx y)] (Ag y)):WrC Tryz.prog G 375 [.agg (dAs a)] (Ez a):=by
 intro B r ts H hB hlen hw;have he:=hp a.e (Je a);have hae:((dAs a).drop 1).take 9=dEx a.e:=by rw[Su,List.drop_succ_cons,List.drop_zero,List.take_of_length_le (by rw[Aj];omega)]
 refine Ac Tryz.func375 Tryz.call375 rfl (by kernel_rfl) ?_;simp(disch:=omega) only[go_sem,↓reduceIte,DVal.cells];intro r3 hr3;dsimp only at hr3;obtain⟨K,hK⟩: ∃K',K'=upd H r3 (some (.cells (dAs a) 51)):=⟨_,rfl⟩;rw[<-hK];have gr3:K r3=some (.cells (dAs a) 51):=by rw[hK];exact Aa _ _ _
 have hwK:WAt (upd B r3 (some (.cells (dAs a) 51))) r ts K:=by rw[hK];exact hw.frame hr3 _
 have n3:r≠r3:=hw.ne hr3;have hB3:B r3=none:=(hw.lo hr3).1;have hBK:upd B r3 (some (.cells (dAs a) 51)) r=none:=by rw[Aq _ _ _ _ n3];exact hB
 by_cases c0:a.c= []
 ·have ht:Ez a=Ag a.e:=by rw[Kj,c0];rfl
  have hll:a.c.length=0:=by rw[c0];rfl
  have c0': ¬(0:Int)<((0:Nat):Int):=by omega
  rw[ht] at hlen⊢
  simp(disch:=omega) only[go_sem,↓reduceIte,gr3,hll,c0',hae];refine(he _ r _ _ hBK hlen hwK).mono ?_;rintro _ H1 ⟨rfl,h1⟩;simp(disch:=omega) only[go_sem,↓reduceIte];exact Pm.refl ⟨rfl,h1.drop hB3⟩
 ·obtain⟨hcl,n,hcr⟩:=hc.resolve_left c0;have hlp:0<a.c.length:=List.length_pos_iff.2 c0;have hlp':(0:Int)<(a.c.length:Int):=by omega
  have ht:Ez a=Fm Fk (a.c.map Et)++Am Bc::Ag a.e:=by
   rw[Kj,if_neg];simpa using c0
  rw[ht] at hlen⊢
  rw[List.length_append,List.length_cons] at hlen;simp(disch:=omega) only[go_sem,↓reduceIte,gr3,hlp'];refine(Be7 hG a.c Fk hcl (fun c hc=>Au7 hG c (hcr c hc) fun y hy=>hp y (Ky hc hy)) _ r _ _ hBK (by omega) hwK).mono ?_;rintro _ H1 ⟨rfl,h1⟩;simp(disch:=omega) only[go_sem,↓reduceIte];intro q1 hq1;dsimp only at hq1;simp(disch:=omega) only[go_sem,↓reduceIte];refine(Mk hG Bc hq1 hBK (by rw[List.length_append];omega) h1).mono ?_;rintro _ H2 ⟨rfl,h2⟩;have g2:=h2.keep (Aa _ _ _) n3.symm;simp(disch:=omega) only[go_sem,↓reduceIte,g2,hae];refine(he _ r _ _ hBK (by rw[List.length_append,List.length_append,List.length_singleton];omega) h2).mono ?_;rintro _ H3 ⟨rfl,h3⟩;simp(disch:=omega) only[go_sem,↓reduceIte];refine Pm.refl ⟨rfl,?_⟩;have:=h3.drop hB3;rw[List.append_assoc,List.append_assoc] at this;exact this
theorem Au8 {a:As} (h:(a.c.isEmpty || Cn a.c)=true):a.c= []\/(a.c.length<=1000000000/\ ∃n,∀c∈a.c,Dt n c=true):=by
 cases hc:a.c with
 | nil=>exact .inl rfl
 | cons c r=>
  rw[hc] at h
  cases r with
  | nil=>
   simp only[Cn,List.isEmpty_cons,Bool.false_or,Bool.and_eq_true,decide_eq_true_eq] at h
   refine .inr ⟨by simp,1,fun d hd=> ?_⟩
   rw[List.mem_singleton] at hd
   subst hd
   rw[Dt,if_pos h.1,decide_eq_true_eq]
   match hl:d.l with
   | [x]=>rfl
   | []=>rw[hl] at h;cases h.2
   | _::_::_=>rw[hl] at h;cases h.2
  | cons d r=>simp [Cn] at h
theorem Be8 {a:As} (h:(a.c.isEmpty || Co a.c)=true):a.c= []\/(a.c.length<=1000000000/\ ∃n,∀c∈a.c,Dt n c=true):=by
 cases hc:a.c with
 | nil=>exact .inl rfl
 | cons c r=>
  rw[hc] at h;simp only[List.isEmpty_cons,Bool.false_or,Co,Bool.and_eq_true,decide_eq_true_eq,List.all_eq_true] at h;exact .inr ⟨by omega,_,h.2⟩
def ifT (x y z:Ex):Nat->List Tok
 | 0=> []
 | 1=>Am Bo::Am wIf::Ag x
 | 2=>Am Bo::Am wIf::(Ag x++Am Jm::Ag y)
 | _=>Am Bo::Am wIf::(Ag x++Am Jm::(Ag y++Am Ke::Ag z))
set_option maxHeartbeats 8000000 in
theorem Bq0 (hG:GX G) (e:Ex) (hf:Ae e=true) (ih: ∀x∈parts e,WrC Tryz.prog G 255 [.agg (dEx x)] (Ag x)):WrC Tryz.prog G 255 [.agg (dEx e)] (Ag e):=by
 intro B r ts H hB hlen hw;have hfl:=Bj Aj e.l;refine Ac Tryz.func255 Tryz.call255 rfl (by kernel_rfl) ?_;simp(disch:=omega) only[go_sem,↓reduceIte,DVal.cells];intro r3 hr3;dsimp only at hr3;obtain⟨K,hK⟩: ∃K',K'=upd H r3 (some (.cells (dEx e) 36)):=⟨_,rfl⟩;rw[<-hK];have gr3:K r3=some (.cells (dEx e) 36):=by rw[hK];exact Aa _ _ _
 have hwK:WAt (upd B r3 (some (.cells (dEx e) 36))) r ts K:=by rw[hK];exact hw.frame hr3 _
 have n3:r≠r3:=hw.ne hr3;have hB3:B r3=none:=(hw.lo hr3).1;have hBK:upd B r3 (some (.cells (dEx e) 36)) r=none:=by rw[Aq _ _ _ _ n3];exact hB
 simp(disch:=omega) only[go_sem,↓reduceIte,gr3];refine(Dn G _ e).mono ?_;rintro _ K1 ⟨rfl,rfl⟩;by_cases hk:e.kind=1
 ·have hnm:Az e=false:=by cases h:Az e with | false=>rfl | true=>exact(Mf (by omega) h).elim
  rw[Ct4 hk] at hlen⊢
  rw[hnm];simp(disch:=omega) only[go_sem,↓reduceIte,gr3,hk];refine An (by kernel_rfl) (.take 0 (.take 1 (.take 2 (.take 3 (.take 4 (.take 5 (.take 6 (.take 7 (.go 8 [4] (.go 9 [] (.take 10 (.take 11 (.go 12 [] .done))))))))))))) (by kernel_rfl) ?_;obtain⟨v,hv⟩:=hwK;have gr:=hv.keep (Aa _ _ _);simp(disch:=omega) only[go_sem,↓reduceIte,gr3,gr];intro r6 hr6;dsimp only at hr6;have n6:r≠r6:=Af hr6 gr;have m6:=n6.symm;have hv6:=hv.new hr6 (some (.cells (Dd (Bd7 e.n)) 31));simp(disch:=omega) only[go_sem,↓reduceIte,gr,n6,m6];refine Ea.append (m:=1) hv6 rfl (by rw[List.length_singleton] at hlen;omega) fun v2 H6 hv2=> ?_;have g6:=hv2.keep (Aa _ _ _);obtain⟨j1,j2⟩:=hv2.cell1;simp(disch:=omega) only[go_sem,↓reduceIte,g6,j1,j2];have h7:WAt (upd B r3 (some (.cells (dEx e) 36))) r (ts++ [Bd7 e.n]) (upd H6 r (some (.cells [v2] 281))):=by
   refine⟨v2,?_⟩;have hv3:=hv2.at (Aa _ _ _) (some (.cells [v2] 281));rw[Hj] at hv3;rw[Oy,List.length_append,List.length_singleton];exact hv3
  exact Pm.refl ⟨rfl,h7.drop hB3⟩
 have z1:=hk;clear hk;by_cases hk:e.kind=2
 ·have hnm:Az e=false:=by cases h:Az e with | false=>rfl | true=>exact(Mf (by omega) h).elim
  rw[Ct5 hk] at hlen⊢
  rw[hnm];simp(disch:=omega) only[go_sem,↓reduceIte,gr3,hk];intro q1 hq1;dsimp only at hq1;simp(disch:=omega) only[go_sem,↓reduceIte,hk];refine(Mk hG Mz hq1 hBK (by(try simp only[List.length_append,List.length_cons,List.length_nil,List.length_map]);omega) hwK).mono ?_;rintro _ H1 ⟨rfl,h1⟩;have g1:=h1.keep (Aa _ _ _) n3.symm;simp(disch:=omega) only[go_sem,↓reduceIte];refine Pm.refl ⟨rfl,?_⟩;have:=h1.drop hB3
  (try simp only[List.append_assoc,List.cons_append,List.nil_append] at this⊢)
  exact this
 have z2:=hk;clear hk;by_cases hk:e.kind=3
 ·have hnm:Az e=true:=Pg (by omega);rw[Ao1 hk] at hlen⊢
  rw[hnm];simp(disch:=omega) only[go_sem,↓reduceIte,gr3,hk];refine(Te G e.s _ r _ _ hBK hlen hwK).mono ?_;rintro _ H1 ⟨rfl,h1⟩;simp(disch:=omega) only[go_sem,↓reduceIte];refine Pm.refl ⟨rfl,?_⟩;have:=h1.drop hB3
  (try simp only[List.append_assoc,List.cons_append,List.nil_append] at this⊢)
  exact this
 have z3:=hk;clear hk;by_cases hk:e.kind=4
 ·obtain⟨⟨x,hx,_⟩,_⟩:=Ch0 (.inl hk) hf;have ht:Ag e=Ag x++ [Am In,Hs e.s]:=by rw[Ct6 hk];unfold tE;rw[hx];rfl
  rw[ht,List.length_append] at hlen;rw[ht];simp only[List.length_cons,List.length_nil] at hlen;have hll:e.l.length=1:=by rw[hx];rfl
  have hfx:=lx0 hx;have hnm:Az e=true:=Pg (by omega);rw[hnm];simp(disch:=omega) only[go_sem,↓reduceIte,gr3,hk,hll,hfl,hfx];refine(ih x (Ar (by rw[hx];simp)) _ r _ _ hBK (by omega) hwK).mono ?_;rintro _ H1 ⟨rfl,h1⟩;have g1:=h1.keep (Aa _ _ _) n3.symm;simp(disch:=omega) only[go_sem,↓reduceIte,g1,hk];intro q1 hq1;dsimp only at hq1;simp(disch:=omega) only[go_sem,↓reduceIte,hk];refine(Mk hG In hq1 hBK (by(try simp only[List.length_append,List.length_cons,List.length_nil,List.length_map]);omega) h1).mono ?_;rintro _ H2 ⟨rfl,h2⟩;have g2:=h2.keep (Aa _ _ _) n3.symm;simp(disch:=omega) only[go_sem,↓reduceIte,g2];refine(Te G e.s _ r _ _ hBK (by(try simp only[List.length_append,List.length_cons,List.length_nil,List.length_map]);omega) h2).mono ?_;rintro _ H3 ⟨rfl,h3⟩;simp(disch:=omega) only[go_sem,↓reduceIte];refine Pm.refl ⟨rfl,?_⟩;have:=h3.drop hB3
  (try simp only[List.append_assoc,List.cons_append,List.nil_append] at this⊢)
  exact this
 have z4:=hk;clear hk;by_cases hk:e.kind=5
 ·obtain⟨⟨x,hx,_⟩,_⟩:=ff5 hk hf;have ht:Ag e=Ag x++ [Am In,Am Qi]:=by rw[Ct7 hk];unfold tE;rw[hx];rfl
  rw[ht,List.length_append] at hlen;rw[ht];simp only[List.length_cons,List.length_nil] at hlen;have hll:e.l.length=1:=by rw[hx];rfl
  have hfx:=lx0 hx;have hnm:Az e=true:=Pg (by omega);rw[hnm];simp(disch:=omega) only[go_sem,↓reduceIte,gr3,hk,hll,hfl,hfx];refine(ih x (Ar (by rw[hx];simp)) _ r _ _ hBK (by omega) hwK).mono ?_;rintro _ H1 ⟨rfl,h1⟩;have g1:=h1.keep (Aa _ _ _) n3.symm;simp(disch:=omega) only[go_sem,↓reduceIte,g1,hk];intro q1 hq1;dsimp only at hq1;simp(disch:=omega) only[go_sem,↓reduceIte];refine(Dw2 hG In Qi hq1 hBK (by(try simp only[List.length_append,List.length_cons,List.length_nil,List.length_map]);omega) h1).mono ?_;rintro _ H2 ⟨rfl,h2⟩;simp(disch:=omega) only[go_sem,↓reduceIte];refine Pm.refl ⟨rfl,?_⟩;have:=h2.drop hB3
  (try simp only[List.append_assoc,List.cons_append,List.nil_append] at this⊢)
  exact this
 have z5:=hk;clear hk;by_cases hk:e.kind=6
 ·obtain⟨⟨x,hx,_⟩,_⟩:=Ch0 (.inr hk) hf;have ht:Ag e=Ag x++ [Am Fl,Hs e.s]:=by rw[Ct8 hk];unfold tE;rw[hx];rfl
  rw[ht,List.length_append] at hlen;rw[ht];simp only[List.length_cons,List.length_nil] at hlen;have hll:e.l.length=1:=by rw[hx];rfl
  have hfx:=lx0 hx;have hnm:Az e=true:=Pg (by omega);rw[hnm];simp(disch:=omega) only[go_sem,↓reduceIte,gr3,hk,hll,hfl,hfx];refine(ih x (Ar (by rw[hx];simp)) _ r _ _ hBK (by omega) hwK).mono ?_;rintro _ H1 ⟨rfl,h1⟩;have g1:=h1.keep (Aa _ _ _) n3.symm;simp(disch:=omega) only[go_sem,↓reduceIte,g1,hk];intro q1 hq1;dsimp only at hq1;simp(disch:=omega) only[go_sem,↓reduceIte,hk];refine(Mk hG Fl hq1 hBK (by(try simp only[List.length_append,List.length_cons,List.length_nil,List.length_map]);omega) h1).mono ?_;rintro _ H2 ⟨rfl,h2⟩;have g2:=h2.keep (Aa _ _ _) n3.symm;simp(disch:=omega) only[go_sem,↓reduceIte,g2];refine(Te G e.s _ r _ _ hBK (by(try simp only[List.length_append,List.length_cons,List.length_nil,List.length_map]);omega) h2).mono ?_;rintro _ H3 ⟨rfl,h3⟩;simp(disch:=omega) only[go_sem,↓reduceIte];refine Pm.refl ⟨rfl,?_⟩;have:=h3.drop hB3
  (try simp only[List.append_assoc,List.cons_append,List.nil_append] at this⊢)
  exact this
 have z6:=hk;clear hk;by_cases hk:e.kind=7
 ·obtain⟨⟨x,hx,_⟩,ha,_⟩:=ff7 hk hf;have ht:Ag e=Ag x++Am Bo::(taE e++ [Am Cc]):=by rw[Ct9 hk];unfold tE;rw[hx];rfl
  rw[ht,List.length_append,List.length_cons,List.length_append] at hlen;rw[ht];simp only[List.length_cons,List.length_nil,taE] at hlen;unfold taE;have hll:e.l.length=1:=by rw[hx];rfl
  rw[Hx,Bool.and_eq_true,Bool.and_eq_true,Bool.and_eq_true,decide_eq_true_eq,decide_eq_true_eq,List.all_eq_true] at ha;have hfx:=lx0 hx;have hnm:Az e=true:=Pg (by omega);rw[hnm];simp(disch:=omega) only[go_sem,↓reduceIte,gr3,hk,hll,hfl,hfx];refine(ih x (Ar (by rw[hx];simp)) _ r _ _ hBK (by omega) hwK).mono ?_;rintro _ H1 ⟨rfl,h1⟩;have g1:=h1.keep (Aa _ _ _) n3.symm;simp(disch:=omega) only[go_sem,↓reduceIte,g1,hk];intro q1 hq1;dsimp only at hq1;simp(disch:=omega) only[go_sem,↓reduceIte,hk];refine(Mk hG Bo hq1 hBK (by(try simp only[List.length_append,List.length_cons,List.length_nil,List.length_map]);omega) h1).mono ?_;rintro _ H2 ⟨rfl,h2⟩;have g2:=h2.keep (Aa _ _ _) n3.symm;simp(disch:=omega) only[go_sem,↓reduceIte,g2];refine(Yo hG e.a Gx (by omega) (fun a hma=>Yp hG a (Au8 (ha.2 a hma)) fun y hy=>ih y (Gv hma hy)) _ r _ _ hBK (by(try simp only[List.length_append,List.length_cons,List.length_nil,List.length_map]);omega) h2).mono ?_;rintro _ H3 ⟨rfl,h3⟩;simp(disch:=omega) only[go_sem,↓reduceIte];intro q2 hq2;dsimp only at hq2;simp(disch:=omega) only[go_sem,↓reduceIte,hk];refine(Mk hG Cc hq2 hBK (by(try simp only[List.length_append,List.length_cons,List.length_nil,List.length_map]);omega) h3).mono ?_;rintro _ H4 ⟨rfl,h4⟩;have g4:=h4.keep (Aa _ _ _) n3.symm;simp(disch:=omega) only[go_sem,↓reduceIte];refine Pm.refl ⟨rfl,?_⟩;have:=h4.drop hB3
  (try simp only[List.append_assoc,List.cons_append,List.nil_append] at this⊢)
  exact this
 have z7:=hk;clear hk;by_cases hk:e.kind=8
 ·obtain⟨⟨x,y,hx,_⟩,_⟩:=ff8 hk hf;have ht:Ag e=Ag x++Am Fl::Pq (!Ki y.kind) (Ag y):=by rw[Cu0 hk];unfold tE;rw[hx];rfl
  rw[ht,List.length_append,List.length_cons] at hlen;rw[ht];have hll:e.l.length=2:=by rw[hx];rfl
  have hl1:=lx1 hx;have hy0:(e.l.flatMap dEx)[9]? =some (.int .u8 y.kind):=by
   rw[hx,List.flatMap_cons,List.flatMap_cons,Ju x,Ju y];rfl
  have hyl:=Kk y;have hfx:=lx0 hx;have hnm:Az e=true:=Pg (by omega);rw[hnm];simp(disch:=omega) only[go_sem,↓reduceIte,gr3,hk,hll,hfl,hfx];refine(ih x (Ar (by rw[hx];simp)) _ r _ _ hBK (by omega) hwK).mono ?_;rintro _ H1 ⟨rfl,h1⟩;have g1:=h1.keep (Aa _ _ _) n3.symm;simp(disch:=omega) only[go_sem,↓reduceIte,g1,hk];by_cases b9:y.kind=9
  ·have hb:Pq (!Ki y.kind) (Ag y)=Aw y 0:=by rw[b9,Aw,decide_eq_false (by omega)];rfl
   rw[hb] at hlen⊢
   simp(disch:=omega) only[go_sem,↓reduceIte,g1,hll,hfl,hy0,b9];intro q1 hq1;dsimp only at hq1;simp(disch:=omega) only[go_sem,↓reduceIte,hk];refine(Mk hG Fl hq1 hBK (by(try simp only[List.length_append,List.length_cons,List.length_nil,List.length_map]);omega) h1).mono ?_;rintro _ H2 ⟨rfl,h2⟩;have g2:=h2.keep (Aa _ _ _) n3.symm;simp(disch:=omega) only[go_sem,↓reduceIte,g2,hll,hfl,hl1];refine(Ca hG y 0 (ih y (Ar (by rw[hx];simp))) _ r _ _ hBK (by(try simp only[List.length_append,List.length_cons,List.length_nil,List.length_map]);omega) h2).mono ?_;rintro _ H3 ⟨rfl,h3⟩;simp(disch:=omega) only[go_sem,↓reduceIte];refine Pm.refl ⟨rfl,?_⟩;have:=h3.drop hB3
   (try simp only[List.append_assoc,List.cons_append,List.nil_append] at this⊢)
   exact this
  ·by_cases b10:y.kind=10
   ·have hb:Pq (!Ki y.kind) (Ag y)=Aw y 0:=by rw[b10,Aw,decide_eq_false (by omega)];rfl
    rw[hb] at hlen⊢
    simp(disch:=omega) only[go_sem,↓reduceIte,g1,hll,hfl,hy0,b10];intro q1 hq1;dsimp only at hq1;simp(disch:=omega) only[go_sem,↓reduceIte,hk];refine(Mk hG Fl hq1 hBK (by(try simp only[List.length_append,List.length_cons,List.length_nil,List.length_map]);omega) h1).mono ?_;rintro _ H2 ⟨rfl,h2⟩;have g2:=h2.keep (Aa _ _ _) n3.symm;simp(disch:=omega) only[go_sem,↓reduceIte,g2,hll,hfl,hl1];refine(Ca hG y 0 (ih y (Ar (by rw[hx];simp))) _ r _ _ hBK (by(try simp only[List.length_append,List.length_cons,List.length_nil,List.length_map]);omega) h2).mono ?_;rintro _ H3 ⟨rfl,h3⟩;simp(disch:=omega) only[go_sem,↓reduceIte];refine Pm.refl ⟨rfl,?_⟩;have:=h3.drop hB3
    (try simp only[List.append_assoc,List.cons_append,List.nil_append] at this⊢)
    exact this
   ·have hb:Pq (!Ki y.kind) (Ag y)=Aw y 6:=by rw[Aw,decide_eq_true (by omega),Ki,decide_eq_false b9,decide_eq_false b10];rfl
    rw[hb] at hlen⊢
    simp(disch:=omega) only[go_sem,↓reduceIte,g1,hll,hfl,hy0,b9,b10];intro q1 hq1;dsimp only at hq1;simp(disch:=omega) only[go_sem,↓reduceIte,hk];refine(Mk hG Fl hq1 hBK (by(try simp only[List.length_append,List.length_cons,List.length_nil,List.length_map]);omega) h1).mono ?_;rintro _ H2 ⟨rfl,h2⟩;have g2:=h2.keep (Aa _ _ _) n3.symm;simp(disch:=omega) only[go_sem,↓reduceIte,g2,hll,hfl,hl1];refine(Ca hG y 6 (ih y (Ar (by rw[hx];simp))) _ r _ _ hBK (by(try simp only[List.length_append,List.length_cons,List.length_nil,List.length_map]);omega) h2).mono ?_;rintro _ H3 ⟨rfl,h3⟩;simp(disch:=omega) only[go_sem,↓reduceIte];refine Pm.refl ⟨rfl,?_⟩;have:=h3.drop hB3
    (try simp only[List.append_assoc,List.cons_append,List.nil_append] at this⊢)
    exact this
 have z8:=hk;clear hk;by_cases hk:e.kind=9
 ·obtain⟨hx,ha,_⟩:=ff9 hk hf;have ht:Ag e=Am Bo::(taE e++ [Am Cc]):=Bv4 hk;rw[ht,List.length_cons,List.length_append] at hlen;rw[ht];simp only[List.length_cons,List.length_nil,taE] at hlen;unfold taE;have hnm:Az e=false:=by cases h:Az e with | false=>rfl | true=>exact(Mf (by omega) h).elim
  rw[hnm];rw[Ey] at ha;simp only[Bool.and_eq_true,decide_eq_true_eq,Bool.not_eq_true'] at ha;simp(disch:=omega) only[go_sem,↓reduceIte,gr3,hk];intro q1 hq1;dsimp only at hq1;simp(disch:=omega) only[go_sem,↓reduceIte,hk];refine(Mk hG Bo hq1 hBK (by(try simp only[List.length_append,List.length_cons,List.length_nil,List.length_map]);omega) hwK).mono ?_;rintro _ H2 ⟨rfl,h2⟩;have g2:=h2.keep (Aa _ _ _) n3.symm;simp(disch:=omega) only[go_sem,↓reduceIte,g2];refine(Yo hG e.a Gx (by omega) (fun a hma=>Yp hG a (Be8 (Lb ha.2 a hma)) fun y hy=>ih y (Gv hma hy)) _ r _ _ hBK (by(try simp only[List.length_append,List.length_cons,List.length_nil,List.length_map]);omega) h2).mono ?_;rintro _ H3 ⟨rfl,h3⟩;simp(disch:=omega) only[go_sem,↓reduceIte];intro q2 hq2;dsimp only at hq2;simp(disch:=omega) only[go_sem,↓reduceIte,hk];refine(Mk hG Cc hq2 hBK (by(try simp only[List.length_append,List.length_cons,List.length_nil,List.length_map]);omega) h3).mono ?_;rintro _ H4 ⟨rfl,h4⟩;have g4:=h4.keep (Aa _ _ _) n3.symm;simp(disch:=omega) only[go_sem,↓reduceIte];refine Pm.refl ⟨rfl,?_⟩;have:=h4.drop hB3
  (try simp only[List.append_assoc,List.cons_append,List.nil_append] at this⊢)
  exact this
 have z9:=hk;clear hk;by_cases hk:e.kind=10
 ·obtain⟨⟨x,y,z,hx⟩,_⟩:=Dq7 hk hf;have ht:Ag e=ifT x y z 3++ [Am Cc]:=by rw[Au0 hk];unfold tE;rw[hx];simp [ifT]
  have hle3:(ifT x y z 1).length<=(ifT x y z 3).length/\(ifT x y z 2).length<=(ifT x y z 3).length:=by
   simp only[ifT,List.length_cons,List.length_append];omega
  rw[ht,List.length_append,List.length_singleton] at hlen;rw[ht];have hll:e.l.length=3:=by rw[hx];rfl
  have hl0:=lx0 hx;have hl1:=lx1 hx;have hl2:=lx2 hx;have hnm:Az e=false:=by cases h:Az e with | false=>rfl | true=>exact(Mf (by omega) h).elim
  rw[hnm];simp(disch:=omega) only[go_sem,↓reduceIte,gr3,hk];intro q0 hq0;dsimp only at hq0;obtain⟨L,hL⟩: ∃K',K'=upd K1 q0 (some (.cells [.str [105,102], .str [116,104,101,110], .str [101,108,115,101]] 9)):=⟨_,rfl⟩;rw[<-hL];have hwL:WAt (upd (upd B r3 (some (.cells (dEx e) 36))) q0 (some (.cells [.str [105,102], .str [116,104,101,110], .str [101,108,115,101]] 9))) r ts L:=by rw[hL];exact hwK.frame hq0 _
  have n0:r≠q0:=hwK.ne hq0;have hB0:=(hwK.lo hq0).1;have n30:r3≠q0:=Af hq0 gr3;obtain⟨C,hC⟩: ∃C,C=upd (upd B r3 (some (.cells (dEx e) 36))) q0 (some (.cells [.str [105,102], .str [116,104,101,110], .str [101,108,115,101]] 9)):=⟨_,rfl⟩;rw[<-hC] at hwL;have hCr:C r=none:=by rw[hC,Aq _ _ _ _ n0];exact hBK
  have c3:C r3=some (.cells (dEx e) 36):=by rw[hC];exact Ai (Aa _ _ _) n30
  have c0:C q0=some (.cells [.str [105,102], .str [116,104,101,110], .str [101,108,115,101]] 9):=by rw[hC];exact Aa _ _ _
  simp(disch:=omega) only[go_sem,↓reduceIte];obtain⟨I,hI⟩: ∃I:Nat->(Nat->DVal)->Ab->Prop,∀j env heap,I j env heap↔(env 0= .optr r 0/\env 3= .optr r3 0/\env 111= .oslice 1 q0 0 3 3/\env 112=dI 3/\env 113=dI j/\j<=3/\WAt C r (ts++ifT x y z j) heap):=⟨_,fun _ _ _=>Iff.rfl⟩;refine Bs7.run I (fun j=>3-j) 0 ((hI _ _ _).2 ?_) ?_
  ·simp(disch:=omega) only[go_sem,↓reduceIte];(repeat' apply And.intro)<;>(try first | rfl | assumption | omega);simpa [ifT] using hwL
  ·intro j env heap hi;obtain⟨e0,e3,e111,e112,e113,hj,hwj⟩:=(hI _ _ _).1 hi;have g3:=hwj.keep c3 n3.symm;have g0:=hwj.keep c0 n0.symm;have hj':j=0\/j=1\/j=2\/j=3:=by omega
   have w1:IntKind.i64.wrap (0+1)=1:=by decide
   have w2:IntKind.i64.wrap (1+1)=2:=by decide
   have w3:IntKind.i64.wrap (2+1)=3:=by decide
   rcases hj' with rfl | rfl | rfl | rfl
   ·have z0:((0:Nat):Int)=0:=rfl;simp(disch:=omega) only[go_sem,↓reduceIte,e0,e3,e111,e112,e113,g0,z0];intro p1 hp1;dsimp only at hp1;simp(disch:=omega) only[go_sem,↓reduceIte,e0,e3,e111,e112,e113];refine(Mk hG Bo hp1 hCr (by simp only[ifT,List.append_nil];omega) hwj).mono ?_;rintro _ H1 ⟨rfl,h1⟩;have f1:=h1.keep c3 n3.symm;simp(disch:=omega) only[go_sem,↓reduceIte,e0,e3,e111,e112,e113,f1];intro p2 hp2;dsimp only at hp2;simp(disch:=omega) only[go_sem,↓reduceIte,e0,e3,e111,e112,e113];refine(Mk hG wIf hp2 hCr (by simp only[ifT,List.append_nil,List.length_append,List.length_cons,List.length_nil] at hle3 hlen⊢;omega) h1).mono ?_;rintro _ H2 ⟨rfl,h2⟩;have f2:=h2.keep c3 n3.symm;simp(disch:=omega) only[go_sem,↓reduceIte,e0,e3,e111,e112,e113,f2,hll,hfl,hl0];refine(ih x (Ar (by rw[hx];simp)) _ r _ _ hCr (by simp only[ifT,List.append_nil,List.length_append,List.length_cons,List.length_nil] at hle3 hlen⊢;omega) h2).mono ?_;rintro _ H4 ⟨rfl,h4⟩;simp(disch:=omega) only[go_sem,↓reduceIte,e0,e3,e111,e112,e113];refine⟨1,_,Ik.refl _,(hI _ _ _).2 ?_,by omega⟩;simp(disch:=omega) only[go_sem,↓reduceIte,e0,e3,e111,e112,e113,w1];(repeat' apply And.intro)<;>(try first | rfl | assumption | omega);simpa [ifT] using h4
   ·have z0:((1:Nat):Int)=1:=rfl;simp(disch:=omega) only[go_sem,↓reduceIte,e0,e3,e111,e112,e113,g0,z0];intro p2 hp2;dsimp only at hp2;simp(disch:=omega) only[go_sem,↓reduceIte,e0,e3,e111,e112,e113];refine(Mk hG Jm hp2 hCr (by simp only[ifT,List.append_nil,List.length_append,List.length_cons,List.length_nil] at hle3 hlen⊢;omega) hwj).mono ?_;rintro _ H2 ⟨rfl,h2⟩;have f2:=h2.keep c3 n3.symm;simp(disch:=omega) only[go_sem,↓reduceIte,e0,e3,e111,e112,e113,f2,hll,hfl,hl1];refine(ih y (Ar (by rw[hx];simp)) _ r _ _ hCr (by simp only[ifT,List.append_nil,List.length_append,List.length_cons,List.length_nil] at hle3 hlen⊢;omega) h2).mono ?_;rintro _ H4 ⟨rfl,h4⟩;simp(disch:=omega) only[go_sem,↓reduceIte,e0,e3,e111,e112,e113];refine⟨2,_,Ik.refl _,(hI _ _ _).2 ?_,by omega⟩;simp(disch:=omega) only[go_sem,↓reduceIte,e0,e3,e111,e112,e113,w2];(repeat' apply And.intro)<;>(try first | rfl | assumption | omega);simpa [ifT] using h4
   ·have z0:((2:Nat):Int)=2:=rfl;simp(disch:=omega) only[go_sem,↓reduceIte,e0,e3,e111,e112,e113,g0,z0];intro p2 hp2;dsimp only at hp2;simp(disch:=omega) only[go_sem,↓reduceIte,e0,e3,e111,e112,e113];refine(Mk hG Ke hp2 hCr (by simp only[ifT,List.append_nil,List.length_append,List.length_cons,List.length_nil] at hle3 hlen⊢;omega) hwj).mono ?_;rintro _ H2 ⟨rfl,h2⟩;have f2:=h2.keep c3 n3.symm;simp(disch:=omega) only[go_sem,↓reduceIte,e0,e3,e111,e112,e113,f2,hll,hfl,hl2];refine(ih z (Ar (by rw[hx];simp)) _ r _ _ hCr (by simp only[ifT,List.append_nil,List.length_append,List.length_cons,List.length_nil] at hle3 hlen⊢;omega) h2).mono ?_;rintro _ H4 ⟨rfl,h4⟩;simp(disch:=omega) only[go_sem,↓reduceIte,e0,e3,e111,e112,e113];refine⟨3,_,Ik.refl _,(hI _ _ _).2 ?_,by omega⟩;simp(disch:=omega) only[go_sem,↓reduceIte,e0,e3,e111,e112,e113,w3];(repeat' apply And.intro)<;>(try first | rfl | assumption | omega);simpa [ifT] using h4
   ·have z0:((3:Nat):Int)=3:=rfl;simp(disch:=omega) only[go_sem,↓reduceIte,e0,e3,e111,e112,e113,g0,z0];intro p2 hp2;dsimp only at hp2;simp(disch:=omega) only[go_sem,↓reduceIte,e0,e3,e111,e112,e113];refine(Mk hG Cc hp2 hCr (by simp only[List.length_append] at hlen⊢;omega) hwj).mono ?_;rintro _ H2 ⟨rfl,h2⟩;simp(disch:=omega) only[go_sem,↓reduceIte,e0];refine Pm.refl ⟨rfl,?_⟩;rw[hC] at h2;have:=(h2.drop hB0).drop hB3;rw[List.append_assoc] at this;exact this
 have z10:=hk;clear hk;by_cases hk:e.kind=11
 ·obtain⟨⟨x,hx⟩,⟨o,ho,ho2⟩,_⟩:=Dq8 hk hf;have ht:Ag e=(Al o).map Am++Aw x (Gq e):=by rw[Bo7 hk,ho,Int.toNat_natCast];unfold pE tE;rw[hx];rfl
  rw[ht] at hlen⊢
  have hnm:Az e=false:=by cases h:Az e with | false=>rfl | true=>exact(Mf (by omega) h).elim
  rw[hnm];simp(disch:=omega) only[go_sem,↓reduceIte,gr3,hk];refine(Bp8 hG e x o hx ho (by omega) (ih x (Ar (by rw[hx];simp))) _ r _ _ hBK hlen hwK).mono ?_;rintro _ H1 ⟨rfl,h1⟩;simp(disch:=omega) only[go_sem,↓reduceIte];exact Pm.refl ⟨rfl,h1.drop hB3⟩
 have z11:=hk;clear hk;by_cases hk:e.kind=12
 ·obtain⟨⟨x,y,hx⟩,⟨o,ho,ho2⟩,_⟩:=Dq9 hk hf;have ht:Ag e=Aw x (Cw e)++((Al o).map Am++Aw y (Eb e)):=by rw[Bo8 hk,ho,Int.toNat_natCast];unfold pE tE;rw[hx];rfl
  rw[ht] at hlen⊢
  have hnm:Az e=false:=by cases h:Az e with | false=>rfl | true=>exact(Mf (by omega) h).elim
  rw[hnm];simp(disch:=omega) only[go_sem,↓reduceIte,gr3,hk];refine(Bp9 hG e x y o hx ho (by omega) (ih x (Ar (by rw[hx];simp))) (ih y (Ar (by rw[hx];simp))) _ r _ _ hBK hlen hwK).mono ?_;rintro _ H1 ⟨rfl,h1⟩;simp(disch:=omega) only[go_sem,↓reduceIte];exact Pm.refl ⟨rfl,h1.drop hB3⟩
 have z12:=hk;clear hk;have hkd:e.kind=13\/e.kind=14:=by
  by_cases h:e.kind=13\/e.kind=14
  ·exact h
  ·exfalso;have:Ae e=false:=by
    unfold Ae;rw[if_neg z1,if_neg z2,if_neg z3,if_neg (by omega),if_neg z5,if_neg z7,if_neg z8,if_neg z9,if_neg z10,if_neg z11,if_neg z12,if_neg h]
   rw[this] at hf;cases hf
 obtain⟨hx',_⟩:=Cw5 hkd hf;have hx: ∃x,(∃y z,e.l= [x,y,z])\/ ∃y,e.l= [x,y]:=by
  rcases hx' with⟨x,y,z,hx⟩ | ⟨x,y,hx,_⟩
  ·exact⟨x, .inl ⟨y,z,hx⟩⟩
  ·exact⟨x, .inr ⟨y,hx⟩⟩
 clear hx';obtain⟨x,hx⟩:=hx;have g0:e.l.getD 0 ex0=x/\0<e.l.length:=by rcases hx with⟨y,z,hx⟩ | ⟨y,hx⟩<;>(rw[hx];exact⟨rfl,by simp⟩)
 have hp0:pE e 0 2=Aw x 2:=by rw[Dk5 g0.2,g0.1]
 have hihl: ∀y∈e.l,WrC Tryz.prog G 255 [.agg (dEx y)] (Ag y):=fun y hy=>ih y (Ar hy);have hnm:Az e=false:=by cases h:Az e with | false=>rfl | true=>exact(Mf (by omega) h).elim
 rw[hnm];by_cases hk:e.kind=13
 ·have ht:Ag e=Aw x 2++([wIn].map Am++Ga e):=by rw[Bo9 hk,hp0];rfl
  rw[ht] at hlen⊢
  simp(disch:=omega) only[go_sem,↓reduceIte,gr3,hk];intro q1 hq1;dsimp only at hq1;simp(disch:=omega) only[go_sem,↓reduceIte];refine Ah.fzA q1 hq1 ?_;simp only[fzs,fz,if_neg (hwK.ne hq1),if_pos,At3];refine(Vh hG e x [wIn] hx hihl _ r _ _ hBK hlen hwK).mono ?_;rintro _ H1 ⟨rfl,h1⟩;simp(disch:=omega) only[go_sem,↓reduceIte];exact Pm.refl ⟨rfl,h1.drop hB3⟩
 ·have hk14:e.kind=14:=by omega
  have ht:Ag e=Aw x 2++([Nf,wIn].map Am++Ga e):=by rw[Bp0 hk14,hp0];rfl
  rw[ht] at hlen⊢
  simp(disch:=omega) only[go_sem,↓reduceIte,gr3,hk14];intro q1 hq1;dsimp only at hq1;simp(disch:=omega) only[go_sem,↓reduceIte];refine Ah.fzA q1 hq1 ?_;simp only[fzs,fz,if_neg (hwK.ne hq1),if_pos,At3];refine(Vh hG e x [Nf,wIn] hx hihl _ r _ _ hBK hlen hwK).mono ?_;rintro _ H1 ⟨rfl,h1⟩;simp(disch:=omega) only[go_sem,↓reduceIte];exact Pm.refl ⟨rfl,h1.drop hB3⟩
end
end Go.Dl

-- Chapter 3: expressions: the plain laws, part 15: how many tokens an expression has.
namespace Go.Dl
open Go
set_option maxRecDepth 10000
def wt (l:List Ex):Nat:=(l.map fun x=>(Ag x).length+7).sum
theorem Ro (l m:List Ex):wt (l++m)=wt l+wt m:=by simp [wt]
theorem Dx (x:Ex) (l:List Ex):wt (x::l)=(Ag x).length+7+wt l:=by simp [wt]
theorem Dr2:wt []=0:=rfl
theorem Hr (x:Ex) (lv:Int):(Aw x lv).length<=(Ag x).length+2:=by
 rw[Aw,Bd8];split<;>omega
theorem Ap2 {n:Nat} {c:Ch} (h:Dt n c=true):(Et c).length+1<=wt c.l+if c.kind=3 then 2 else 0:=by
 unfold Dt at h;by_cases c1:c.kind=1
 ·rw[if_pos c1,decide_eq_true_eq] at h;obtain⟨x,hx⟩:=Cw4 h;rw[Ig,if_pos c1,hx,Dx];show(Ag x).length+1<=_;omega
 ·rw[if_neg c1] at h;by_cases c2:c.kind=2
  ·rw[if_pos c2,decide_eq_true_eq] at h;obtain⟨x,y,hx⟩:=Cg9 h;rw[Ig,if_neg c1,if_pos c2,hx,Dx,Dx];show(Aw x 2++Am Ef::Aw y 2).length+1<=_;have:=Hr x 2;have:=Hr y 2;rw[List.length_append,List.length_cons];omega
  ·rw[if_neg c2] at h;simp only[Bool.and_eq_true,decide_eq_true_eq] at h;rw[Ig,if_neg c1,if_neg c2,if_pos h.1.1];show 1+1<=_;omega
theorem Xk (t:List Tok) (ta:List (List Tok)):Au1 (t::ta)=t.length+1+Au1 ta:=by simp [Au1]
theorem Yq {n:Nat} (hn:n≠1): ∀(l:List Ch),l.length<=n->(∀c∈l,Dt n c=true)->Au1 (l.map Et)<=wt (l.flatMap Ch.l)
 | [],_,_=>Nat.zero_le _
 | c::r,hl,h=>by
  have ih:=Yq hn r (by rw[List.length_cons] at hl;omega) fun d hd=>h d (by simp [hd]);have hc:=h c (by simp);have h1:=Ap2 hc;rw[if_neg] at h1
  ·rw[List.map_cons,Xk,List.flatMap_cons,Ro];omega
  ·intro c3;unfold Dt at hc;rw[if_neg (by omega),if_neg (by omega)] at hc;simp only[Bool.and_eq_true,decide_eq_true_eq,List.length_cons] at hc hl;omega
theorem Ch5 {l:List Ch} (h:Co l=true):(Fm Fk (l.map Et)).length<=wt (l.flatMap Ch.l)+2:=by
 simp only[Co,Bool.and_eq_true,decide_eq_true_eq,List.all_eq_true] at h
 have h0:=Cu5 Fk (l.map Et) (by intro e;rw[List.map_eq_nil_iff] at e;rw[e] at h;simp at h)
 by_cases hn:l.length=1
 ·match l,hn with
  | [c],_=>
   have h1:=Ap2 (h.2 c (by simp))
   have h2:(if c.kind=3 then 2 else 0)<=2:=by split<;>omega
   rw[List.map_singleton,Xk] at h0
   rw[List.map_singleton,List.flatMap_singleton]
   simp [Au1] at h0
   omega
 ·have:=Yq hn l (Nat.le_refl _) h.2
  omega
theorem Al1 {l:List Ch} (h:Cn l=true):Co l=true:=by
 match l with
 | [c]=>
  simp only[Cn,Bool.and_eq_true,decide_eq_true_eq] at h
  simp only[Co,List.length_singleton,List.all_cons,List.all_nil,Bool.and_true,Dt,if_pos h.1]
  match hl:c.l with
  | [x]=>rfl
  | []=>rw[hl] at h;cases h.2
  | _::_::_=>rw[hl] at h;cases h.2
 | []=>cases h
 | _::_::_=>cases h
theorem Ch6 {a:As} (h:(a.c.isEmpty || Co a.c)=true):(Ez a).length+1<=wt (Cu a):=by
 rw[Cu,Ro,Dx,Dr2];by_cases c0:a.c= []
 ·rw[Kj,c0];show(Ag a.e).length+1<=_;omega
 ·have hr:Co a.c=true:=by
   rw[Bool.or_eq_true] at h;rcases h with h | h
   ·exact absurd (List.isEmpty_iff.1 h) c0
   ·exact h
  have h1:=Ch5 hr;rw[Kj,if_neg (by simpa using c0),List.length_append,List.length_cons];omega
theorem Ah9: ∀(l:List As),(∀a∈l,(a.c.isEmpty || Co a.c)=true)->Au1 (l.map Ez)<=wt (l.flatMap Cu)
 | [],_=>Nat.zero_le _
 | a::r,h=>by
  have ih:=Ah9 r fun d hd=>h d (by simp [hd]);have h1:=Ch6 (h a (by simp));rw[List.map_cons,Xk,List.flatMap_cons,Ro];omega
theorem Bq1 {l:List As} (h:Hx l=true): ∀a∈l,(a.c.isEmpty || Co a.c)=true:=fun a ha=>by
 rw[Hx,Bool.and_eq_true,List.all_eq_true] at h;have:=h.2 a ha;rw[Bool.or_eq_true] at this⊢
 rcases this with h1 | h1
 ·exact .inl h1
 ·exact .inr (Al1 h1)
theorem Bw2 {l:List As} (h: ∀a∈l,(a.c.isEmpty || Co a.c)=true):(Fm Gx (l.map Ez)).length<=wt (l.flatMap Cu):=by
 have h1:=Ah9 l h;rw[Af9];unfold Au1 at h1;unfold Cu3;omega
theorem Ap3 (o:Nat):(Al o).length<=2:=by
 rw[Al,List.getD];by_cases h:o<22
 ·have: ∀i:Fin 22,((Cr4[i.1]?).getD []).length<=2:=by decide
  exact this ⟨o,h⟩
 ·rw[List.getElem?_eq_none (by have:Cr4.length=22:=rfl;omega)];decide
theorem Bq2 {e:Ex} (hf:Ae e=true):(Ag e).length<=10+wt (parts e):=by
 have hpl:wt (parts e)=wt e.l+wt (e.a.flatMap Cu):=Ro _ _;by_cases k1:e.kind=1
 ·rw[Ct4 k1];show 1<=_;omega
 by_cases k2:e.kind=2
 ·rw[Ct5 k2];show 1<=_;omega
 by_cases k3:e.kind=3
 ·rw[Ao1 k3];show 1<=_;omega
 by_cases k4:e.kind=4
 ·obtain⟨⟨x,hx,_⟩,_⟩:=Ch0 (.inl k4) hf;rw[Ct6 k4,hpl,hx,Dx];unfold tE;rw[hx,List.length_append];show(Ag x).length+2<=_;omega
 by_cases k5:e.kind=5
 ·obtain⟨⟨x,hx,_⟩,_⟩:=ff5 k5 hf;rw[Ct7 k5,hpl,hx,Dx];unfold tE;rw[hx,List.length_append];show(Ag x).length+2<=_;omega
 by_cases k6:e.kind=6
 ·obtain⟨⟨x,hx,_⟩,_⟩:=Ch0 (.inr k6) hf;rw[Ct8 k6,hpl,hx,Dx];unfold tE;rw[hx,List.length_append];show(Ag x).length+2<=_;omega
 by_cases k7:e.kind=7
 ·obtain⟨⟨x,hx,_⟩,ha,_⟩:=ff7 k7 hf;have h1:=Bw2 (Bq1 ha);rw[Ct9 k7,hpl,hx,Dx];unfold tE taE;rw[hx,List.length_append,List.length_cons,List.length_append];show(Ag x).length+(_+1+1)<=_;omega
 by_cases k8:e.kind=8
 ·obtain⟨⟨x,y,hx,_⟩,_⟩:=ff8 k8 hf;rw[Cu0 k8,hpl,hx,Dx,Dx];unfold tE;rw[hx,List.length_append,List.length_cons,Bd8];show(Ag x).length+((Ag y).length+_+1)<=_;split<;>omega
 by_cases k9:e.kind=9
 ·obtain⟨hx,ha,_⟩:=ff9 k9 hf;rw[Ey,Bool.and_eq_true] at ha;have h1:=Bw2 (fun a hm=>Lb ha.2 a hm);rw[Bv4 k9,hpl,List.length_cons,List.length_append];unfold taE;show _+1+1<=_;omega
 by_cases k10:e.kind=10
 ·obtain⟨⟨x,y,z,hx⟩,_⟩:=Dq7 k10 hf;rw[Au0 k10,hpl,hx,Dx,Dx,Dx];unfold tE;rw[hx];simp only[List.length_append,List.length_cons];show(Ag x).length+((Ag y).length+((Ag z).length+_+1)+1)+1+1<=_;simp only[List.length_nil];omega
 by_cases k11:e.kind=11
 ·obtain⟨⟨x,hx⟩,⟨o,ho,_⟩,_⟩:=Dq8 k11 hf;have:=Ap3 e.oper.toNat;have:=Hr x (Gq e);have hp:pE e 0 (Gq e)=Aw x (Gq e):=by unfold pE tE;rw[hx];rfl
  rw[Bo7 k11,hpl,hx,Dx,hp,List.length_append,List.length_map];omega
 by_cases k12:e.kind=12
 ·obtain⟨⟨x,y,hx⟩,_⟩:=Dq9 k12 hf;have:=Ap3 e.oper.toNat;have:=Hr x (Cw e);have:=Hr y (Eb e);have hp:pE e 0 (Cw e)=Aw x (Cw e):=by unfold pE tE;rw[hx];rfl
  have hq:pE e 1 (Eb e)=Aw y (Eb e):=by unfold pE tE;rw[hx];rfl
  rw[Bo8 k12,hpl,hx,Dx,Dx,hp,hq,List.length_append,List.length_append,List.length_map];omega
 by_cases h:e.kind=13\/e.kind=14
 ·obtain⟨hx',_⟩:=Cw5 h hf;have hT:(pE e 0 2).length+(Ga e).length+3<=10+wt (parts e):=by
   rcases hx' with⟨x,y,z,hx⟩ | ⟨x,y,hx,_⟩
   ·have:=Hr x 2;have:=Hr y 2;have:=Hr z 2;have hp:pE e 0 2=Aw x 2:=by unfold pE tE;rw[hx];rfl
    have hq:Ga e=Aw y 2++Am Ef::Aw z 2:=by unfold Ga pE tE;rw[hx];rfl
    rw[hp,hq,hpl,hx,Dx,Dx,Dx,List.length_append,List.length_cons];omega
   ·have:=Hr x 2;have hp:pE e 0 2=Aw x 2:=by unfold pE tE;rw[hx];rfl
    have hq:Ga e=Ag y:=by unfold Ga pE tE;rw[hx];rfl
    rw[hp,hq,hpl,hx,Dx,Dx];omega
  rcases h with k | k
  ·rw[Bo9 k,List.length_append,List.length_cons];omega
  ·rw[Bp0 k,List.length_append,List.length_cons,List.length_cons];omega
 exfalso;have:Ae e=false:=by
  unfold Ae;rw[if_neg k1,if_neg k2,if_neg k3,if_neg (by omega),if_neg k5,if_neg k7,if_neg k8,if_neg k9,if_neg k10,if_neg k11,if_neg k12,if_neg h]
 rw[this] at hf;cases hf
theorem Dv2 {l:List Ex} (h: ∀x∈l,(Ag x).length+7<=17*Ee x):wt l<=17*Hm l:=by
 induction l with
 | nil=>exact Nat.zero_le _
 | cons x l ih=>
  have h1:=h x (by simp);have h2:=ih fun y hy=>h y (by simp [hy]);rw[Dx,Hm,List.map_cons,List.sum_cons];unfold Hm at h2;omega
theorem Ch7 (e:Ex): ∀d,Cv d e=true->(Ag e).length+7<=17*Ee e:=by
 refine Ex.ind (p:=fun e=> ∀d,Cv d e=true->(Ag e).length+7<=17*Ee e) (fun e ih d hv=> ?_) e;obtain⟨hf,hp⟩:=Lc hv;have h1:=Bq2 hf;have h2:=Dv2 fun x hx=>ih x hx _ (hp x hx);rw[Lh e];omega
theorem Dh1 {e:Ex} (h:Ko e=true):(Ag e).length<=5000:=by
 rw[Ko,Bool.and_eq_true,decide_eq_true_eq] at h;have:=Ch7 e 1 h.1;omega
def Vi (e:Ex):List Tok×Int:=if Ko e then(Ag e,0) else([],2)
end Go.Dl

-- Chapter 3: the package's Tokens, ArgTokens, ChoiceTokens.
namespace Go.Dl
open Go Go.Proofs
set_option maxRecDepth 100000
section
variable {G:Nat->DVal}
theorem Ch8 (hG:GX G) (e:Ex): ∀d,Cv d e=true->WrC Tryz.prog G 255 [.agg (dEx e)] (Ag e):=by
 refine Ex.ind (p:=fun e=> ∀d,Cv d e=true->WrC Tryz.prog G 255 [.agg (dEx e)] (Ag e)) (fun e ih d hv=> ?_) e;obtain⟨hf,hp⟩:=Lc hv;exact Bq0 hG e hf fun x hx=>ih x hx _ (hp x hx)
theorem Rp {e:Ex} (h:Ko e=true):Cv 1 e=true:=by
 rw[Ko,Bool.and_eq_true] at h;exact h.1
theorem WAt.start {B:Ab} {r:Nat} (hr:B r=none):WAt B r [] (upd B r (some (.cells [.nilSlice] 281))):=⟨_, .inl ⟨rfl,rfl,rfl,Sub.refl _⟩⟩
theorem WAt.cell {B H:Ab} {r:Nat} {ts:List Tok} (h:WAt B r ts H) (hr:B r=none): ∃v,H r=some (.cells [v] 281)/\Fv H v B (Bv ts):=by
 obtain⟨v,h⟩:=h;exact⟨v,h.keep (Aa _ _ _),Fv.own (h.less ((Sub.refl B).up hr _))⟩
set_option maxHeartbeats 4000000 in
theorem Qt (hG:GX G) (H:Ab) (e:Ex) (he:Fit e):Ah Tryz.prog G 118 [.agg (dEx e)] H (Bp (.tuple [Bv (Vi e).1,dI (Vi e).2]) H):=by
 rw[Vi];refine Ac Tryz.func118 Tryz.call118 rfl (by kernel_rfl) ?_;simp(disch:=omega) only[go_sem,↓reduceIte,DVal.cells];intro r1 hr1;dsimp only at hr1;obtain⟨K,hK⟩: ∃K',K'=upd H r1 (some (.cells (dEx e) 36)):=⟨_,rfl⟩;rw[<-hK];have gr1:K r1=some (.cells (dEx e) 36):=by rw[hK];exact Aa _ _ _
 have hs:Sub H K:=by rw[hK];exact(Sub.refl H).new hr1 _
 simp(disch:=omega) only[go_sem,↓reduceIte,gr1];refine(Kh hG K e he).mono ?_;rintro _ K1 ⟨rfl,rfl⟩;cases hm:Ko e with
 | false=>
  simp(disch:=omega) only[go_sem,↓reduceIte];exact Fv.fin hs (Fv.tuple (.cons (Fv.nil hs) (Dp.keep hs _))) ⟨rfl,rfl⟩
 | true=>
  have hlen:=Dh1 hm;simp(disch:=omega) only[go_sem,↓reduceIte];intro r2 hr2;dsimp only at hr2;have n12:r1≠r2:=Af hr2 gr1;have m12:=n12.symm;have hw:=WAt.start hr2;have g1:upd K1 r2 (some (.cells [.nilSlice] 281)) r1=some (.cells (dEx e) 36):=Ai gr1 n12;simp(disch:=omega) only[go_sem,↓reduceIte,g1];refine(Ch8 hG e 1 (Rp hm) K1 r2 [] _ hr2 (by simp;omega) hw).mono ?_;rintro _ H1 ⟨rfl,h1⟩;rw[List.nil_append] at h1;have hs1:Sub K1 H1:=by
   obtain⟨v,h1⟩:=h1;exact(((Sub.refl K1).up hr2 _).trans h1.sub)
  obtain⟨v,hv1,hv2⟩:=h1.cell hr2;simp(disch:=omega) only[go_sem,↓reduceIte,hv1];have hsf:Sub H H1:=hs.trans hs1;refine Fv.fin hsf (Fv.tuple (.cons (fun w hw x hx=>Rel.lasts (Fg hs w) _ _ (hv2 w hw x hx)) (Dp.keep hsf _))) ⟨rfl,rfl⟩
end
end Go.Dl
