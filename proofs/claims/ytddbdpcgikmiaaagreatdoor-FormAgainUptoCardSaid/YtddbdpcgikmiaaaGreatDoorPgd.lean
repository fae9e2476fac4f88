/- The data level and the contracts of the functions that are reached (part 4). -/
import Derived.Lib.IndexMore
import Derived.Lib.IndexAny
import Derived.Lib.TrimByte
import Derived.Lib.Strings
import Derived.Lib.Repeat
import Derived.Lib.CountLaws
import Derived.Lib.ParseIntB
import Derived.Lib.Fields
import Derived.Laws.RangeString
import Derived.Laws.RangeAny
import Derived.Test.YtddbdpcgikmiaaaGreatDoorPgc
set_option linter.unusedSimpArgs false
set_option linter.unusedVariables false
set_option linter.unusedSectionVars false
-- P4
namespace Go.Dl
open Go
set_option maxRecDepth 10000
theorem Di3 {t:Tok} (h:Zn t=true): ∃c r,Pf t=c::r/\((Ew c=true/\t.kind≠4/\(c::r).all Ew=true/\(c::r).length<=32)\/
  t.kind=4/\((t.text= [c]/\r= []/\c∈Ap8)\/ ∃b,t.text= [c,b]/\r= [b]/\(c,b)∈Wo)):=by
 obtain⟨k,li,E,n⟩:=t;rcases Bz8 h with⟨rfl,h1,h2⟩ | ⟨rfl,h1,h2⟩ | ⟨rfl,h1,h2⟩ | ⟨rfl,h1,h2,h3⟩
 ·obtain⟨c,w,e,hc,hl,ha,hk⟩:=Di2 h2;dsimp only at e;subst e;exact⟨c,w,rfl, .inl ⟨Vi hc,by simp,ha,hl⟩⟩
 ·obtain⟨c,w,e,hc,hl,ha⟩:=Eg0 h2;dsimp only at e;subst e;exact⟨c,w,rfl, .inl ⟨Vi hc,by simp,ha,hl⟩⟩
 ·rcases Bz7 h2 with⟨a,e,ha⟩ | ⟨a,b,e,C⟩<;>(dsimp only at e;subst e)
  ·exact⟨a,[],rfl, .inr ⟨rfl, .inl ⟨rfl,rfl,ha⟩⟩⟩
  ·exact⟨a,[b],rfl, .inr ⟨rfl, .inr ⟨b,rfl,rfl,C⟩⟩⟩
 ·dsimp only at h1 h2 h3;subst h1;obtain⟨u,rfl⟩: ∃u:Nat,n=u:=⟨n.toNat,by omega⟩;have e:Pf ⟨3,li,[],(u:Int)⟩=Lib.decDigits u:=by
   show Lib.itoa (u:Int)++ []=_;rw[Cs9 (by omega),jH];rfl
  obtain⟨c,w,D,hc⟩:=Ey6 u;have hd:=Dt1 u;have hl:=Dt0 (n:=u) (by omega);rw[D] at hd hl e;exact⟨c,w,e, .inl ⟨Ak0 hc,by simp,List.all_eq_true.2 fun x hx=>Ak0 (hd x hx),by omega⟩⟩
theorem Bz9 {c:UInt8} (h:Ew c=true):33<=c.toNat/\c.toNat<=126:=by
 have hu:c=95->c.toNat=95:=fun e=>by rw[e];rfl
 unfold Ew Gi Gu at h;simp only[Bool.or_eq_true,jF,decide_eq_true_eq] at h;rcases h with((h | h) | h) | h
 ·omega
 ·omega
 ·omega
 ·have:=hu h;omega
theorem Di4: ∀c∈Ap8,33<=c.toNat/\c.toNat<=126:=by decide+kernel
theorem Di5: ∀p∈Wo,(33<=p.1.toNat/\p.1.toNat<=126)/\33<=p.2.toNat/\p.2.toNat<=126:=by decide+kernel
theorem Ca0 {t:Tok} (h:Zn t=true):(∀c∈Pf t,33<=c.toNat/\c.toNat<=126)/\1<=(Pf t).length/\(Pf t).length<=32:=by
 obtain⟨c,r,e,h1 | ⟨_,⟨_,rfl,h2⟩ | ⟨b,_,rfl,h2⟩⟩⟩:=Di3 h
 ·rw[e];exact⟨fun x hx=>Bz9 (List.all_eq_true.1 h1.2.2.1 x hx),by simp,h1.2.2.2⟩
 ·rw[e];refine⟨fun x hx=> ?_,by simp,by simp⟩;rw[List.mem_singleton] at hx;subst hx;exact Di4 x h2
 ·rw[e];refine⟨fun x hx=> ?_,by simp,by simp⟩;have:=Di5 _ h2;simp only[List.mem_cons,List.not_mem_nil,or_false] at hx;rcases hx with rfl | rfl
  ·exact this.1
  ·exact this.2
theorem Af1: ∀(l:List Tok) (a:Option Tok),Tw l=true->l.length<=(Rp a l).length/\(Rp a l).length<=33*l.length
 | [],a,_=>by cases a<;>exact⟨Nat.le_refl _,Nat.le_refl _⟩
 | t::l,a,h=>by
  rw[Tw,List.all_cons,jF] at h;have h1:=(Ca0 h.1).2;have h2:=Af1 l (some t) h.2;cases a with
  | none=>
   show _<=(Pf t++Rp (some t) l).length/\(Pf t++Rp (some t) l).length<=_;rw[jC,jA];omega
  | some a=>
   rw[show Rp (some a) (t::l)=(if Ab1 a t then [32] else [])++(Pf t++Rp (some t) l) from rfl,jC,jC,jA];split
   ·rw[jQ];omega
   ·rw[jB];omega
def Ey7 (d:Nat) (l:List Tok):List UInt8:=List.replicate (2*d) 32++Vh l
theorem Fu2 {c:UInt8} (r:List UInt8) (h:c≠32):Jg (c::r)=c::r:=by
 unfold Jg;rw[List.dropWhile_cons,beq_eq_false_iff_ne.2 h];rfl
theorem Gk6 {c:UInt8} (r:List UInt8) (h:c≠45):Qb (c::r)=false:=by
 unfold Qb;split
 ·rename_i e;simp at e;exact absurd e.1 h
 ·rfl
theorem Ct0 {c:UInt8} {r:List UInt8} (C:c≠32) (D:Qb (c::r)=false):So (c::r)=if(Fb (c::r)).2=0 then [((Fb (c::r)).1,false)] else((Fb (c::r)).1,true)::So ((c::r).drop (Fb (c::r)).2):=by
 rw[Xv,Fu2 r C,if_neg (fun h=>h.elim (by simp) (fun h=>by rw[D] at h;cases h))]
theorem Ct1: ∀a:List UInt8,Go.Op.bytesLess a a=false
 | []=>rfl
 | x::a=>by
  unfold Go.Op.bytesLess;simp [Ct1 a]
theorem Ca1: ∀a b:List UInt8,Go.Op.bytesLess a b=true->Go.Op.bytesLess b a=false
 | [],[],h=>rfl
 | [],_::_,_=>rfl
 | _::_,[],h=>by cases h
 | x::a,y::b,h=>by
  unfold Go.Op.bytesLess at h⊢
  by_cases e:x=y
  ·subst e;simp only[UInt8.lt_irrefl] at h⊢
   simp at h⊢
   exact Ca1 a b h
  ·have hn:y≠x:=fun h=>e h.symm;simp [e,hn] at h⊢
   exact UInt8.le_of_lt h
theorem Ct2:Bc1.Pairwise (fun a b=>Go.Op.bytesLess a b=true):=by decide+kernel
structure halfAt (l:List (List UInt8)) (s:List UInt8) (i j:Nat):Prop where
 le:i<=j
 len:j<=l.length
 lo: ∀k w,k<i->l[k]? =some w->w≠s
 hi: ∀k w,j<k->l[k]? =some w->w≠s
theorem Di6 (l:List (List UInt8)) (s:List UInt8):halfAt l s 0 l.length:=
 ⟨Nat.zero_le _,Nat.le_refl _,fun _ _ h=>by omega,fun k w h hk=>by rw[List.getElem?_eq_none (by omega)] at hk;cases hk⟩
theorem Dt2 {l:List (List UInt8)} {a:Nat} {b:Nat} {u v:List UInt8} (hl:l.Pairwise fun a b=>Go.Op.bytesLess a b=true) (h:a<b) (ha:l[a]? =some u) (hb:l[b]? =some v):Go.Op.bytesLess u v=true:=by
 obtain⟨h1,rfl⟩:=List.getElem?_eq_some_iff.1 ha;obtain⟨h2,rfl⟩:=List.getElem?_eq_some_iff.1 hb;exact List.pairwise_iff_getElem.1 hl a b h1 h2 h
theorem Fu3 {l:List (List UInt8)} {s w:List UInt8} {i j h:Nat} (hl:l.Pairwise fun a b=>Go.Op.bytesLess a b=true) (hk:halfAt l s i j) (h2:h<j) (hw:l[h]? =some w) (C:Go.Op.bytesLess w s=true):halfAt l s (h+1) j:=by
 obtain⟨k1,D,J,E⟩:=hk;refine⟨by omega,D,fun k u L hu e=> ?_,E⟩;subst e;rcases Nat.lt_or_ge k h with I | hge
 ·have:=Dt2 hl I hu hw;rw[Ca1 _ _ this] at C;cases C
 ·have:k=h:=by omega
  subst this;rw[hw] at hu;cases hu;rw[Ct1] at C;cases C
theorem Eg2 {l:List (List UInt8)} {s w:List UInt8} {i j h:Nat} (hl:l.Pairwise fun a b=>Go.Op.bytesLess a b=true) (hk:halfAt l s i j) (h1:i<=h) (h2:h<j) (hw:l[h]? =some w) (C:Go.Op.bytesLess w s=false):halfAt l s i h:=by
 obtain⟨k1,I,D,J⟩:=hk;refine⟨h1,by omega,D,fun k u E hu e=> ?_⟩;subst e;rw[Dt2 hl E hw hu] at C;cases C
theorem Ey8 {l:List (List UInt8)} {s:List UInt8} {i:Nat} (hk:halfAt l s i i):decide (s∈l)=decide (l[i]? =some s):=by
 obtain⟨_,_,C,D⟩:=hk;refine decide_eq_decide.2 ⟨fun h=> ?_,fun h=>List.mem_of_getElem? h⟩;obtain⟨k,hk⟩:=List.mem_iff_getElem?.1 h;rcases Nat.lt_trichotomy k i with h1 | h1 | h1
 ·exact absurd rfl (C k s h1 hk)
 ·rw[<-h1];exact hk
 ·exact absurd rfl (D k s h1 hk)
def Mc (s:List UInt8) (line:Nat) (l:List Tok):List Tok×Int×Int:=
 match Di1 (Xw (Gv s) line) l.length with
 | some e=>([],e.1,e.2)
 | none=>(l++(Xw (Gv s) line).map (·.1),0,0)
theorem Ct3 {s:List UInt8} (h:s.length<=65536):Ck s=Mc s 1 []:=by
 rw[Ck,if_neg (by omega),Mc,jB];cases Di1 (Xw (Gv s) 1) 0 with
 | some e=>rfl
 | none=>rfl
theorem Ey9 (line:Nat) (l:List Tok):Mc [] line l=(l,0,0):=by
 have e:Xw (Gv []) line= []:=rfl;rw[Mc,e];show(l++ [],(0:Int),(0:Int))=_;rw[jH]
theorem Fu4 (r:List UInt8) (line:Nat) (l:List Tok):Mc (10::r) line l=Mc r (line+1) l:=by
 have e:Xw (Gv (10::r)) line=Xw (Gv r) (line+1):=by
  rw[Gv,Di,if_pos rfl,Xw];rfl
 rw[Mc,Mc,e]
theorem Ab2 (c:UInt8): ∀(s C:List UInt8),∃h t,Di c s []=h::t/\Di c s C=(C++h)::t
 | [],C=>⟨[],[],rfl,by simp [Di]⟩
 | x::s,C=>by
  rw[Di,Di];split
  ·exact⟨[],_,rfl,by simp⟩
  ·obtain⟨h,t,e1,E⟩:=Ab2 c s [x];obtain⟨h',t',D,I⟩:=Ab2 c s (C++ [x]);rw[e1] at D;cases D;exact⟨x::h,t,by rw[jG,E];rfl,by rw[I];simp⟩
theorem Xx {c:UInt8} (r:List UInt8) (C:c≠10): ∃h t,Gv r=h::t/\Gv (c::r)=(c::h)::t:=by
 obtain⟨h,t,e1,D⟩:=Ab2 10 r [c];exact⟨h,t,e1,by rw[Gv,Di,if_neg C,jG,D];rfl⟩
theorem Ab3 {s h:List UInt8} {t:List (List UInt8)} (e:Gv s=h::t):(10:UInt8)∉h/\((t= []/\s=h)\/(t≠ []/\s=h++10::Ah9 t))/\ ∀n,n<=h.length->Gv (s.drop n)=h.drop n::t:=by
 have hm: ∀w∈Gv s,(10:UInt8)∉w:=fun w hw=>Ab0 10 s [] w (by simp) hw
 have hj:Ah9 (Gv s)=s:=by rw[Gv,Di0];rfl
 rw[e] at hm hj
 have h10:=hm h (by simp)
 have hd: ∀n,(10:UInt8)∉h.drop n:=fun n hx=>h10 (List.mem_of_mem_drop hx)
 match t with
 | []=>
  have hs:h=s:=hj
  subst hs
  exact⟨h10, .inl ⟨rfl,rfl⟩,fun n hn=>by rw[Gv,Bl4 10 _ (hd n)];rfl⟩
 | u::t=>
  have hs:h++10::Ah9 (u::t)=s:=hj
  subst hs
  refine⟨h10, .inr ⟨by simp,rfl⟩,fun n hn=> ?_⟩
  rw[List.drop_append_of_le_length hn,Gv,Bl5 10 _ _ (hd n)]
  have:=Bl7 (u::t) (by simp) fun w hw=>hm w (List.mem_cons_of_mem _ hw)
  rw[Gv] at this
  rw[this];rfl
theorem Fu5 (r:List UInt8) (line:Nat) (l:List Tok):Mc (32::r) line l=Mc r line l:=by
 obtain⟨h,t,e1,C⟩:=Xx (c:=32) r (by decide);have D:So (32::h)=So h:=by
  have ht:Jg (32::h)=Jg h:=rfl;rw[Xv (32::h),Xv h,ht]
 have e:Xw (Gv (32::r)) line=Xw (Gv r) line:=by rw[e1,C,Xw,Xw,D]
 rw[Mc,Mc,e]
theorem Gk7 (s r:List UInt8) (h:s≠ []):Uq (s++10::r)=Uq s:=by
 match s,h with
 | [],h=>exact absurd rfl h
 | [a],_=>
  have:(a,(10:UInt8))∉Wo:=by simp [Wo]
  simp only[jI,jG,Uq,if_neg this]
 | a::b::s,_=>rfl
theorem Ez0 (s r:List UInt8) (h:s≠ []):Fb (s++10::r)=Fb s:=by
 have hw:Fl (s++10::r)=Fl s:=Cs8 s r 10 rfl
 have hs:=Gk7 s r h
 have ht:(s++10::r).take (Uq s)=s.take (Uq s):=List.take_append_of_le_length (Dh9 s)
 match s,h with
 | [],h=>exact absurd rfl h
 | c::s,_=>
  unfold Fb
  rw[jI] at hw hs ht⊢
  dsimp only
  rw[hw,hs,ht]
theorem Bl9 {c:UInt8} {r:List UInt8} (line:Nat) (l:List Tok) (I:c≠10) (J:c≠32) (C:Qb (c::r)=false):
  Mc (c::r) line l=if(Fb (c::r)).2=0 then([],(line:Int),20) else if l.length=8192 then([],(line:Int),3)
   else Mc ((c::r).drop (Fb (c::r)).2) line (l++ [{ (Fb (c::r)).1 with line:=(line:Int) }]):=by
 obtain⟨h,t,e1,E⟩:=Xx r I
 obtain⟨_,hp,L⟩:=Ab3 E
 have hf:Fb (c::r)=Fb (c::h):=by
  rcases hp with⟨_,hs⟩ | ⟨_,hs⟩
  ·rw[hs]
  ·rw[hs,Ez0 _ _ (by simp)]
 have hc2:Qb (c::h)=false:=by
  rcases hp with⟨_,hs⟩ | ⟨_,hs⟩
  ·rwa [hs] at C
  ·cases hi:Qb (c::h) with
   | false=>rfl
   | true=>
    rw[hs] at C
    match h with
    | []=>unfold Qb at hi;split at hi<;>simp_all
    | d::h'=>
     by_cases hh:c=45/\d=45
     ·obtain⟨rfl,rfl⟩:=hh
      exact absurd C (by simp [Qb])
     ·unfold Qb at hi
      split at hi
      ·rename_i D;simp at D;exact absurd ⟨D.1,D.2.1⟩ hh
      ·cases hi
 have hle:(Fb (c::h)).2<=(c::h).length:=Aq0 _
 have hys:=Ct0 J hc2
 rw[hf,Mc,E,Xw,hys]
 by_cases h0:(Fb (c::h)).2=0
 ·rw[if_pos h0,if_pos h0,jN,jI,Di1,if_pos rfl]
 ·rw[if_neg h0,if_neg h0,jN,jI,Di1,if_neg (by simp)]
  by_cases h8:l.length=8192
  ·rw[if_pos h8,if_pos h8]
  ·rw[if_neg h8,if_neg h8]
   have hd:=L _ hle
   rw[Mc,hd,Xw,jC,jQ]
   split
   ·rfl
   ·simp
theorem Ez1 (r:List UInt8) (line:Nat) (l:List Tok): ∃h t,Gv (45::45::r)=h::t/\(Qs h=false->Mc (45::45::r) line l=([],(line:Int),20))/\
  (Qs h=true->Mc (45::45::r) line l=Mc ((45::45::r).drop h.length) line l):=by
 obtain⟨h1,t,e1,I⟩:=Xx (c:=45) r (by decide);obtain⟨h2,L,D,C⟩:=Xx (c:=45) (45::r) (by decide);rw[I] at D;cases D;obtain⟨_,_,J⟩:=Ab3 C;have E:So (45::45::h1)=if Qs (45::45::h1) then [] else [(Ap9,false)]:=by
  have ht:Jg (45::45::h1)=45::45::h1:=rfl;rw[Xv,ht,if_pos (.inr rfl)]
 refine⟨_,t,C,fun hp=> ?_,fun hp=> ?_⟩
 ·rw[Mc,C,Xw,E,hp,if_neg (by simp),jN,jI,Di1,if_pos rfl]
 ·have hd:=J _ (Nat.le_refl _);rw[Mc,Mc,hd,C,Xw,Xw,E,hp,List.drop_length];rfl
theorem Eg3 (c:UInt8):Gu c=true↔48<=c.toNat/\c.toNat<=57:=by simp [Gu]
theorem Gs1 {s:List UInt8}:(Fl s=s)↔s.all Ew=true:=by
 constructor
 ·intro h;have: ∀l:List UInt8,(l.takeWhile Ew).all Ew=true:=fun l=>by
   induction l with
   | nil=>rfl
   | cons c l ih=>
    rw[List.takeWhile_cons];split
    ·rename_i hc;rw[List.all_cons,hc,ih];rfl
    ·rfl
  rw[<-h];exact this s
 ·exact Aq1 s
theorem Fu6 (s:List UInt8):Nv s=(decide (s≠ [])&&(decide (s.length<=32)&&((match s with | c::_=>Gi c | []=>false)&&(decide (Fl s=s)&&!Up s)))):=by
 have hw:decide (Fl s=s)=s.all Ew:=by
  cases h:s.all Ew with
  | true=>exact decide_eq_true (Gs1.2 h)
  | false=>exact decide_eq_false fun e=>by rw[Gs1.1 e] at h;cases h
 rw[hw]
 unfold Nv
 match s with
 | []=>rfl
 | c::r=>
  simp only[ne_eq,reduceCtorEq,not_false_eq_true,decide_true,jS]
  cases Gi c<;>cases decide ((c::r).length<=32)<;>cases (c::r).all Ew<;>cases Up (c::r)<;>rfl
theorem Dt3 {s:List UInt8} {k:Nat} {c:UInt8} (h:(s.take k).all Ew=true) (C:s[k]? =some c) (hw:Ew c=false):Fl s=s.take k:=by
 obtain⟨hk,rfl⟩:=List.getElem?_eq_some_iff.1 C;have e:s=s.take k++s[k]::s.drop (k+1):=by rw[<-List.drop_eq_getElem_cons hk,List.take_append_drop]
 rw[show Fl s=Fl (s.take k++s[k]::s.drop (k+1)) from congrArg Fl e,Cs8 _ _ _ hw,Aq1 _ h]
theorem Di7: ∀n:Fin 256,Gi (UInt8.ofNat n.1)=(decide (97<=n.1 ||| 32)&&decide (n.1 ||| 32<=122)):=by decide+kernel
end Go.Dl
-- Sa
namespace Go.Dl
open Go Go.Proofs Go.RowKit
set_option maxRecDepth 100000
variable {H Hn:Ac}
attribute [go_sem] List.getElem?_toArray List.getElem?_cons_zero List.getElem?_cons_succ List.append_eq
theorem Gk8 {P:Program} {w:World} {H:Ac} {G:Nat->DVal} {g:Nat} {name:String} {k:IntKind} {C:List Int} (D:P.globalNamed name=some g) (h:GOk G w H) (e:G g= .vptr (C.map fun z=> .int k z) 0):Lib.TabIs P w name k C:=by
 have hx:=h.exact g _ e;have hr:=h.rel g;rw[e] at hr;have hc:=Ef8 D hr rfl;unfold Lib.TabIs World.var?;rw[D];simp only[Option.bind_some];cases ho:w.heap[g]? with
 | none=>rw[ho] at hx;cases hx
 | some o=>
  cases o with
  | cells c t fz=>
   rw[ho] at hx;simp only[Qa,Option.some.injEq,jK] at hx;simp only[Option.some.injEq];apply Array.ext_getElem?;intro i;by_cases hi:i<C.length
   ·have:=hc i C[i] (List.getElem?_eq_getElem hi);simp only[World.cell?,ho] at this;simp [hi];simpa using this
   ·rw[Array.getElem?_eq_none (by omega),Array.getElem?_eq_none (by simp;omega)]
  | _=>rw[ho] at hx;cases hx
section
end
section
variable {G:Nat->DVal} {H:Ac}
theorem Eg4 (hG:G 1= .vptr (Lib.asciiSpaceTab.map fun z=> .int .u8 z) 0) (s:List UInt8) (hs:s.length<4294967281) (ha: ∀(j:Nat) b,s[j]? =some b->b.toNat<128):
  Ag Tryz.prog G 307 [.str s] H (Ax (Ah8 (Lib.fields s)) H):=by
 refine⟨Tryz.call307,fun vs w hv C hg=> ?_⟩;simp only[Az,Rel] at hv;obtain⟨_,_,rfl,rfl,rfl⟩:=hv;refine(Tryz.strings_Fields ⟨⟨s⟩⟩ w hs ha (Gk8 (show Tryz.prog.globalNamed "strings.asciiSpace" =some 1 by kernel_rfl) hg hG)).mono fun e w' ⟨he,hw⟩=> ?_;subst he;subst hw;have hq:RowKit.Below w.heap.size w (w.alloc (.cells ((Lib.fields s).map fun l=>Value.string ⟨l.toArray⟩).toArray 9)):=RowKit.Below.alloc (RowKit.Below.refl _ _) (Nat.le_refl _) _;obtain⟨k1,D⟩:=(Quiet.below hq).ext C;refine⟨_,H,⟨rfl,rfl⟩, .ret _ _ ?_,k1,D⟩;simp only[Ah8,Rel];refine⟨_,_,by rfl,Nat.le_refl _, .inr ⟨w.heap.size,0,(Lib.fields s).map fun l=>Value.string ⟨l.toArray⟩,rfl, .inr ⟨?_,fun i x hx=> ?_⟩, ?_⟩⟩
 ·cases e:H w.heap.size with
  | none=>rfl
  | some o=>exact absurd (C.lt (r:=w.heap.size) (by simp [e])) (by omega)
 ·rw[Nat.zero_add,World.cell?,World.alloc_heap_new];simpa using hx
 ·refine Az.mk (by simp) fun i d x h1 h2=> ?_;simp only[List.getElem?_map,Option.map_eq_some_iff] at h1 h2;obtain⟨I,E,rfl⟩:=h1;obtain⟨J,q2,rfl⟩:=h2;rw[E] at q2;cases q2;simp [Rel]
end
structure GX (G:Nat->DVal):Prop where
 space:G 1= .vptr (Lib.asciiSpaceTab.map fun z=> .int .u8 z) 0
theorem Gx6: ∀n:Fin 256,IntKind.u8.wrap (((BitVec.ofInt 8 ((n.1:Nat):Int) ||| BitVec.ofInt 8 32).toNat:Nat):Int)=((n.1 ||| 32:Nat):Int):=by decide+kernel
section
variable {G:Nat->DVal} {H:Ac}
theorem Bc4 (G:Nat->DVal) (H:Ac) (b:UInt8):Ag Tryz.prog G 252 [.int .u8 b.toNat] H (Ax (.bool (Gi b)) H):=by
 have C:=Gx6 ⟨b.toNat,b.toNat_lt⟩;have hl:=Di7 ⟨b.toNat,b.toNat_lt⟩;dsimp only at C hl;rw[UInt8.ofNat_toNat] at hl;rw[hl];clear hl;generalize b.toNat ||| 32=m at C⊢
 refine Ab Tryz.func252 Tryz.call252 rfl (by kernel_rfl) ?_;simp(disch:=omega)only[go_sem];generalize hm:IntKind.u8.wrap _=z;have hz:z=(m:Int):=hm.symm.trans C;subst hz;by_cases h1:97<=m
 ·have D:(97:Int)<=(m:Int):=by omega
  simp(disch:=omega)only[go_sem,D];generalize E:IntKind.u8.wrap _=z;have hz:z=(m:Int):=E.symm.trans C;subst hz;refine Fa.refl ⟨?_,rfl⟩;rw[decide_eq_decide.2 (show(m:Int)<=122↔m<=122 by omega)]
 ·have D: ¬(97:Int)<=(m:Int):=by omega
  simp(disch:=omega)only[go_sem,D];exact Fa.refl ⟨rfl,rfl⟩
theorem Di8 (G:Nat->DVal) (H:Ac) (b:UInt8):Ag Tryz.prog G 295 [.int .u8 b.toNat] H (Ax (.bool (Gu b)) H):=by
 refine Ab Tryz.func295 Tryz.call295 rfl (by kernel_rfl) ?_;by_cases h1:48<=b.toNat
 ·have C:(48:Int)<=(b.toNat:Int):=by omega
  simp(disch:=omega)only[go_sem,C];refine Fa.refl ⟨?_,rfl⟩;rw[Gu,decide_eq_decide.2 (show(b.toNat:Int)<=57↔b.toNat<=57 by omega),decide_eq_true h1,jS]
 ·have C: ¬(48:Int)<=(b.toNat:Int):=by omega
  simp(disch:=omega)only[go_sem,C];refine Fa.refl ⟨?_,rfl⟩;rw[Gu,decide_eq_false h1];rfl
theorem Di9 (G:Nat->DVal) (H:Ac) (s:List UInt8):Ag Tryz.prog G 320 [.str s] H (Ax (.bool false) H):=by
 refine Ab Tryz.func320 Tryz.call320 rfl (by kernel_rfl) ?_;simp(disch:=omega)only[go_sem];exact Fa.refl ⟨rfl,rfl⟩
theorem Ct4 (G:Nat->DVal) (H:Ac) (s:List UInt8):Ag Tryz.prog G 306 [.str s] H (Ax (.bool false) H):=by
 refine Ab Tryz.func306 Tryz.call306 rfl (by kernel_rfl) ?_;simp(disch:=omega)only[go_sem];exact Fa.refl ⟨rfl,rfl⟩
theorem Eg5 (G:Nat->DVal) (H:Ac) (s t:List UInt8):Ag Tryz.prog G 305 [.str s, .str t] H (Ax (.bool (Go.Op.bytesLess s t)) H):=by
 refine Ab Tryz.func305 Tryz.call305 rfl (by kernel_rfl) ?_;simp(disch:=omega)only[go_sem];refine(Di9 G _ s).mono ?_;rintro _ H ⟨rfl,rfl⟩;simp(disch:=omega)only[go_sem];exact Fa.refl ⟨rfl,rfl⟩
theorem Ct5 (G:Nat->DVal) (H:Ac) (l:List (List UInt8)) (s:List UInt8) (hl:l.Pairwise fun a b=>Go.Op.bytesLess a b=true) (U:l.length<=1000000):
  Ag Tryz.prog G 272 [Ah8 l, .str s] H (fun e H'=>(∃i:Nat,e= .ret (.tuple [dI i, .bool (decide (s∈l))]))/\H'=H):=by
 refine Ab Tryz.func272 Tryz.call272 rfl (by kernel_rfl) ?_;simp(disch:=omega)only[go_sem,Ah8];obtain⟨I,O⟩: ∃I:Nat×Nat->(Nat->DVal)->Ac->Prop,∀p env heap,I p env heap↔(env 0= .vslice (l.map .str) l.length/\env 1= .str s/\env 6=dI l.length/\env 7=dI p.1/\env 8=dI p.2/\halfAt l s p.1 p.2/\heap=H):=⟨_,fun _ _ _=>Iff.rfl⟩;refine Dr7.run I (fun p=>p.2-p.1) (0,l.length) ((O _ _ _).2 ?_) ?_
 ·simp(disch:=omega)only[go_sem];(repeat' apply And.intro)<;>(try first | rfl | assumption | omega);exact Di6 l s
 ·rintro⟨i,j⟩ env heap hi;obtain⟨E,e1,J,C,D,hh,rfl⟩:=(O _ _ _).1 hi;dsimp only at C D hh;have V:=hh.le;have W:=hh.len;by_cases S:i<j
  ·have hm:(i+j)/2<l.length:=by omega
   have w1:IntKind.u64.wrap ((i:Int)+(j:Int))=((i+j:Nat):Int):=by rw[IntKind.wrap_u64];omega
   have w2:(((i+j:Nat)):Int).fdiv (2^min 1 64)=(((i+j)/2:Nat):Int):=by rw[show(2:Int)^min 1 64=2 from rfl,Int.fdiv_eq_ediv_of_nonneg _ (by omega)];omega
   have w3:IntKind.i64.wrap ((((i+j)/2:Nat)):Int)=(((i+j)/2:Nat):Int):=by rw[IntKind.wrap_i64];omega
   have hg:(l.map DVal.str)[(i+j)/2]? =some (.str l[(i+j)/2]):=by rw[List.getElem?_map,List.getElem?_eq_getElem hm];rfl
   simp(disch:=omega)only[go_sem,E,e1,J,C,D,S,w1,w2,w3,hg,hm];refine(Eg5 G _ l[(i+j)/2] s).mono ?_;rintro _ H1 ⟨rfl,rfl⟩;cases hb:Go.Op.bytesLess l[(i+j)/2] s with
   | true=>
    simp(disch:=omega)only[go_sem,E,e1,J,C,D];refine⟨((i+j)/2+1,j),_,Rz.refl _,(O _ _ _).2 ?_,by dsimp only;omega⟩;simp(disch:=omega)only[go_sem,E,e1,J,C,D];(repeat' apply And.intro)<;>(try first | rfl | assumption | omega);exact Fu3 hl hh (by omega) (List.getElem?_eq_getElem hm) hb
   | false=>
    simp(disch:=omega)only[go_sem,E,e1,J,C,D];refine⟨(i,(i+j)/2),_,Rz.refl _,(O _ _ _).2 ?_,by dsimp only;omega⟩;simp(disch:=omega)only[go_sem,E,e1,J,C,D];(repeat' apply And.intro)<;>(try first | rfl | assumption | omega);exact Eg2 hl hh (by omega) (by omega) (List.getElem?_eq_getElem hm) hb
  ·have:i=j:=by omega
   subst this;have L:=Ey8 hh;by_cases hi:i<l.length
   ·have M:(i:Int)<(l.length:Int):=by omega
    have hg:(l.map DVal.str)[i]? =some (.str l[i]):=by rw[List.getElem?_map,List.getElem?_eq_getElem hi];rfl
    rw[List.getElem?_eq_getElem hi] at L;by_cases hw:l[i]=s
    ·simp(disch:=omega)only[go_sem,E,e1,J,C,D,M,hi,hg,hw];refine Fa.refl ⟨⟨i, ?_⟩,rfl⟩;rw[L,hw];simp
    ·simp(disch:=omega)only[go_sem,E,e1,J,C,D,M,hi,hg,hw];refine(Ct4 G _ l[i]).mono ?_;rintro _ H1 ⟨rfl,rfl⟩;simp(disch:=omega)only[go_sem,E,e1,J,C,D,M,hi,hg,hw];refine Fa.refl ⟨⟨i, ?_⟩,rfl⟩;rw[L];simp [hw]
   ·have M: ¬(i:Int)<(l.length:Int):=by omega
    rw[List.getElem?_eq_none (by omega)] at L;simp(disch:=omega)only[go_sem,E,e1,J,C,D,M];refine Fa.refl ⟨⟨i, ?_⟩,rfl⟩;rw[L];simp
theorem Ct6 {s:List UInt8} {k:Nat} {c:UInt8} (h:s[k]? =some c) (C:c.toNat<128):Tm s k=(c.toNat,1):=by
 obtain⟨hk,rfl⟩:=List.getElem?_eq_some_iff.1 h;exact Go.decode_ascii ⟨⟨s⟩⟩ k hk C
theorem Eg6 {s:List UInt8} {k:Nat} {c:UInt8} (h:s[k]? =some c) (C:128<=c.toNat):128<=(Tm s k).1:=by
 obtain⟨hk,rfl⟩:=List.getElem?_eq_some_iff.1 h;exact(Go.decode_high ⟨⟨s⟩⟩ k hk C).1
theorem Eg7 {c:UInt8} (h:126<c.toNat):Ew c=false:=by
 cases hw:Ew c with
 | false=>rfl
 | true=>have:=(Bz9 hw).2;omega
set_option maxHeartbeats 1000000 in
theorem Eg8 (G:Nat->DVal) (H:Ac) (s:List UInt8) (hs:s.length<=1000000000):Ag Tryz.prog G 253 [.str s] H (Ax (.str (Fl s)) H):=by
 refine Ab Tryz.func253 Tryz.call253 rfl (by kernel_rfl) ?_;simp(disch:=omega)only[go_sem];intro r hr;obtain⟨I,O⟩: ∃I:Nat->(Nat->DVal)->Ac->Prop,∀k env heap,I k env heap↔(env 0= .str s/\env 6= .optr r 0/\(s.take k).all Ew=true/\k<=s.length/\heap=upd H r (some (.iter s k))):=⟨_,fun _ _ _=>Iff.rfl⟩;refine Dr7.run I (fun k=>s.length-k) 0 ((O _ _ _).2 ?_) ?_
 ·simp(disch:=omega)only[go_sem]
 ·intro k env heap hi;obtain⟨C,D,hw,hk,rfl⟩:=(O _ _ _).1 hi;by_cases E:k<s.length
  ·have hg:s[k]? =some s[k]:=List.getElem?_eq_getElem E;have W:Ew s[k]=false->Fl s=s.take k:=fun h=>Dt3 hw hg h;have U:Ew s[k]=true->(s.take (k+1)).all Ew=true:=fun h=>by
    rw[List.take_add_one,hg,List.all_append,hw];simpa using h
   have X:(k:Int)<=(s.length:Int):=by omega
   by_cases Z:s[k].toNat<=126
   ·have J:=Ct6 hg (by omega);have L: ¬(126:Int)<(s[k].toNat:Int):=by omega
    have M:IntKind.u8.wrap (s[k].toNat:Int)=(s[k].toNat:Int):=by rw[IntKind.wrap_u8];have:=s[k].toNat_lt;omega
    simp(disch:=omega)only[go_sem,C,D,E,J,L,M];refine(Bc4 G _ s[k]).mono ?_;rintro _ H1 ⟨rfl,rfl⟩;cases hle:Gi s[k] with
    | true=>
     simp(disch:=omega)only[go_sem,C,D,E,J,L,M];refine⟨k+1,_,Rz.refl _,(O _ _ _).2 ?_,by omega⟩;simp(disch:=omega)only[go_sem,C,D];(repeat' apply And.intro)<;>(try first | rfl | assumption | omega);exact U (Vi hle)
    | false=>
     simp(disch:=omega)only[go_sem,C,D,E,J,L,M];refine(Di8 G _ s[k]).mono ?_;rintro _ H1 ⟨rfl,rfl⟩;cases hdi:Gu s[k] with
     | true=>
      simp(disch:=omega)only[go_sem,C,D,E,J,L,M];refine⟨k+1,_,Rz.refl _,(O _ _ _).2 ?_,by omega⟩;simp(disch:=omega)only[go_sem,C,D];(repeat' apply And.intro)<;>(try first | rfl | assumption | omega);exact U (Ak0 hdi)
     | false=>
      by_cases S:s[k]=95
      ·have V:(s[k].toNat:Int)=95:=by rw[S];rfl
       simp(disch:=omega)only[go_sem,C,D,E,J,L,M,V];refine⟨k+1,_,Rz.refl _,(O _ _ _).2 ?_,by omega⟩;simp(disch:=omega)only[go_sem,C,D];(repeat' apply And.intro)<;>(try first | rfl | assumption | omega);exact U (by rw[S];rfl)
      ·have V: ¬(s[k].toNat:Int)=95:=Tv (d:=95) S;simp(disch:=omega)only[go_sem,C,D,E,J,L,M,V,X];refine Fa.dropA r hr (Fa.refl ⟨?_,rfl⟩);rw[W (by simp [Ew,hle,hdi,S])];simp
   ·have hlo:126<((Tm s k).1:Int):=by
     by_cases Y:s[k].toNat<128
     ·rw[Ct6 hg Y];dsimp only;omega
     ·have:=Eg6 hg (by omega);omega
    simp(disch:=omega)only[go_sem,C,D,E,hlo,X];refine Fa.dropA r hr (Fa.refl ⟨?_,rfl⟩);rw[W (Eg7 (by omega))];simp
  ·have:k=s.length:=by omega
   subst this;simp(disch:=omega)only[go_sem,C,D,E];refine Fa.dropA r hr (Fa.refl ⟨?_,rfl⟩);rw[List.take_length] at hw;rw[Gs1.2 hw]
end
section
variable {G:Nat->DVal} {H:Ac}
def Bg5:List UInt8:= [97,98,111,114,116,32,97,98,115,32,97,99,99,101,112,116,32,97,99,99,101,115,115,32,97,108,105,97,115,101,100,32,97,108,108,32,97,110,100,32,97,114,114,97,121,32,98,101,103,105,110,32,98,111,100,121,32,99,97,115,101,32,99,111,110,115,116,97,110,116,32,100,101,99,108,97,114,101,32,100,101,108,97,121,32,100,111,32,101,108,115,101,32,101,108,115,105,102,32,101,110,100,32,101,110,116,114,121,32,101,120,99,101,112,116,105,111,110,32,101,120,105,116,32,102,111,114,32,102,117,110,99,116,105,111,110,32,103,101,110,101,114,105,99,32,105,102,32,105,110,32,105,115,32,108,105,109,105,116,101,100,32,108,111,111,112,32,109,111,100,32,110,101,119,32,110,111,116,32,110,117,108,108,32,111,102,32,111,114,32,111,116,104,101,114,115,32,111,117,116,32,112,97,99,107,97,103,101,32,112,114,97,103,109,97,32,112,114,105,118,97,116,101,32,112,114,111,99,101,100,117,114,101,32,112,114,111,116,101,99,116,101,100,32,114,97,105,115,101,32,114,97,110,103,101,32,114,101,99,111,114,100,32,114,101,109,32,114,101,110,97,109,101,115,32,114,101,113,117,101,117,101,32,114,101,116,117,114,110,32,114,101,118,101,114,115,101,32,115,101,108,101,99,116,32,115,101,112,97,114,97,116,101,32,115,117,98,116,121,112,101,32,116,97,115,107,32,116,101,114,109,105,110,97,116,101,32,116,104,101,110,32,116,121,112,101,32,117,110,116,105,108,32,117,115,101,32,119,104,101,110,32,119,104,105,108,101,32,119,105,116,104,32,120,111,114]
theorem Ct7: ∀b∈Bg5,b.toNat<128:=by decide+kernel
theorem Dj0:Lib.fields Bg5=Bc1:=by kernel_rfl
theorem Eg9 (hG:GX G) (H:Ac):Ag Tryz.prog G 273 [] H (Ax (Ah8 Bc1) H):=by
 refine Ab Tryz.func273 Tryz.call273 rfl (by kernel_rfl) ?_;simp(disch:=omega)only[go_sem];show Ag _ _ _ [.str Bg5] _ _;refine(Eg4 hG.space Bg5 (by decide+kernel) (fun j b h=>Ct7 b (List.mem_of_getElem? h))).mono ?_;rintro _ H1 ⟨rfl,rfl⟩;rw[Dj0];simp(disch:=omega)only[go_sem];exact Fa.refl ⟨rfl,rfl⟩
theorem Wp (hG:GX G) (H:Ac) (s:List UInt8):Ag Tryz.prog G 203 [.str s] H (Ax (.bool (Up s)) H):=by
 refine Ab Tryz.func203 Tryz.call203 rfl (by kernel_rfl) ?_;simp(disch:=omega)only[go_sem];refine(Eg9 hG _).mono ?_;rintro _ H1 ⟨rfl,rfl⟩;simp(disch:=omega)only[go_sem];refine(Ct5 G _ Bc1 s Ct2 (by decide)).mono ?_;rintro _ H2 ⟨⟨i,rfl⟩,rfl⟩;simp(disch:=omega)only[go_sem];exact Fa.refl ⟨rfl,rfl⟩
theorem Ak1 (hG:GX G) (H:Ac) (s:List UInt8) (hs:s.length<=9223372036854775807):Ag Tryz.prog G 178 [.str s] H (Ax (.bool (Nv s)) H):=by
 refine Ab Tryz.func178 Tryz.call178 rfl (by kernel_rfl) ?_
 match s with
 | []=>
  simp(disch:=omega)only[go_sem]
  exact Fa.refl ⟨rfl,rfl⟩
 | c::r=>
  have D: ¬(c::r= []):=by simp
  have h0:(c::r)[0]? =some c:=rfl
  rw[Fu6]
  by_cases hl:(c::r).length<=32
  ·have C:((c::r).length:Int)<=32:=by omega
   simp(disch:=omega)only[go_sem,D,C,h0]
   refine(Bc4 G _ c).mono ?_
   rintro _ H1 ⟨rfl,rfl⟩
   cases hle:Gi c with
   | false=>
    simp(disch:=omega)only[go_sem,D,C,h0]
    exact Fa.refl ⟨by simp,rfl⟩
   | true=>
    simp(disch:=omega)only[go_sem,D,C,h0]
    refine(Eg8 G _ (c::r) (by omega)).mono ?_
    rintro _ H1 ⟨rfl,rfl⟩
    by_cases hw:Fl (c::r)=c::r
    ·simp(disch:=omega)only[go_sem,D,C,h0,hw]
     refine(Wp hG _ (c::r)).mono ?_
     rintro _ H1 ⟨rfl,rfl⟩
     simp(disch:=omega)only[go_sem,D,C,h0,hw]
     exact Fa.refl ⟨by first | rfl | (rw[jA] at hl;simp [hw];intro _;omega),rfl⟩
    ·simp(disch:=omega)only[go_sem,D,C,h0,hw]
     exact Fa.refl ⟨by first | rfl | simp [hw],rfl⟩
  ·have C: ¬((c::r).length:Int)<=32:=by omega
   simp(disch:=omega)only[go_sem,D,C,h0]
   exact Fa.refl ⟨by first | rfl | (rw[jA] at hl;simp;intro h;omega),rfl⟩
theorem Ca2 (a:UInt8) (r:List UInt8) (h: ∀b r',r=b::r'->(a,b)∉Wo):Uq (a::r)=if a∈Ap8 then 1 else 0:=by
 match r with
 | []=>rfl
 | b::r'=>simp only[Uq,if_neg (h b r' rfl)]
end
def Cq (t:Tok):List DVal:= [.int .u8 t.kind,dI t.line, .str t.text,dI t.n]
theorem Ao (t:Tok):(Cq t).length=4:=rfl
theorem Cr (t:Tok):(Cq t).take 4=Cq t:=rfl
theorem Oa (t:Tok):(Cq t).drop 4= []:=rfl
theorem Jh (t:Tok):(Cq t).all (fun d=>d.one)=true:=rfl
theorem Pg (t:Tok):(Cq t)[0]? =some (.int .u8 t.kind):=rfl
theorem Vy (t:Tok):(Cq t)[1]? =some (dI t.line):=rfl
theorem Ph (t:Tok):(Cq t)[2]? =some (.str t.text):=rfl
theorem Sb (t:Tok):(Cq t)[3]? =some (dI t.n):=rfl
section
variable {G:Nat->DVal} {H:Ac}
theorem Tx (c:UInt8) (r:List UInt8):Fb (c::r)=if Gi c then(if Up (Fl (c::r)) then(⟨2,0,Fl (c::r),0⟩,(Fl (c::r)).length) else if Nv (Fl (c::r)) then(⟨1,0,Fl (c::r),0⟩,(Fl (c::r)).length) else(Ap9,0))
  else if Gu c then(match Bx1 (Fl (c::r)) with | some v=>(⟨3,0,[],v⟩,(Fl (c::r)).length) | none=>(Ap9,0)) else(⟨4,0,(c::r).take (Uq (c::r)),0⟩,Uq (c::r)):=rfl
def Bm0 (p:Tok×Nat):DVal:= .tuple [.agg (Cq p.1),dI p.2]
end
def Bl (l:List Tok):DVal:= .vslice (l.flatMap Cq) l.length
section
end
def Dt4 (a b:Tok):Bool:=decide ({ a with line:=b.line }=b)
def Zb:List Tok->List Tok->Bool
 | [],[]=>true
 | a::l,b::m=>Dt4 a b&&Zb l m
 | _,_=>false
section
variable {G:Nat->DVal} {H:Ac}
theorem Ca3: ∀(l m:List Tok),Zb l m=true->l.length=m.length
 | [],[],_=>rfl
 | [],_::_,h=>by cases h
 | _::_,[],h=>by cases h
 | a::l,b::m,h=>by
  rw[Zb,jF] at h;rw[jA,jA,Ca3 l m h.2]
theorem Dj1: ∀ {l m:List Tok} {k:Nat} (h1:k<l.length) (h2:k<m.length),Zb (l.drop k) (m.drop k)=(Dt4 l[k] m[k]&&Zb (l.drop (k+1)) (m.drop (k+1))):=fun h1 h2=>by
 rw[List.drop_eq_getElem_cons h1,List.drop_eq_getElem_cons h2,Zb]
end
theorem Mb.sub1' {H H':Ac} {v C:DVal} (h:Mb H v H' C) {pre post:List DVal} (hp:Ap7.looses pre=true) (D:Ap7.looses post=true) (w:World) (hw:Bm w H): ∀xs,Az w H (pre++v::post) xs->Az w H' (pre++C::post) xs:=by
 intro xs hx;have e:xs=xs.take pre.length++xs.drop pre.length:=(List.take_append_drop _ _).symm;have h1:=hx.take pre.length;have h2:=hx.drop pre.length;rw[List.take_left] at h1;rw[List.drop_left] at h2;rw[e];refine(Qr _ _ hp h1).append ?_;simp only[Az] at h2⊢
 obtain⟨y,ys,h3,h4,h5⟩:=h2;rw[h3];exact⟨y,ys,rfl,(h w hw).2.2 y h4,Qr _ _ D h5⟩
theorem Mb.tuple1' {H H':Ac} {v C:DVal} (h:Mb H v H' C) {pre post:List DVal} (hp:Ap7.looses pre=true) (D:Ap7.looses post=true):Mb H (.tuple (pre++v::post)) H' (.tuple (pre++C::post)):=fun w hw=>
 ⟨(h w hw).1,(h w hw).2.1,fun x hx=>by
  simp only[Rel] at hx⊢
  obtain⟨xs,rfl,hl⟩:=hx;exact⟨xs,rfl,h.sub1' hp D w hw _ hl⟩⟩
theorem Jw.dLen {H H':Ac} {e t:TypeId} {size n:Nat} {cs:List DVal} {v:DVal} (h:Jw H e size n cs v H') {dst:Option Nat} {K:DK} {s:DS}:Dl.dLen dst (some (.slice t)) v K s=Cb dst (dI n) K s:=by
 rcases h with⟨rfl,_,rfl,_⟩ | ⟨r,_,_,rfl,_,_⟩
 ·rfl
 ·rfl
section
variable {G:Nat->DVal} {H:Ac}
theorem Mw {H':Ac} (h:Sub H H') (C:List DVal) (D:Ap7.looses C=true):Mb H' (.tuple (.nilSlice::C)) H (.tuple (Bl []::C)):=
 (Mb.sub h _).trans (Mb.tuple1' (pre:= []) (Jw.nil 31 4 (Sub.refl H)).ghost rfl D)
end
section
variable {G:Nat->DVal} {H:Ac}
theorem Xy (G:Nat->DVal) (H:Ac) (b:UInt8):Ag Tryz.prog G 231 [.int .u8 b.toNat] H (Ax (.bool (Gi b)) H):=by
 refine Ab Tryz.func231 Tryz.call231 rfl (by kernel_rfl) ?_;have hd:Gi b=(decide ((65:Int)<=b.toNat)&&decide ((b.toNat:Int)<=90) || decide ((97:Int)<=b.toNat)&&decide ((b.toNat:Int)<=122)):=by
  rw[Gi,decide_eq_decide.2 (show 65<=b.toNat↔(65:Int)<=b.toNat by omega),decide_eq_decide.2 (show b.toNat<=90↔(b.toNat:Int)<=90 by omega),decide_eq_decide.2 (show 97<=b.toNat↔(97:Int)<=b.toNat by omega),decide_eq_decide.2 (show b.toNat<=122↔(b.toNat:Int)<=122 by omega)]
 rw[hd];generalize (b.toNat:Int)=n;by_cases h1:65<=n
 ·by_cases h2:n<=90
  ·simp(disch:=omega)only[go_sem,h1,h2];exact Fa.refl ⟨by simp,rfl⟩
  ·by_cases h3:97<=n
   ·simp(disch:=omega)only[go_sem,h1,h2,h3];exact Fa.refl ⟨by simp,rfl⟩
   ·simp(disch:=omega)only[go_sem,h1,h2,h3];exact Fa.refl ⟨by simp,rfl⟩
 ·have h3: ¬97<=n:=by omega
  simp(disch:=omega)only[go_sem,h1,h3];exact Fa.refl ⟨by simp,rfl⟩
theorem Ab4 (G:Nat->DVal) (H:Ac) (b:UInt8):Ag Tryz.prog G 245 [.int .u8 b.toNat] H (Ax (.bool (Gu b)) H):=by
 refine Ab Tryz.func245 Tryz.call245 rfl (by kernel_rfl) ?_;by_cases h1:48<=b.toNat
 ·have C:(48:Int)<=(b.toNat:Int):=by omega
  simp(disch:=omega)only[go_sem,C];refine Fa.refl ⟨?_,rfl⟩;rw[Gu,decide_eq_decide.2 (show(b.toNat:Int)<=57↔b.toNat<=57 by omega),decide_eq_true h1,jS]
 ·have C: ¬(48:Int)<=(b.toNat:Int):=by omega
  simp(disch:=omega)only[go_sem,C];refine Fa.refl ⟨?_,rfl⟩;rw[Gu,decide_eq_false h1];rfl
theorem Bm1 (G:Nat->DVal) (H:Ac) (b:UInt8):Ag Tryz.prog G 233 [.int .u8 b.toNat] H (Ax (.bool (Ew b)) H):=by
 refine Ab Tryz.func233 Tryz.call233 rfl (by kernel_rfl) ?_;simp(disch:=omega)only[go_sem];refine(Xy G _ b).mono ?_;rintro _ H1 ⟨rfl,rfl⟩;cases hl:Gi b with
 | true=>
  simp(disch:=omega)only[go_sem];exact Fa.refl ⟨by rw[Ew,hl];rfl,rfl⟩
 | false=>
  simp(disch:=omega)only[go_sem];refine(Ab4 G _ b).mono ?_;rintro _ H1 ⟨rfl,rfl⟩;cases hd:Gu b with
  | true=>
   simp(disch:=omega)only[go_sem];exact Fa.refl ⟨by rw[Ew,hl,hd];rfl,rfl⟩
  | false=>
   by_cases C:b=95
   ·subst C;simp(disch:=omega)only[go_sem];exact Fa.refl ⟨rfl,rfl⟩
   ·have D: ¬(b.toNat:Int)=95:=Tv (d:=95) C;simp(disch:=omega)only[go_sem,D];exact Fa.refl ⟨by rw[Ew,hl,hd,decide_eq_false C];rfl,rfl⟩
theorem Dt5 (G:Nat->DVal) (H:Ac) (l:List (List UInt8)) (s:List UInt8) (hl:l.length<=1000000):Ag Tryz.prog G 288 [Ah8 l, .str s] H (Ax (.bool (decide (s∈l))) H):=by
 refine Ab Tryz.func288 Tryz.call288 rfl (by kernel_rfl) ?_;simp(disch:=omega)only[go_sem,Ah8];obtain⟨I,J⟩: ∃I:Nat->(Nat->DVal)->Ac->Prop,∀k env heap,I k env heap↔(env 0= .vslice (l.map .str) l.length/\env 1= .str s/\env 5=dI k/\k<=l.length/\(∀x∈l.take k,x≠s)/\heap=H):=⟨_,fun _ _ _=>Iff.rfl⟩;refine Dr7.run I (fun k=>l.length-k) 0 ((J _ _ _).2 ?_) ?_
 ·simp(disch:=omega)only[go_sem];(repeat' apply And.intro)<;>(try first | rfl | assumption | omega);intro x hx;simp at hx
 ·intro k env heap hi;obtain⟨D,e1,E,hk,hn,rfl⟩:=(J _ _ _).1 hi;by_cases C:k<l.length
  ·have L:(k:Int)<(l.length:Int):=by omega
   have hg:(l.map DVal.str)[k]? =some (.str l[k]):=by rw[List.getElem?_map,List.getElem?_eq_getElem C];rfl
   by_cases hw:l[k]=s
   ·simp(disch:=omega)only[go_sem,D,e1,E,L,C,hg,hw,jD];exact Fa.refl ⟨by rw[decide_eq_true (by rw[<-hw];exact List.getElem_mem C)],rfl⟩
   ·have M:IntKind.i64.wrap ((k:Int)+1)=((k+1:Nat):Int):=by rw[IntKind.wrap_i64];omega
    simp(disch:=omega)only[go_sem,D,e1,E,L,C,hg,hw,jD];refine⟨k+1,_,Rz.refl _,(J _ _ _).2 ?_,by omega⟩;simp(disch:=omega)only[go_sem,D,e1,E,M];(repeat' apply And.intro)<;>(try first | rfl | assumption | omega);exact On (p:=fun x=>x≠s) C hn hw
  ·have:k=l.length:=by omega
   subst this;simp(disch:=omega)only[go_sem,D,e1,E];rw[List.take_length] at hn;exact Fa.refl ⟨by rw[decide_eq_false (fun h=>hn s h rfl)],rfl⟩
def Wq:List (List UInt8):= [[61,62],[46,46],[58,61],[47,61],[60,61],[62,61],[60,62],[40],[41],[44],[59],[58],[46],[39],[43],[45],[42],[47],[61],[60],[62],[124]]
theorem Ez2 (s:List UInt8):Cs7 s=decide (s∈Wq):=by
 cases h:Cs7 s with
 | true=>
  refine(decide_eq_true ?_).symm;have h2: ∀p∈Wo,[p.1,p.2]∈Wq:=by decide+kernel
  have h1: ∀a∈Ap8,[a]∈Wq:=by decide+kernel
  rcases Bz7 h with⟨a,rfl,ha⟩ | ⟨a,b,rfl,C⟩
  ·exact h1 a ha
  ·exact h2 _ C
 | false=>
  refine(decide_eq_false fun hm=> ?_).symm;have h3: ∀w∈Wq,Cs7 w=true:=by decide+kernel
  rw[h3 s hm] at h;cases h
theorem Dj2 (G:Nat->DVal) (H:Ac):Ag Tryz.prog G 289 [] H (Ax (Ah8 Bc1) H):=by
 refine Ab Tryz.func289 Tryz.call289 rfl (by kernel_rfl) ?_;simp(disch:=omega)only[go_sem];change Dc9 _ _ _ _ (some (Bc1.map .str)) _ _;simp(disch:=omega)only[go_sem];intro r hr;dsimp only at hr;simp(disch:=omega)only[go_sem];refine Fa.fzA r hr ?_;simp only[fz,if_pos,jJ];refine Fa.refl ⟨?_,rfl⟩;rfl
theorem Bm2 (G:Nat->DVal) (H:Ac):Ag Tryz.prog G 293 [] H (Ax (Ah8 Wq) H):=by
 refine Ab Tryz.func293 Tryz.call293 rfl (by kernel_rfl) ?_;simp(disch:=omega)only[go_sem];change Dc9 _ _ _ _ (some (Wq.map .str)) _ _;simp(disch:=omega)only[go_sem];intro r hr;dsimp only at hr;simp(disch:=omega)only[go_sem];refine Fa.fzA r hr ?_;simp only[fz,if_pos,jJ];refine Fa.refl ⟨?_,rfl⟩;rfl
theorem Ax3 (G:Nat->DVal) (H:Ac) (s:List UInt8):Ag Tryz.prog G 232 [.str s] H (Ax (.bool (Up s)) H):=by
 refine Ab Tryz.func232 Tryz.call232 rfl (by kernel_rfl) ?_;simp(disch:=omega)only[go_sem];refine(Dj2 G _).mono ?_;rintro _ H1 ⟨rfl,rfl⟩;simp(disch:=omega)only[go_sem];refine(Dt5 G _ Bc1 s (by decide)).mono ?_;rintro _ H1 ⟨rfl,rfl⟩;simp(disch:=omega)only[go_sem];exact Fa.refl ⟨rfl,rfl⟩
end
section
variable {G:Nat->DVal} {H:Ac}
theorem Bm3 (G:Nat->DVal) (H:Ac) (s:List UInt8):Ag Tryz.prog G 144 [.str s] H (Ax (.bool (Nv s)) H):=by
 refine Ab Tryz.func144 Tryz.call144 rfl (by kernel_rfl) ?_
 match s with
 | []=>
  simp(disch:=omega)only[go_sem,jB]
  exact Fa.refl ⟨rfl,rfl⟩
 | c::r=>
  obtain⟨s,hs⟩: ∃s,s=c::r:=⟨_,rfl⟩
  have h0:s[0]? =some c:=by rw[hs];rfl
  have U:0<s.length:=by rw[hs];simp
  have M:Nv s=(Gi c&&decide (s.length<=32)&&s.all Ew&&!Up s):=by rw[hs];rfl
  rw[<-hs,M]
  have h1: ¬(s.length:Int)<1:=by omega
  by_cases hl:s.length<=32
  ·have E: ¬(32:Int)<(s.length:Int):=by omega
   simp(disch:=omega)only[go_sem,h1,E,h0]
   refine(Xy G _ c).mono ?_
   rintro _ H1 ⟨rfl,rfl⟩
   cases hle:Gi c with
   | false=>
    simp(disch:=omega)only[go_sem]
    exact Fa.refl ⟨rfl,rfl⟩
   | true=>
    simp(disch:=omega)only[go_sem]
    refine(Ax3 G _ s).mono ?_
    rintro _ H1 ⟨rfl,rfl⟩
    cases hk:Up s with
    | true=>
     simp(disch:=omega)only[go_sem]
     exact Fa.refl ⟨by simp,rfl⟩
    | false=>
     simp(disch:=omega)only[go_sem]
     obtain⟨I,J⟩: ∃I:Nat->(Nat->DVal)->Ac->Prop,∀k env heap,I k env heap↔(env 0= .str s/\env 3=dI k/\k<=s.length/\(s.take k).all Ew=true/\heap=H1):=⟨_,fun _ _ _=>Iff.rfl⟩
     refine Dr7.run I (fun k=>s.length-k) 0 ((J _ _ _).2 ?_) ?_
     ·simp(disch:=omega)only[go_sem]
      (repeat' apply And.intro)<;>(try first | rfl | assumption | omega)
     ·intro k env heap hi
      obtain⟨C,D,V,hw,rfl⟩:=(J _ _ _).1 hi
      by_cases L:k<s.length
      ·have O:(k:Int)<(s.length:Int):=by omega
       have hg:s[k]? =some s[k]:=List.getElem?_eq_getElem L
       have S:IntKind.i64.wrap ((k:Int)+1)=((k+1:Nat):Int):=by rw[IntKind.wrap_i64];omega
       simp(disch:=omega)only[go_sem,C,D,O,hg,jD]
       refine(Bm1 G _ s[k]).mono ?_
       rintro _ H2 ⟨rfl,rfl⟩
       cases hb:Ew s[k] with
       | true=>
        simp(disch:=omega)only[go_sem,C,D]
        refine⟨k+1,_,Rz.refl _,(J _ _ _).2 ?_,by omega⟩
        simp(disch:=omega)only[go_sem,C,D,S]
        (repeat' apply And.intro)<;>(try first | rfl | assumption | omega)
        rw[List.take_add_one,hg,List.all_append,hw];simpa using hb
       | false=>
        simp(disch:=omega)only[go_sem,C,D]
        have:s.all Ew=false:=by
         rw[List.all_eq_false];exact⟨s[k],List.getElem_mem L,by rw[hb];simp⟩
        exact Fa.refl ⟨by rw[this],rfl⟩
      ·have:k=s.length:=by omega
       subst this
       simp(disch:=omega)only[go_sem,C,D]
       rw[List.take_length] at hw
       exact Fa.refl ⟨by rw[hw],rfl⟩
  ·have E:(32:Int)<(s.length:Int):=by omega
   simp(disch:=omega)only[go_sem,h1,E,h0]
   exact Fa.refl ⟨by simp,rfl⟩
end
theorem Ez3 (a b:Tok):Dt4 a b=(decide (a.kind=b.kind)&&(decide (a.text=b.text)&&decide (a.n=b.n))):=by
 rw[Dt4];cases a;cases b;simp only[Tok.mk.injEq,Bool.decide_and,decide_true,jS]
theorem Ct8 {l m:List Tok} (h:l.length≠m.length):Zb l m=false:=by
 cases e:Zb l m with
 | false=>rfl
 | true=>exact absurd (Ca3 l m e) h
section
variable {G:Nat->DVal} {H:Ac}
theorem Dj3 (G:Nat->DVal) (H:Ac) (l m:List Tok) (hl:l.length<=1000000000):Ag Tryz.prog G 82 [Bl l,Bl m] H (Ax (.bool (Zb l m)) H):=by
 refine Ab Tryz.func82 Tryz.call82 rfl (by kernel_rfl) ?_;by_cases ab:l.length=m.length
 ·have aa:(l.length:Int)=(m.length:Int):=by omega
  simp(disch:=omega)only[go_sem,Bl,aa];obtain⟨I,hI⟩: ∃I:Nat->(Nat->DVal)->Ac->Prop,∀k env heap,I k env heap↔(env 0= .vslice (l.flatMap Cq) l.length/\env 1= .vslice (m.flatMap Cq) m.length/\env 5=dI k/\k<=l.length/\Zb l m=Zb (l.drop k) (m.drop k)/\heap=H):=⟨_,fun _ _ _=>Iff.rfl⟩;refine Dr7.run I (fun k=>l.length-k) 0 ((hI _ _ _).2 ?_) ?_
  ·simp(disch:=omega)only[go_sem];(repeat' apply And.intro)<;>(try first | rfl | assumption | omega)
  ·intro k env heap hi;obtain⟨D,e1,E,hk,C,rfl⟩:=(hI _ _ _).1 hi;have hfl:=Aw Ao l;have L:=Aw Ao m;by_cases O:k<l.length
   ·have J:(k:Int)<(m.length:Int):=by omega
    have M:(k:Int)<(l.length:Int):=by omega
    have S:k<m.length:=by omega
    have U:(l.flatMap Cq)[k*4]? =some (.int .u8 l[k].kind):=Hw Ao l k O 0 (by omega);have V:(l.flatMap Cq)[k*4+2]? =some (.str l[k].text):=Hw Ao l k O 2 (by omega);have W:(l.flatMap Cq)[k*4+3]? =some (dI l[k].n):=Hw Ao l k O 3 (by omega);have X:(m.flatMap Cq)[k*4]? =some (.int .u8 m[k].kind):=Hw Ao m k S 0 (by omega);have Y:(m.flatMap Cq)[k*4+2]? =some (.str m[k].text):=Hw Ao m k S 2 (by omega);have Z:(m.flatMap Cq)[k*4+3]? =some (dI m[k].n):=Hw Ao m k S 3 (by omega);have ac:IntKind.i64.wrap ((k:Int)+1)=((k+1:Nat):Int):=by rw[IntKind.wrap_i64];omega
    have hst:=Dj1 O S;rw[hst,Ez3] at C;simp(disch:=omega)only[go_sem,D,e1,E,J,M,hfl,L,jD];refine Ak (by kernel_rfl) (.take 0 (.take 1 (.take 2 (.take 3 (.take 4 (.take 5 (.take 6 (.take 7 (.take 8 (.take 9 (.take 10 (.take 11 (.take 12 (.take 13 (.take 14 (.take 15 (.take 16 (.take 17 (.take 18 (.take 19 (.take 20 (.take 21 (.take 22 (.take 23 (.take 24 (.take 25 (.take 26 (.take 27 (.take 28 (.take 29 (.take 30 (.take 31 (.take 32 (.take 33 (.take 34 (.take 35 (.take 36 .done))))))))))))))))))))))))))))))))))))) (by kernel_rfl) ?_;by_cases h1:l[k].kind=m[k].kind
    ·by_cases h2:l[k].text=m[k].text
     ·by_cases h3:l[k].n=m[k].n
      ·rw[decide_eq_true h1,decide_eq_true h2,decide_eq_true h3,jS,jS,jS] at C;simp(disch:=omega)only[go_sem,D,e1,E,J,M,hfl,L,jD,U,V,W,X,Y,Z,h1,h2,h3];refine⟨k+1,_,Rz.refl _,(hI _ _ _).2 ?_,by omega⟩;simp(disch:=omega)only[go_sem,D,e1,E,ac];(repeat' apply And.intro)<;>(try first | rfl | assumption | omega)
      ·rw[decide_eq_false h3,Bool.and_false,Bool.and_false,jT] at C;simp(disch:=omega)only[go_sem,D,e1,E,J,M,hfl,L,jD,U,V,W,X,Y,Z,h1,h2,h3];exact Fa.refl ⟨by rw[C],rfl⟩
     ·rw[decide_eq_false h2,jT,Bool.and_false,jT] at C;simp(disch:=omega)only[go_sem,D,e1,E,J,M,hfl,L,jD,U,V,W,X,Y,Z,h1,h2];exact Fa.refl ⟨by rw[C],rfl⟩
    ·rw[decide_eq_false h1,jT,jT] at C;simp(disch:=omega)only[go_sem,D,e1,E,J,M,hfl,L,jD,U,V,W,X,Y,Z,h1];exact Fa.refl ⟨by rw[C],rfl⟩
   ·have:k=l.length:=by omega
    subst this;have J: ¬(l.length:Int)<(m.length:Int):=by omega
    simp(disch:=omega)only[go_sem,D,e1,E,J];refine Fa.refl ⟨?_,rfl⟩;rw[C,List.drop_length,ab,List.drop_length];rfl
 ·have aa: ¬(l.length:Int)=(m.length:Int):=by omega
  simp(disch:=omega)only[go_sem,Bl,aa];exact Fa.refl ⟨by rw[Ct8 ab],rfl⟩
end
end Go.Dl
-- S1
namespace Go.Dl
open Go
set_option maxRecDepth 10000
mutual
inductive Ex where
 | mk (kind oper n:Int) (s:List UInt8) (l:List Ex) (a:List As) (line ent t:Int)
inductive As where
 | mk (c:List Ch) (e:Ex)
inductive Ch where
 | mk (kind:Int) (l:List Ex)
end
def Ex.kind:Ex->Int | .mk k _ _ _ _ _ _ _ _=>k
def Ex.oper:Ex->Int | .mk _ o _ _ _ _ _ _ _=>o
def Ex.n:Ex->Int | .mk _ _ n _ _ _ _ _ _=>n
def Ex.s:Ex->List UInt8 | .mk _ _ _ s _ _ _ _ _=>s
def Ex.l:Ex->List Ex | .mk _ _ _ _ l _ _ _ _=>l
def Ex.a:Ex->List As | .mk _ _ _ _ _ a _ _ _=>a
def Ex.line:Ex->Int | .mk _ _ _ _ _ _ li _ _=>li
def Ex.ent:Ex->Int | .mk _ _ _ _ _ _ _ en _=>en
def Ex.t:Ex->Int | .mk _ _ _ _ _ _ _ _ t=>t
def As.c:As->List Ch | .mk c _=>c
def As.e:As->Ex | .mk _ e=>e
def Ch.kind:Ch->Int | .mk k _=>k
def Ch.l:Ch->List Ex | .mk _ l=>l
def ex0:Ex:= .mk 0 0 0 [] [] [] 0 0 0
instance:Inhabited Ex:=⟨ex0⟩
instance:Inhabited As:=⟨.mk [] ex0⟩
instance:Inhabited Ch:=⟨.mk 0 []⟩
mutual
def Hx:Ex->Nat
 | .mk _ _ _ _ l a _ _ _=>1+Bm4 l+Ax4 a
def Bm4:List Ex->Nat
 | []=>0
 | x::l=>Hx x+Bm4 l
def Ct9:As->Nat
 | .mk c e=>Ax5 c+Hx e
def Ax4:List As->Nat
 | []=>0
 | x::l=>Ct9 x+Ax4 l
def Dt6:Ch->Nat
 | .mk _ l=>Bm4 l
def Ax5:List Ch->Nat
 | []=>0
 | x::l=>Dt6 x+Ax5 l
end
def Fc (x:As):List Ex:=x.c.flatMap Ch.l++ [x.e]
def parts (e:Ex):List Ex:=e.l++e.a.flatMap Fc
def Py (l:List Ex):Nat:=(l.map Hx).sum
theorem Ax6: ∀l:List Ex,Bm4 l=Py l
 | []=>rfl
 | x::l=>by rw[Bm4,Ax6 l,Py,Py,jN,List.sum_cons]
theorem Vj (l m:List Ex):Py (l++m)=Py l+Py m:=by simp [Py]
theorem Bm5: ∀l:List Ch,Ax5 l=Py (l.flatMap Ch.l)
 | []=>rfl
 | .mk k x::l=>by rw[Ax5,Dt6,Bm5 l,Ax6,List.flatMap_cons,Vj];rfl
theorem Eh0 (x:As):Ct9 x=Py (Fc x):=by
 cases x;rw[Ct9,Bm5,Fc,Vj];simp [Py,As.c,As.e]
theorem Bm6: ∀l:List As,Ax4 l=Py (l.flatMap Fc)
 | []=>rfl
 | x::l=>by rw[Ax4,Eh0,Bm6 l,List.flatMap_cons,Vj]
theorem Tb (e:Ex):Hx e=1+Py (parts e):=by
 cases e;rw[Hx,Ax6,Bm6,parts,Vj,Nat.add_assoc];rfl
theorem Ez4 {l:List Ex} {x:Ex} (h:x∈l):Hx x<=Py l:=by
 induction l with
 | nil=>cases h
 | cons y l ih=>
  rw[Py,jN,List.sum_cons];rcases List.mem_cons.1 h with rfl | h
  ·omega
  ·have:=ih h;unfold Py at this;omega
theorem Bc5 {e x:Ex} (h:x∈parts e):Hx x<Hx e:=by
 rw[Tb e];have:=Ez4 h;omega
theorem Bh {e x:Ex} (h:x∈e.l):x∈parts e:=List.mem_append_left _ h
theorem Md {e x:Ex} {a:As} (ha:a∈e.a) (h:x∈Fc a):x∈parts e:=List.mem_append_right _ (List.mem_flatMap.2 ⟨a,ha,h⟩)
theorem Pj (a:As):a.e∈Fc a:=List.mem_append_right _ (by simp)
theorem Sp {a:As} {c:Ch} {x:Ex} (C:c∈a.c) (h:x∈c.l):x∈Fc a:=List.mem_append_left _ (List.mem_flatMap.2 ⟨c,C,h⟩)
theorem Ex.ind {p:Ex->Prop} (h: ∀e,(∀x∈parts e,p x)->p e) (e:Ex):p e:=by
 have key: ∀n e,Hx e<n->p e:=by
  intro n
  induction n with
  | zero=>intro e he;omega
  | succ n ih=>
   intro e he;refine h e fun x hx=>ih x ?_;have:=Bc5 hx;omega
 exact key _ e (Nat.lt_succ_self _)
def Bu (e:Ex):Bool:=decide (3<=e.kind)&&decide (e.kind<=8)
def Kk (e:Ex) (k:Nat):Bool:=decide (e.l.length=k)&&Bu (e.l.getD 0 ex0)
def Ty:List As->Bool
 | a::b::r=>(a.c.isEmpty || !b.c.isEmpty)&&Ty (b::r)
 | _=>true
def Et:List Ch->Bool
 | [c]=>decide (c.kind=1)&&(match c.l with | [x]=>decide (x.kind=3) | _=>false)
 | _=>false
def Fs (n:Nat) (c:Ch):Bool:=
 if c.kind=1 then decide (c.l.length=1) else if c.kind=2 then decide (c.l.length=2) else decide (c.kind=3)&&decide (c.l.length=0)&&decide (n<=1)
def Dr (l:List Ch):Bool:=decide (0<l.length)&&decide (l.length<=16)&&l.all (Fs l.length)
def Of (l:List As):Bool:=decide (0<l.length)&&decide (l.length<=8)&&Ty l&&l.all fun a=>a.c.isEmpty || Et a.c
def Oo (l:List Ch):Bool:=match l with | c::_=>decide (c.kind=3) | []=>false
def Hy:List As->Bool
 | []=>true
 | a::r=>(a.c.isEmpty || Dr a.c&&(!Oo a.c || r.isEmpty))&&Hy r
def Vk:List As->Bool
 | [a]=>a.c.isEmpty
 | _=>false
def Ji (l:List As):Bool:=decide (0<l.length)&&decide (l.length<=32)&&Ty l&&!Vk l&&Hy l
def zO (e:Ex):Bool:=decide (e.oper=0)
def zN (e:Ex):Bool:=decide (e.n=0)
def zS (e:Ex):Bool:=decide (e.s= [])
def zA (e:Ex):Bool:=e.a.isEmpty
def Bg (e:Ex):Bool:=
 if e.kind=1 then e.l.isEmpty&&decide (0<=e.n)&&decide (e.n<=2147483647)&&zO e&&zS e&&zA e
 else if e.kind=2 then e.l.isEmpty&&zO e&&zN e&&zS e&&zA e
 else if e.kind=3 then e.l.isEmpty&&Nv e.s&&zO e&&zN e&&zA e
 else if e.kind=4\/e.kind=6 then Kk e 1&&Nv e.s&&zO e&&zN e&&zA e
 else if e.kind=5 then Kk e 1&&zO e&&zN e&&zS e&&zA e
 else if e.kind=7 then Kk e 1&&Of e.a&&zO e&&zN e&&zS e
 else if e.kind=8 then Kk e 2&&zO e&&zN e&&zS e&&zA e
 else if e.kind=9 then e.l.isEmpty&&Ji e.a&&zO e&&zN e&&zS e
 else if e.kind=10 then decide (e.l.length=3)&&zO e&&zN e&&zS e&&zA e
 else if e.kind=11 then decide (e.l.length=1)&&decide (18<=e.oper)&&decide (e.oper<=21)&&zN e&&zS e&&zA e
 else if e.kind=12 then decide (e.l.length=2)&&decide (1<=e.oper)&&decide (e.oper<=17)&&zN e&&zS e&&zA e
 else if e.kind=13\/e.kind=14 then(decide (e.l.length=3) || decide (e.l.length=2)&&Bu (e.l.getD 1 ex0))&&zO e&&zN e&&zS e&&zA e
 else false
mutual
def Fd (d:Nat):Ex->Bool
 | .mk k o n s l a li en t=>decide (d<=32)&&Bg (.mk k o n s l a li en t)&&Bm7 (d+1) l&&Bg6 (d+1) a
def Bm7 (d:Nat):List Ex->Bool
 | []=>true
 | x::l=>Fd d x&&Bm7 d l
def Dj4 (d:Nat):As->Bool
 | .mk c e=>Bg7 d c&&Fd d e
def Bg6 (d:Nat):List As->Bool
 | []=>true
 | x::l=>Dj4 d x&&Bg6 d l
def Ez5 (d:Nat):Ch->Bool
 | .mk _ l=>Bm7 d l
def Bg7 (d:Nat):List Ch->Bool
 | []=>true
 | x::l=>Ez5 d x&&Bg7 d l
end
theorem Ak2 (d:Nat): ∀l:List Ex,Bm7 d l=l.all (Fd d)
 | []=>rfl
 | x::l=>by rw[Bm7,Ak2 d l,List.all_cons]
theorem Bc6 (d:Nat): ∀l:List Ch,Bg7 d l=(l.flatMap Ch.l).all (Fd d)
 | []=>rfl
 | .mk k x::l=>by rw[Bg7,Ez5,Bc6 d l,Ak2,List.flatMap_cons,List.all_append];rfl
theorem Dj5 (d:Nat) (x:As):Dj4 d x=(Fc x).all (Fd d):=by
 cases x;rw[Dj4,Bc6,Fc,List.all_append];simp [As.c,As.e]
theorem Bc7 (d:Nat): ∀l:List As,Bg6 d l=(l.flatMap Fc).all (Fd d)
 | []=>rfl
 | x::l=>by rw[Bg6,Dj5,Bc7 d l,List.flatMap_cons,List.all_append]
theorem Qt (d:Nat) (e:Ex):Fd d e=(decide (d<=32)&&Bg e&&(parts e).all (Fd (d+1))):=by
 cases e;rw[Fd,Ak2,Bc7,parts,List.all_append,Bool.and_assoc (decide (d<=32)&&_)];rfl
def Ci (e:Ex):Bool:=Fd 1 e&&decide (Hx e<=256)
def Kq (l:List Ch):Bool:=Dr l&&l.all fun c=>c.l.all Ci
def Aq (e:Ex):Int:=
 if e.kind=13\/e.kind=14 then 1
 else if e.kind=11 then(if e.oper=18\/e.oper=19 then 2 else if e.oper=20\/e.oper=21 then 4 else 5)
 else if e.kind=12 then(if 13<=e.oper/\e.oper<=17 then 0 else if 7<=e.oper/\e.oper<=12 then 1 else if e.oper=1\/e.oper=2 then 2 else if 3<=e.oper/\e.oper<=6 then 3 else 5)
 else 5
mutual
def Fw:Ex->Ex->Bool
 | .mk k o n s l a _ _ _,f=>decide (k=f.kind)&&decide (o=f.oper)&&decide (n=f.n)&&decide (s=f.s)&&Me l f.l&&Og a f.a
def Me:List Ex->List Ex->Bool
 | [],[]=>true
 | x::l,y::m=>Fw x y&&Me l m
 | _,_=>false
def Bc8:As->As->Bool
 | .mk c e,y=>Kx c y.c&&Fw e y.e
def Og:List As->List As->Bool
 | [],[]=>true
 | x::l,y::m=>Bc8 x y&&Og l m
 | _,_=>false
def Bc9:Ch->Ch->Bool
 | .mk k l,y=>decide (k=y.kind)&&Me l y.l
def Kx:List Ch->List Ch->Bool
 | [],[]=>true
 | x::l,y::m=>Bc9 x y&&Kx l m
 | _,_=>false
end
theorem Ez6 (e f:Ex):Fw e f=(decide (e.kind=f.kind)&&decide (e.oper=f.oper)&&decide (e.n=f.n)&&decide (e.s=f.s)&&Me e.l f.l&&Og e.a f.a):=by
 cases e;rw[Fw];rfl
inductive Res (α:Type) where
 | bot
 | fail (k:Nat)
 | ok (x:α) (k:Nat)
def Res.then {α β:Type}:Res α->(α->Nat->Res β)->Res β
 | .bot,_=> .bot
 | .fail k,_=> .fail k
 | .ok x k,f=>f x k
structure PS where
 expr:Nat->Res Ex
 rest:Ex->Nat->Res Ex
 restL:Nat->Ex->Nat->Res Ex
 relation:Ex->Nat->Res Ex
 simple:Nat->Res Ex
 addL:Ex->Nat->Res Ex
 term:Nat->Res Ex
 mulL:Ex->Nat->Res Ex
 factor:Nat->Res Ex
 primary:Nat->Res Ex
 paren:Nat->Res Ex
 assoc:Nat->Res As
 assocsL:List As->Nat->Res (List As)
 choice:Nat->Res Ch
 choicesL:List Ch->Nat->Res (List Ch)
 arg:Nat->Res As
 argsL:List As->Nat->Res (List As)
 name:Nat->Res Ex
 nameL:Int->Ex->Nat->Res Ex
def Gs2:PS:=⟨fun _=> .bot,fun _ _=> .bot,fun _ _ _=> .bot,fun _ _=> .bot,fun _=> .bot,fun _ _=> .bot,fun _=> .bot,fun _ _=> .bot,fun _=> .bot,fun _=> .bot,fun _=> .bot,fun _=> .bot,fun _ _=> .bot,fun _=> .bot,fun _ _=> .bot,fun _=> .bot,fun _ _=> .bot,fun _=> .bot,fun _ _ _=> .bot⟩
def Pk:List UInt8:= [116,104,101,110]
def Qc:List UInt8:= [101,108,115,101]
def wIf:List UInt8:= [105,102]
def wIn:List UInt8:= [105,110]
def Vz:List UInt8:= [110,111,116]
def Zo:List UInt8:= [97,108,108]
def Fm:List UInt8:= [110,117,108,108]
def Lt:List UInt8:= [111,116,104,101,114,115]
def Cu0:List UInt8:= [97,110,100]
def wOr:List UInt8:= [111,114]
def Fu7:List UInt8:= [120,111,114]
def Gs3:List UInt8:= [109,111,100]
def Gs4:List UInt8:= [114,101,109]
def Eh1:List UInt8:= [97,98,115]
def Bf:List UInt8:= [40]
def Bv:List UInt8:= [41]
def Ee:List UInt8:= [44]
def Gg:List UInt8:= [124]
def Jj:List UInt8:= [46]
def Ef:List UInt8:= [46,46]
def Hz:List UInt8:= [39]
def By:List UInt8:= [61,62]
def Dj6:List (List (List UInt8)):= [[],[[43]],[[45]],[[42]],[[47]],[Gs3],[Gs4],[[61]],[[47,61]],[[60]],[[60,61]],[[62]],[[62,61]],[Cu0],[wOr],[Fu7],[Cu0,Pk],[wOr,Qc],[[43]],[[45]],[Eh1],[Vz]]
def Ay (o:Nat):List (List UInt8):=Dj6.getD o []
section
variable (l:List Tok)
def tk (k:Nat):Tok:=l.getD k Ap9
def Ip (s:List UInt8):Int:=if Up s then 2 else 4
def isW (k:Nat):List (List UInt8)->Bool
 | []=>true
 | s::r=>decide ((tk l k).kind=Ip s)&&decide ((tk l k).text=s)&&isW (k+1) r
def opF (want k:Nat):List Nat->Nat×Nat
 | []=>(0,k)
 | o::r=>if isW l k (Ay o) then(if want≠0/\o≠want then(0,k) else(o,k+(Ay o).length)) else opF want k r
def both (o:Nat) (a b:Ex):Ex:= .mk 12 o 0 [] [a,b] [] a.line 0 0
def Nw (o:Nat) (line:Int) (x:Ex):Ex:=if o=0 then x else .mk 11 o 0 [] [x] [] line 0 0
def must {α:Type} (s:List UInt8) (k:Nat) (f:Nat->Res α):Res α:=if isW l k [s] then f (k+1) else .fail k
def Ka {α:Type} (k:Nat) (f:List UInt8->Nat->Res α):Res α:=if(tk l k).kind=1 then f (tk l k).text (k+1) else .fail k
def Bm8 (line:Int) (a:List As):Ex:=match a with
 | [x]=>if x.c= [] then x.e else .mk 9 0 0 [] [] a line 0 0
 | _=> .mk 9 0 0 [] [] a line 0 0
def Em:List Nat:= [17,16,15,14,13]
def Mf:List Nat:= [12,11,10,9,8,7]
def Fq:List Nat:= [19,18]
def Tz:List Nat:= [2,1]
def Ua:List Nat:= [6,5,4,3]
def It:List Nat:= [21,20]
def inK (x:Ex) (kind:Int) (k:Nat) (p:PS):Res Ex:=
 (p.simple k).then fun y k=>if isW l k [Ef] then(p.simple (k+1)).then fun z k=> .ok (.mk kind 0 0 [] [x,y,z] [] x.line 0 0) k
  else if Bu y then .ok (.mk kind 0 0 [] [x,y] [] x.line 0 0) k else .fail k
def Be (p:PS):PS where
 expr k:=(p.simple k).then fun x k=>p.rest x k
 rest x k:=(p.relation x k).then fun x k=>p.restL (opF l 0 k Em).1 x k
 restL o x k:=if o=0 then .ok x k else
  let q:=opF l o k Em
  if q.1=0 then .ok x k else(p.simple q.2).then fun y k=>(p.relation y k).then fun y k=>p.restL o (both o x y) k
 relation x k:=
  let q:=opF l 0 k Mf
  if q.1≠0 then(p.simple q.2).then fun y k=> .ok (both q.1 x y) k
  else if isW l k [wIn] then inK l x 13 (k+1) p
  else if isW l k [Vz,wIn] then inK l x 14 (k+2) p
  else .ok x k
 simple k:=
  let q:=opF l 0 k Fq
  (p.term q.2).then fun x k'=>p.addL (Nw q.1 (tk l k).line x) k'
 addL x k:=
  let q:=opF l 0 k Tz
  if q.1=0 then .ok x k else(p.term q.2).then fun y k=>p.addL (both q.1 x y) k
 term k:=(p.factor k).then fun x k=>p.mulL x k
 mulL x k:=
  let q:=opF l 0 k Ua
  if q.1=0 then .ok x k else(p.factor q.2).then fun y k=>p.mulL (both q.1 x y) k
 factor k:=
  let q:=opF l 0 k It
  (p.primary q.2).then fun x k'=> .ok (Nw q.1 (tk l k).line x) k'
 primary k:=
  if(tk l k).kind=3 then .ok (.mk 1 0 (tk l k).n [] [] [] (tk l k).line 0 0) (k+1)
  else if isW l k [Fm] then .ok (.mk 2 0 0 [] [] [] (tk l k).line 0 0) (k+1)
  else if isW l k [Bf] then p.paren k
  else p.name k
 paren k:=must l Bf k fun k1=>
  if isW l k1 [wIf] then(p.expr (k1+1)).then fun a k=>must l Pk k fun k=>(p.expr k).then fun b k=>must l Qc k fun k=>(p.expr k).then fun c k'=>must l Bv k' fun k'=> .ok (.mk 10 0 0 [] [a,b,c] [] (tk l (k1-1)).line 0 0) k'
  else(p.assoc k1).then fun a k=>(p.assocsL [a] k).then fun az k=>must l Bv k fun k=> .ok (Bm8 (tk l (k1-1)).line az) k
 assoc k:=(p.choice k).then fun c k=>
  if c.kind=1/\isW l k [Gg]=false/\isW l k [By]=false then .ok (.mk [] (c.l.getD 0 ex0)) k
  else if c.kind=3 then must l By k fun k=>(p.expr k).then fun e k=> .ok (.mk [c] e) k
  else(p.choicesL [c] k).then fun cs k=>must l By k fun k=>(p.expr k).then fun e k=> .ok (.mk cs e) k
 assocsL az k:=if isW l k [Ee] then(p.assoc (k+1)).then fun a k=>p.assocsL (az++ [a]) k else .ok az k
 choice k:=if isW l k [Lt] then .ok (.mk 3 []) (k+1) else
  (p.simple k).then fun x k=>if isW l k [Ef] then(p.simple (k+1)).then fun y k=> .ok (.mk 2 [x,y]) k
   else(p.rest x k).then fun x k=> .ok (.mk 1 [x]) k
 choicesL cs k:=if isW l k [Gg] then(p.choice (k+1)).then fun c k=>p.choicesL (cs++ [c]) k else .ok cs k
 arg k:=if(tk l k).kind=1/\isW l (k+1) [By]=true then(p.expr (k+2)).then fun e k'=> .ok (.mk [.mk 1 [.mk 3 0 0 (tk l k).text [] [] (tk l k).line 0 0]] e) k'
  else(p.expr k).then fun e k=> .ok (.mk [] e) k
 argsL az k:=if isW l k [Ee] then(p.arg (k+1)).then fun a k=>p.argsL (az++ [a]) k else .ok az k
 name k:=Ka l k fun s k1=>p.nameL (tk l k).line (.mk 3 0 0 s [] [] (tk l k).line 0 0) k1
 nameL line x k:=
  if isW l k [Jj,Zo] then p.nameL line (.mk 5 0 0 [] [x] [] line 0 0) (k+2)
  else if isW l k [Jj] then Ka l (k+1) fun s k=>p.nameL line (.mk 4 0 0 s [x] [] line 0 0) k
  else if isW l k [Bf] then(p.arg (k+1)).then fun a k=>(p.argsL [a] k).then fun az k=>must l Bv k fun k=>p.nameL line (.mk 7 0 0 [] [x] az line 0 0) k
  else if isW l k [Hz,Bf] then(p.paren (k+1)).then fun y k=>p.nameL line (.mk 8 0 0 [] [x,y] [] line 0 0) k
  else if isW l k [Hz] then Ka l (k+1) fun s k=>p.nameL line (.mk 6 0 0 s [x] [] line 0 0) k
  else .ok x k
def P:Nat->PS
 | 0=>Gs2
 | n+1=>Be l (P n)
end
def Res.Le {α:Type} (r r':Res α):Prop:=r= .bot\/r=r'
theorem Res.Le.refl {α:Type} (r:Res α):r.Le r:= .inr rfl
theorem Fu8 {α β:Type} {r C:Res α} {f g:α->Nat->Res β} (h:r.Le C) (k: ∀x k,(f x k).Le (g x k)):(r.then f).Le (C.then g):=by
 rcases h with rfl | rfl
 ·exact .inl rfl
 ·cases r with
  | bot=>exact .inl rfl
  | fail k=>exact .inr rfl
  | ok x n=>exact k x n
theorem Dj7 {α:Type} {c:Prop} [Decidable c] {a b C D:Res α} (h:a.Le C) (k:b.Le D):(if c then a else b).Le (if c then C else D):=by
 split
 ·exact h
 ·exact k
section
variable {l:List Tok}
theorem Fu9 {α:Type} {s:List UInt8} {k:Nat} {f g:Nat->Res α} (h: ∀k,(f k).Le (g k)):(must l s k f).Le (must l s k g):=Dj7 (h _) (.refl _)
theorem Ez7 {α:Type} {k:Nat} {f g:List UInt8->Nat->Res α} (h: ∀s k,(f s k).Le (g s k)):(Ka l k f).Le (Ka l k g):=Dj7 (h _ _) (.refl _)
structure PS.Le (p q:PS):Prop where
 expr: ∀k,(p.expr k).Le (q.expr k)
 rest: ∀x k,(p.rest x k).Le (q.rest x k)
 restL: ∀o x k,(p.restL o x k).Le (q.restL o x k)
 relation: ∀x k,(p.relation x k).Le (q.relation x k)
 simple: ∀k,(p.simple k).Le (q.simple k)
 addL: ∀x k,(p.addL x k).Le (q.addL x k)
 term: ∀k,(p.term k).Le (q.term k)
 mulL: ∀x k,(p.mulL x k).Le (q.mulL x k)
 factor: ∀k,(p.factor k).Le (q.factor k)
 primary: ∀k,(p.primary k).Le (q.primary k)
 paren: ∀k,(p.paren k).Le (q.paren k)
 assoc: ∀k,(p.assoc k).Le (q.assoc k)
 assocsL: ∀a k,(p.assocsL a k).Le (q.assocsL a k)
 choice: ∀k,(p.choice k).Le (q.choice k)
 choicesL: ∀a k,(p.choicesL a k).Le (q.choicesL a k)
 arg: ∀k,(p.arg k).Le (q.arg k)
 argsL: ∀a k,(p.argsL a k).Le (q.argsL a k)
 name: ∀k,(p.name k).Le (q.name k)
 nameL: ∀i x k,(p.nameL i x k).Le (q.nameL i x k)
theorem Ez8 (q:PS):Gs2.Le q:=by constructor<;>intros<;>exact .inl rfl
theorem Ez9 {p q:PS} (h:p.Le q):(Be l p).Le (Be l q):=by
 constructor<;>intros<;>dsimp only[Be,inK]<;>repeat' first
  | exact Res.Le.refl _
  | exact h.expr _
  | exact h.rest _ _
  | exact h.restL _ _ _
  | exact h.relation _ _
  | exact h.simple _
  | exact h.addL _ _
  | exact h.term _
  | exact h.mulL _ _
  | exact h.factor _
  | exact h.primary _
  | exact h.paren _
  | exact h.assoc _
  | exact h.assocsL _ _
  | exact h.choice _
  | exact h.choicesL _ _
  | exact h.arg _
  | exact h.argsL _ _
  | exact h.name _
  | exact h.nameL _ _ _
  | refine Fu8 ?_ fun _ _=> ?_
  | refine Fu9 fun _=> ?_
  | refine Ez7 fun _ _=> ?_
  | refine Dj7 ?_ ?_
theorem Ca4: ∀n,(P l n).Le (P l (n+1))
 | 0=>Ez8 _
 | n+1=>Ez9 (Ca4 n)
def Adv (l:List Tok) {α:Type} (lb:Nat):Res α->Prop
 | .bot=>True
 | .fail k=>k<=l.length
 | .ok _ k=>lb<=k/\k<=l.length
theorem Ce {α β:Type} {a b:Nat} {r:Res α} {f:α->Nat->Res β} (h:Adv l a r) (k: ∀x n,a<=n->n<=l.length->Adv l b (f x n)):Adv l b (r.then f):=by
 cases r with
 | bot=>trivial
 | fail n=>exact h
 | ok x n=>exact k x n h.1 h.2
theorem Ho {α:Type} {a k:Nat} {x:α} (h:a<=k) (h2:k<=l.length):Adv l a (.ok x k):=⟨h,h2⟩
theorem Eh {α:Type} {a b:Nat} {r:Res α} (h:Adv l a r) (hb:b<=a):Adv l b r:=by
 cases r with
 | bot=>trivial
 | fail n=>exact h
 | ok x n=>exact⟨Nat.le_trans hb h.1,h.2⟩
theorem Fv0 {k:Nat} (h:l.length<=k):tk l k=Ap9:=by rw[tk,List.getD,List.getElem?_eq_none h];rfl
theorem Oq {k:Nat} (h:(tk l k).kind≠0):k<l.length:=by
 rcases Nat.lt_or_ge k l.length with h2 | h2
 ·exact h2
 ·rw[Fv0 h2] at h;exact absurd rfl h
theorem Bm9 (s:List UInt8):Ip s≠0:=by unfold Ip;split<;>decide
theorem Av: ∀ {ws:List (List UInt8)} {k:Nat},isW l k ws=true->k<=l.length->k+ws.length<=l.length
 | [],k,_,hk=>hk
 | s::r,k,h,_=>by
  rw[isW,jF,jF,decide_eq_true_eq] at h;have h1:k<l.length:=Oq (by rw[h.1.1];exact Bm9 s);have:=Av h.2 h1;rw[jA];omega
theorem Eh2: ∀o,o<22->o≠0->0<(Ay o).length:=by decide+kernel
theorem Cy {want k:Nat}: ∀ {os:List Nat},(∀o∈os,o<22/\o≠0)->k<=l.length->((opF l want k os).1=0->(opF l want k os).2=k)/\((opF l want k os).1≠0->k+1<=(opF l want k os).2)/\(opF l want k os).2<=l.length/\k<=(opF l want k os).2
 | [],_,hk=>⟨fun _=>rfl,fun h=>absurd rfl h,hk,Nat.le_refl _⟩
 | o::r,h,hk=>by
  have ih:=Cy (want:=want) (os:=r) (fun x hx=>h x (by simp [hx])) hk;rw[opF];split
  ·rename_i hw
   split
   ·exact⟨fun _=>rfl,fun h=>absurd rfl h,hk,Nat.le_refl _⟩
   ·have h1:=Av hw hk;have h2:=Eh2 o (h o (by simp)).1 (h o (by simp)).2;exact⟨fun e=>absurd e (h o (by simp)).2,fun _=>by dsimp only;omega,h1,by dsimp only;omega⟩
  ·exact ih
theorem Rq {α:Type} {s:List UInt8} {k a:Nat} {f:Nat->Res α} (hk:k<=l.length) (h:k+1<=l.length->Adv l a (f (k+1))):Adv l a (must l s k f):=by
 unfold must;split
 ·rename_i hw
  exact h (Av hw hk)
 ·exact hk
theorem Ax7 {α:Type} {k a:Nat} {f:List UInt8->Nat->Res α} (hk:k<=l.length) (h:k+1<=l.length-> ∀s,Adv l a (f s (k+1))):Adv l a (Ka l k f):=by
 unfold Ka;split
 ·rename_i hw
  exact h (Oq (by rw[hw];decide)) _
 ·exact hk
structure PS.Adv (l:List Tok) (p:PS):Prop where
 expr: ∀k,k<=l.length->Dl.Adv l (k+1) (p.expr k)
 rest: ∀x k,k<=l.length->Dl.Adv l k (p.rest x k)
 restL: ∀o x k,k<=l.length->Dl.Adv l k (p.restL o x k)
 relation: ∀x k,k<=l.length->Dl.Adv l k (p.relation x k)
 simple: ∀k,k<=l.length->Dl.Adv l (k+1) (p.simple k)
 addL: ∀x k,k<=l.length->Dl.Adv l k (p.addL x k)
 term: ∀k,k<=l.length->Dl.Adv l (k+1) (p.term k)
 mulL: ∀x k,k<=l.length->Dl.Adv l k (p.mulL x k)
 factor: ∀k,k<=l.length->Dl.Adv l (k+1) (p.factor k)
 primary: ∀k,k<=l.length->Dl.Adv l (k+1) (p.primary k)
 paren: ∀k,k<=l.length->Dl.Adv l (k+1) (p.paren k)
 assoc: ∀k,k<=l.length->Dl.Adv l (k+1) (p.assoc k)
 assocsL: ∀a k,k<=l.length->Dl.Adv l k (p.assocsL a k)
 choice: ∀k,k<=l.length->Dl.Adv l (k+1) (p.choice k)
 choicesL: ∀a k,k<=l.length->Dl.Adv l k (p.choicesL a k)
 arg: ∀k,k<=l.length->Dl.Adv l (k+1) (p.arg k)
 argsL: ∀a k,k<=l.length->Dl.Adv l k (p.argsL a k)
 name: ∀k,k<=l.length->Dl.Adv l (k+1) (p.name k)
 nameL: ∀i x k,k<=l.length->Dl.Adv l k (p.nameL i x k)
theorem Gx7:(∀o∈Em,o<22/\o≠0)/\(∀o∈Mf,o<22/\o≠0)/\(∀o∈Fq,o<22/\o≠0)/\(∀o∈Tz,o<22/\o≠0)/\(∀o∈Ua,o<22/\o≠0)/\ ∀o∈It,o<22/\o≠0:=by decide
theorem Dt7 {p:PS} (h:p.Adv l) {x:Ex} {kind:Int} {k:Nat} (hk:k<=l.length):Dl.Adv l k (inK l x kind k p):=by
 refine Ce (h.simple k hk) fun y n h1 h2=> ?_;split
 ·rename_i hw
  have:=Av hw h2;refine Ce (h.simple (n+1) (by simpa using this)) fun z m h3 h4=>Ho (by omega) h4
 ·split
  ·exact Ho (by omega) h2
  ·exact h2
theorem Eh3 {p:PS} (h:p.Adv l):(Be l p).Adv l where
 expr k hk:=Ce (h.simple k hk) fun x n h1 h2=>Eh (h.rest x n h2) (by omega)
 rest x k hk:=Ce (h.relation x k hk) fun x n h1 h2=>Eh (h.restL _ x n h2) (by omega)
 restL o x k hk:=by
  dsimp only[Be]
  split
  ·exact Ho (by omega) hk
  ·obtain⟨D,q2,C,E⟩:=Cy (want:=o) Gx7.1 hk
   split
   ·exact Ho (by omega) hk
   ·rename_i hq
    have:=q2 hq
    exact Ce (h.simple _ C) fun y n h1 h2=>Ce (h.relation y n h2) fun z m h3 h4=>Eh (h.restL _ _ m h4) (by omega)
 relation x k hk:=by
  dsimp only[Be]
  obtain⟨D,q2,C,E⟩:=Cy (want:=0) Gx7.2.1 hk
  split
  ·rename_i hq
   have:=q2 hq
   exact Ce (h.simple _ C) fun y n h1 h2=>Ho (by omega) h2
  ·split
   ·rename_i hw
    have:=Av hw hk
    exact Eh (Dt7 h (by simpa using this)) (by omega)
   ·split
    ·rename_i hw
     have:=Av hw hk
     exact Eh (Dt7 h (by simpa using this)) (by omega)
    ·exact Ho (by omega) hk
 simple k hk:=by
  obtain⟨D,q2,C,E⟩:=Cy (want:=0) Gx7.2.2.1 hk
  exact Ce (h.term _ C) fun x n h1 h2=>Eh (h.addL _ n h2) (by omega)
 addL x k hk:=by
  dsimp only[Be]
  obtain⟨D,q2,C,E⟩:=Cy (want:=0) Gx7.2.2.2.1 hk
  split
  ·exact Ho (by omega) hk
  ·exact Ce (h.term _ C) fun x n h1 h2=>Eh (h.addL _ n h2) (by omega)
 term k hk:=Ce (h.factor k hk) fun x n h1 h2=>Eh (h.mulL _ n h2) (by omega)
 mulL x k hk:=by
  dsimp only[Be]
  obtain⟨D,q2,C,E⟩:=Cy (want:=0) Gx7.2.2.2.2.1 hk
  split
  ·exact Ho (by omega) hk
  ·exact Ce (h.factor _ C) fun x n h1 h2=>Eh (h.mulL _ n h2) (by omega)
 factor k hk:=by
  obtain⟨D,q2,C,E⟩:=Cy (want:=0) Gx7.2.2.2.2.2 hk
  exact Ce (h.primary _ C) fun x n h1 h2=>Ho (by omega) h2
 primary k hk:=by
  dsimp only[Be]
  split
  ·rename_i hq
   have:=Oq (l:=l) (k:=k) (by rw[hq];decide)
   exact Ho (by omega) this
  ·split
   ·rename_i hw
    have:=Av hw hk
    exact Ho (by omega) (by simpa using this)
   ·split
    ·exact h.paren k hk
    ·exact h.name k hk
 paren k hk:=by
  dsimp only[Be]
  refine Rq hk fun I=> ?_
  split
  ·rename_i hw
   have:=Av hw I
   refine Ce (h.expr _ (by simpa using this)) fun a J h1 h2=>Rq h2 fun h3=>Ce (h.expr _ h3) fun b L h4 h5=>Rq h5 fun h6=>Ce (h.expr _ h6) fun c M h7 h8=>Rq h8 fun h9=>Ho (by omega) h9
  ·exact Ce (h.assoc _ I) fun a J h1 h2=>Ce (h.assocsL _ _ h2) fun az L h3 h4=>Rq h4 fun h5=>Ho (by omega) h5
 assoc k hk:=by
  refine Ce (h.choice k hk) fun c n h1 h2=> ?_
  split
  ·exact Ho (by omega) h2
  ·split
   ·exact Rq h2 fun h3=>Ce (h.expr _ h3) fun e m h4 h5=>Ho (by omega) h5
   ·exact Ce (h.choicesL _ _ h2) fun cs m h3 h4=>Rq h4 fun h5=>Ce (h.expr _ h5) fun e m h6 h7=>Ho (by omega) h7
 assocsL az k hk:=by
  dsimp only[Be]
  split
  ·rename_i hw
   have:=Av hw hk
   exact Ce (h.assoc _ (by simpa using this)) fun a n h1 h2=>Eh (h.assocsL _ n h2) (by omega)
  ·exact Ho (by omega) hk
 choice k hk:=by
  dsimp only[Be]
  split
  ·rename_i hw
   have:=Av hw hk
   exact Ho (by omega) (by simpa using this)
  ·refine Ce (h.simple k hk) fun x n h1 h2=> ?_
   split
   ·rename_i hw
    have:=Av hw h2
    exact Ce (h.simple _ (by simpa using this)) fun y m h3 h4=>Ho (by omega) h4
   ·exact Ce (h.rest x n h2) fun y m h3 h4=>Ho (by omega) h4
 choicesL az k hk:=by
  dsimp only[Be]
  split
  ·rename_i hw
   have:=Av hw hk
   exact Ce (h.choice _ (by simpa using this)) fun a n h1 h2=>Eh (h.choicesL _ n h2) (by omega)
  ·exact Ho (by omega) hk
 arg k hk:=by
  dsimp only[Be]
  split
  ·rename_i hw
   have:=Oq (l:=l) (k:=k) (by rw[hw.1];decide)
   have:=Av hw.2 this
   exact Ce (h.expr _ (by simpa using this)) fun y m h3 h4=>Ho (by omega) h4
  ·exact Ce (h.expr k hk) fun y m h3 h4=>Ho (by omega) h4
 argsL az k hk:=by
  dsimp only[Be]
  split
  ·rename_i hw
   have:=Av hw hk
   exact Ce (h.arg _ (by simpa using this)) fun a n h1 h2=>Eh (h.argsL _ n h2) (by omega)
  ·exact Ho (by omega) hk
 name k hk:=Ax7 hk fun h1 s=>h.nameL _ _ _ h1
 nameL i x k hk:=by
  dsimp only[Be]
  split
  ·rename_i hw
   have:=Av hw hk
   exact Eh (h.nameL _ _ _ (by simpa using this)) (by omega)
  ·split
   ·rename_i hw
    have:=Av hw hk
    exact Ax7 (by simpa using this) fun h1 s=>Eh (h.nameL _ _ _ h1) (by omega)
   ·split
    ·rename_i hw
     have:=Av hw hk
     exact Ce (h.arg _ (by simpa using this)) fun a n h1 h2=>Ce (h.argsL _ _ h2) fun az m h3 h4=>Rq h4 fun h5=>Eh (h.nameL _ _ _ h5) (by omega)
    ·split
     ·rename_i hw
      have:=Av hw hk
      simp only[jA,jB] at this
      exact Ce (h.paren _ (by omega)) fun a n h1 h2=>Eh (h.nameL _ _ _ h2) (by omega)
     ·split
      ·rename_i hw
       have:=Av hw hk
       exact Ax7 (by simpa using this) fun h1 s=>Eh (h.nameL _ _ _ h1) (by omega)
      ·exact Ho (by omega) hk
theorem Kl: ∀n,(P l n).Adv l
 | 0=>by constructor<;>intros<;>trivial
 | n+1=>Eh3 (Kl n)
end
end Go.Dl
-- U1
namespace Go.Dl
open Go Go.Proofs
set_option maxRecDepth 100000
mutual
def dEx:Ex->List DVal
 | .mk k o n s l a li en t=> [.int .u8 k, .int .u8 o, .int .i64 n, .str s, .vslice (Ci1 l) l.length, .vslice (Cu1 a) a.length, .int .i64 li, .int .i64 en, .int .i64 t]
def Ci1:List Ex->List DVal
 | []=> []
 | x::l=>dEx x++Ci1 l
def dAs:As->List DVal
 | .mk c e=> .vslice (Cu2 c) c.length::dEx e
def Cu1:List As->List DVal
 | []=> []
 | x::l=>dAs x++Cu1 l
def dCh:Ch->List DVal
 | .mk k l=> [.int .u8 k, .vslice (Ci1 l) l.length]
def Cu2:List Ch->List DVal
 | []=> []
 | x::l=>dCh x++Cu2 l
end
theorem Ax8: ∀l:List Ex,Ci1 l=l.flatMap dEx
 | []=>rfl
 | x::l=>by rw[Ci1,Ax8 l,List.flatMap_cons]
theorem Ca5: ∀l:List As,Cu1 l=l.flatMap dAs
 | []=>rfl
 | x::l=>by rw[Cu1,Ca5 l,List.flatMap_cons]
theorem Ca6: ∀l:List Ch,Cu2 l=l.flatMap dCh
 | []=>rfl
 | x::l=>by rw[Cu2,Ca6 l,List.flatMap_cons]
theorem Xz (k o n:Int) (s:List UInt8) (l:List Ex) (a:List As) (li en t:Int):dEx (.mk k o n s l a li en t)= [.int .u8 k, .int .u8 o, .int .i64 n, .str s, .vslice (l.flatMap dEx) l.length, .vslice (a.flatMap dAs) a.length, .int .i64 li, .int .i64 en, .int .i64 t]:=by
 rw[dEx,Ax8,Ca5]
theorem Pm (e:Ex):dEx e= [.int .u8 e.kind, .int .u8 e.oper, .int .i64 e.n, .str e.s, .vslice (e.l.flatMap dEx) e.l.length, .vslice (e.a.flatMap dAs) e.a.length, .int .i64 e.line, .int .i64 e.ent, .int .i64 e.t]:=by
 cases e;rw[Xz];rfl
theorem Ax9 (x:As):dAs x= .vslice (x.c.flatMap dCh) x.c.length::dEx x.e:=by
 cases x;rw[dAs,Ca6];rfl
theorem Ay0 (x:Ch):dCh x= [.int .u8 x.kind, .vslice (x.l.flatMap dEx) x.l.length]:=by
 cases x;rw[dCh,Ax8];rfl
theorem Ad (e:Ex):(dEx e).length=9:=by rw[Pm];rfl
theorem Gj (e:As):(dAs e).length=10:=by rw[Ax9,jA,Ad]
theorem Gs (e:Ch):(dCh e).length=2:=by rw[Ay0];rfl
theorem Gc6 (e:Ex):(dEx e).take 9=dEx e:=List.take_of_length_le (by rw[Ad];decide)
theorem Gs5 (e:As):(dAs e).take 10=dAs e:=List.take_of_length_le (by rw[Gj];decide)
theorem Gs6 (e:Ch):(dCh e).take 2=dCh e:=List.take_of_length_le (by rw[Gs];decide)
theorem Gs7 (e:Ex):(dEx e).drop 9= []:=List.drop_of_length_le (by rw[Ad];decide)
theorem Bo (e:Ex):(dEx e).all (fun d=>d.one)=true:=by rw[Pm];rfl
theorem Fv1 (e:As):(dAs e).all (fun d=>d.one)=true:=by rw[Ax9,List.all_cons,Bo];rfl
theorem Dt8 (e:Ch):(dCh e).all (fun d=>d.one)=true:=by rw[Ay0];rfl
theorem Gc7 (e:Ex):(dEx e)[0]? =some (.int .u8 e.kind):=by rw[Pm];rfl
theorem Gs8 (e:Ex):(dEx e)[1]? =some (.int .u8 e.oper):=by rw[Pm];rfl
theorem Gs9 (e:Ex):(dEx e)[2]? =some (.int .i64 e.n):=by rw[Pm];rfl
theorem Gt0 (e:Ex):(dEx e)[3]? =some (.str e.s):=by rw[Pm];rfl
theorem Gt1 (e:Ex):(dEx e)[4]? =some (.vslice (e.l.flatMap dEx) e.l.length):=by rw[Pm];rfl
theorem Gt2 (e:Ex):(dEx e)[5]? =some (.vslice (e.a.flatMap dAs) e.a.length):=by rw[Pm];rfl
theorem Gc8 (e:As):(dAs e)[0]? =some (.vslice (e.c.flatMap dCh) e.c.length):=by rw[Ax9];rfl
theorem Cu3 (e:As):((dAs e).drop 1).take 9=dEx e.e:=by rw[Ax9];exact Gc6 _
theorem Gc9 (e:Ch):(dCh e)[0]? =some (.int .u8 e.kind):=by rw[Ay0];rfl
theorem Fa0 (e:Ch):(dCh e)[1]? =some (.vslice (e.l.flatMap dEx) e.l.length):=by rw[Ay0];rfl
def dXs (l:List Ex):DVal:= .vslice (l.flatMap dEx) l.length
def dAl (l:List As):DVal:= .vslice (l.flatMap dAs) l.length
def dCl (l:List Ch):DVal:= .vslice (l.flatMap dCh) l.length
attribute [go_sem] Ad Gj Gs Gc6 Gs5 Gs6 Gs7 Bo Fv1 Dt8 Gc7 Gs8 Gs9 Gt0 Gt1 Gt2 Gc8 Cu3 Gc9 Fa0 jH
section
variable {G:Nat->DVal} {H:Ac}
theorem Vl (G:Nat->DVal) (H:Ac) (e:Ex):Ag Tryz.prog G 85 [.agg (dEx e)] H (Ax (.bool (Bu e)) H):=by
 refine Ab Tryz.func85 Tryz.call85 rfl (by kernel_rfl) ?_;simp(disch:=omega)only[go_sem,DVal.cells];intro r hr;dsimp only at hr;by_cases h1:3<=e.kind
 ·simp(disch:=omega)only[go_sem,h1];exact Fa.dropA r hr (Fa.refl ⟨by rw[Bu,decide_eq_true h1,jS],rfl⟩)
 ·simp(disch:=omega)only[go_sem,h1];exact Fa.dropA r hr (Fa.refl ⟨by rw[Bu,decide_eq_false h1,jT],rfl⟩)
end
mutual
def Fo:Ex->Nat
 | .mk _ _ _ _ l a _ _ _=>1+Mg l+Fx a
def Mg:List Ex->Nat
 | []=>0
 | x::l=>Fo x+Mg l
def Ya:As->Nat
 | .mk c e=>Jk c+Fo e
def Fx:List As->Nat
 | []=>0
 | x::l=>Ya x+Fx l
def Aq2:Ch->Nat
 | .mk _ l=>1+Mg l
def Jk:List Ch->Nat
 | []=>0
 | x::l=>Aq2 x+Jk l
end
theorem Cu4 (e:Ex):1<=Fo e:=by cases e;rw[Fo];omega
theorem Fa1 (a:As):1<=Ya a:=by cases a;rw[Ya];have:=Cu4 (‹Ex›);omega
theorem Fa2 (c:Ch):1<=Aq2 c:=by cases c;rw[Aq2];omega
theorem Aq3 (e:Ex):Fo e=1+Mg e.l+Fx e.a:=by cases e;rw[Fo];rfl
theorem Aq4 (a:As):Ya a=Jk a.c+Fo a.e:=by cases a;rw[Ya];rfl
theorem Vm (c:Ch):Aq2 c=1+Mg c.l:=by cases c;rw[Aq2];rfl
theorem Ab5: ∀ {l:List Ex} {x:Ex},x∈l->Fo x<=Mg l
 | y::l,x,h=>by
  rw[Mg];rcases List.mem_cons.1 h with rfl | h
  ·omega
  ·have:=Ab5 h;omega
theorem Ay1: ∀ {l:List As} {x:As},x∈l->Ya x<=Fx l
 | y::l,x,h=>by
  rw[Fx];rcases List.mem_cons.1 h with rfl | h
  ·omega
  ·have:=Ay1 h;omega
theorem Tc: ∀ {l:List Ch} {x:Ch},x∈l->Aq2 x<=Jk l
 | y::l,x,h=>by
  rw[Jk];rcases List.mem_cons.1 h with rfl | h
  ·omega
  ·have:=Tc h;omega
theorem Wr: ∀l:List Ex,l.length<=Mg l
 | []=>Nat.le_refl _
 | x::l=>by rw[Mg,jA];have:=Wr l;have:=Cu4 x;omega
theorem Ay2: ∀l:List As,l.length<=Fx l
 | []=>Nat.le_refl _
 | x::l=>by rw[Fx,jA];have:=Ay2 l;have:=Fa1 x;omega
theorem Ws: ∀l:List Ch,l.length<=Jk l
 | []=>Nat.le_refl _
 | x::l=>by rw[Jk,jA];have:=Ws l;have:=Fa2 x;omega
theorem Gd0 {e:Ex}:e.l.length<=Fo e:=by have:=Wr e.l;rw[Aq3];omega
theorem Gd1 {e:Ex}:e.a.length<=Fo e:=by have:=Ay2 e.a;rw[Aq3];omega
theorem Gk9 {e x:Ex} (h:x∈e.l):Fo x<Fo e:=by have:=Ab5 h;rw[Aq3 e];omega
theorem Dj8 {e:Ex} {a:As} (h:a∈e.a):Ya a<Fo e:=by have:=Ay1 h;rw[Aq3 e];omega
theorem Fv2 (G:Nat->DVal) (H:Ac) (p:Ex->Bool) (l:List Ex) (g:FuncId) (xs D:List DVal) (hl:l.length<=1099511627776)
  (hp: ∀x∈l,Ag Tryz.prog G g (xs++ [.agg (dEx x)]++D) H (Ax (.bool (p x)) H)):
  Ag Tryz.prog G 186 [.vslice (l.flatMap dEx) l.length, .func (.func g) xs D] H (Ax (dI (Bl3 p l)) H):=by
 refine Ab Tryz.func186 Tryz.call186 rfl (by kernel_rfl) ?_;simp(disch:=omega)only[go_sem];refine Dr7.run (fun(i:Nat) env heap=>heap=H/\env 0= .vslice (l.flatMap dEx) l.length/\env 1= .func (.func g) xs D/\env 7=dI l.length/\env 8=dI i/\i<=l.length/\ ∀x∈l.take i,p x=false) (fun i=>l.length-i) 0 ?_ ?_
 ·simp(disch:=omega)only[go_sem];simp
 ·rintro i env heap ⟨rfl,h0,h1,h7,h8,hi,hn⟩;by_cases C:i<l.length
  ·have E:=Co Ad l i C;simp(disch:=omega)only[go_sem,h0,h1,h7,h8,E,Aw Ad];have hc:=hp l[i] (List.getElem_mem C)
   skip
   refine hc.mono ?_;rintro _ H ⟨rfl,rfl⟩;cases hx:p l[i] with
   | true=>
    simp(disch:=omega)only[go_sem,h0,h1,h7,h8];exact Fa.refl ⟨by rw[Ap5 C hx hn],rfl⟩
   | false=>
    simp(disch:=omega)only[go_sem,h0,h1,h7,h8];refine⟨i+1,_,Rz.refl _, ?_,by omega⟩;simp(disch:=omega)only[go_sem,h0,h1,h7,h8];(repeat' apply And.intro)<;>(try first | rfl | assumption | omega);exact On C hn hx
  ·simp(disch:=omega)only[go_sem,h0,h1,h7,h8];have:i=l.length:=by omega
   subst this;rw[List.take_length] at hn;exact Fa.refl ⟨by rw[Ap6 hn],rfl⟩
theorem Ak3 (G:Nat->DVal) (H:Ac) (p:Ex->Bool) (l:List Ex) (g:FuncId) (xs C:List DVal) (hl:l.length<=1099511627776)
  (hp: ∀x∈l,Ag Tryz.prog G g (xs++ [.agg (dEx x)]++C) H (Ax (.bool (p x)) H)):
  Ag Tryz.prog G 76 [.vslice (l.flatMap dEx) l.length, .func (.func g) xs C] H (Ax (.bool (l.any p)) H):=by
 refine Ab Tryz.func76 Tryz.call76 rfl (by kernel_rfl) ?_;simp(disch:=omega)only[go_sem];refine(Fv2 G H p l g xs C hl hp).mono ?_;rintro _ H ⟨rfl,rfl⟩;simp(disch:=omega)only[go_sem];exact Fa.refl ⟨by rw[Aa9],rfl⟩
theorem Fv3 (G:Nat->DVal) (H:Ac) (p:As->Bool) (l:List As) (g:FuncId) (xs D:List DVal) (hl:l.length<=1099511627776)
  (hp: ∀x∈l,Ag Tryz.prog G g (xs++ [.agg (dAs x)]++D) H (Ax (.bool (p x)) H)):
  Ag Tryz.prog G 298 [.vslice (l.flatMap dAs) l.length, .func (.func g) xs D] H (Ax (dI (Bl3 p l)) H):=by
 refine Ab Tryz.func298 Tryz.call298 rfl (by kernel_rfl) ?_;simp(disch:=omega)only[go_sem];refine Dr7.run (fun(i:Nat) env heap=>heap=H/\env 0= .vslice (l.flatMap dAs) l.length/\env 1= .func (.func g) xs D/\env 7=dI l.length/\env 8=dI i/\i<=l.length/\ ∀x∈l.take i,p x=false) (fun i=>l.length-i) 0 ?_ ?_
 ·simp(disch:=omega)only[go_sem];simp
 ·rintro i env heap ⟨rfl,h0,h1,h7,h8,hi,hn⟩;by_cases C:i<l.length
  ·have E:=Co Gj l i C;simp(disch:=omega)only[go_sem,h0,h1,h7,h8,E,Aw Gj];have hc:=hp l[i] (List.getElem_mem C)
   skip
   refine hc.mono ?_;rintro _ H ⟨rfl,rfl⟩;cases hx:p l[i] with
   | true=>
    simp(disch:=omega)only[go_sem,h0,h1,h7,h8];exact Fa.refl ⟨by rw[Ap5 C hx hn],rfl⟩
   | false=>
    simp(disch:=omega)only[go_sem,h0,h1,h7,h8];refine⟨i+1,_,Rz.refl _, ?_,by omega⟩;simp(disch:=omega)only[go_sem,h0,h1,h7,h8];(repeat' apply And.intro)<;>(try first | rfl | assumption | omega);exact On C hn hx
  ·simp(disch:=omega)only[go_sem,h0,h1,h7,h8];have:i=l.length:=by omega
   subst this;rw[List.take_length] at hn;exact Fa.refl ⟨by rw[Ap6 hn],rfl⟩
theorem Dj9 (G:Nat->DVal) (H:Ac) (p:As->Bool) (l:List As) (g:FuncId) (xs C:List DVal) (hl:l.length<=1099511627776)
  (hp: ∀x∈l,Ag Tryz.prog G g (xs++ [.agg (dAs x)]++C) H (Ax (.bool (p x)) H)):
  Ag Tryz.prog G 255 [.vslice (l.flatMap dAs) l.length, .func (.func g) xs C] H (Ax (.bool (l.any p)) H):=by
 refine Ab Tryz.func255 Tryz.call255 rfl (by kernel_rfl) ?_;simp(disch:=omega)only[go_sem];refine(Fv3 G H p l g xs C hl hp).mono ?_;rintro _ H ⟨rfl,rfl⟩;simp(disch:=omega)only[go_sem];exact Fa.refl ⟨by rw[Aa9],rfl⟩
theorem Fv4 (G:Nat->DVal) (H:Ac) (p:Ch->Bool) (l:List Ch) (g:FuncId) (xs D:List DVal) (hl:l.length<=1099511627776)
  (hp: ∀x∈l,Ag Tryz.prog G g (xs++ [.agg (dCh x)]++D) H (Ax (.bool (p x)) H)):
  Ag Tryz.prog G 185 [.vslice (l.flatMap dCh) l.length, .func (.func g) xs D] H (Ax (dI (Bl3 p l)) H):=by
 refine Ab Tryz.func185 Tryz.call185 rfl (by kernel_rfl) ?_;simp(disch:=omega)only[go_sem];refine Dr7.run (fun(i:Nat) env heap=>heap=H/\env 0= .vslice (l.flatMap dCh) l.length/\env 1= .func (.func g) xs D/\env 7=dI l.length/\env 8=dI i/\i<=l.length/\ ∀x∈l.take i,p x=false) (fun i=>l.length-i) 0 ?_ ?_
 ·simp(disch:=omega)only[go_sem];simp
 ·rintro i env heap ⟨rfl,h0,h1,h7,h8,hi,hn⟩;by_cases C:i<l.length
  ·have E:=Co Gs l i C;simp(disch:=omega)only[go_sem,h0,h1,h7,h8,E,Aw Gs];have hc:=hp l[i] (List.getElem_mem C)
   skip
   refine hc.mono ?_;rintro _ H ⟨rfl,rfl⟩;cases hx:p l[i] with
   | true=>
    simp(disch:=omega)only[go_sem,h0,h1,h7,h8];exact Fa.refl ⟨by rw[Ap5 C hx hn],rfl⟩
   | false=>
    simp(disch:=omega)only[go_sem,h0,h1,h7,h8];refine⟨i+1,_,Rz.refl _, ?_,by omega⟩;simp(disch:=omega)only[go_sem,h0,h1,h7,h8];(repeat' apply And.intro)<;>(try first | rfl | assumption | omega);exact On C hn hx
  ·simp(disch:=omega)only[go_sem,h0,h1,h7,h8];have:i=l.length:=by omega
   subst this;rw[List.take_length] at hn;exact Fa.refl ⟨by rw[Ap6 hn],rfl⟩
theorem Bn0 (G:Nat->DVal) (H:Ac) (p:Ch->Bool) (l:List Ch) (g:FuncId) (xs C:List DVal) (hl:l.length<=1099511627776)
  (hp: ∀x∈l,Ag Tryz.prog G g (xs++ [.agg (dCh x)]++C) H (Ax (.bool (p x)) H)):
  Ag Tryz.prog G 74 [.vslice (l.flatMap dCh) l.length, .func (.func g) xs C] H (Ax (.bool (l.any p)) H):=by
 refine Ab Tryz.func74 Tryz.call74 rfl (by kernel_rfl) ?_;simp(disch:=omega)only[go_sem];refine(Fv4 G H p l g xs C hl hp).mono ?_;rintro _ H ⟨rfl,rfl⟩;simp(disch:=omega)only[go_sem];exact Fa.refl ⟨by rw[Aa9],rfl⟩
theorem Ca7: ∀ {l:List As},Ty l=true↔ ∀i (h:i+1<l.length),(l[i].c.isEmpty || !l[i+1].c.isEmpty)=true
 | []=>⟨fun _ i h=>absurd h (by simp),fun _=>rfl⟩
 | [a]=>⟨fun _ i h=>absurd h (by simp),fun _=>rfl⟩
 | a::b::r=>by
  rw[Ty,jF,Ca7 (l:=b::r)];constructor
  ·rintro⟨h1,h2⟩ i h;cases i with
   | zero=>exact h1
   | succ i=>exact h2 i (by simpa using h)
  ·intro h;exact⟨h 0 (by simp),fun i hi=>h (i+1) (by simpa using hi)⟩
theorem Er {α:Type} (l:List α):l.isEmpty=decide (l.length=0):=by cases l<;>rfl
def Ca8 (a b:As):Int:=(if(a.c.length:Int)<1 then(a.c.length:Int) else 1)-(if(b.c.length:Int)<1 then(b.c.length:Int) else 1)
section
variable {G:Nat->DVal} {H:Ac}
theorem Bx2 (G:Nat->DVal) (H:Ac) (a b:As):Ag Tryz.prog G 297 [.agg (dAs a), .agg (dAs b)] H (Ax (dI (Ca8 a b)) H):=by
 have hw:IntKind.i64.wrap ((if(a.c.length:Int)<1 then(a.c.length:Int) else 1)-(if(b.c.length:Int)<1 then(b.c.length:Int) else 1))=Ca8 a b:=by unfold Ca8;rw[IntKind.wrap_i64];split<;>split<;>omega
 refine Ab Tryz.func297 Tryz.call297 rfl (by kernel_rfl) ?_;simp(disch:=omega)only[go_sem,DVal.cells];intro J D;dsimp only at D;simp(disch:=omega)only[go_sem,DVal.cells];intro L C;dsimp only at C;obtain⟨E,I,M⟩:=Ba.1 C;simp(disch:=omega)only[go_sem,I,E,hw];exact Fa.sub (show Sub H _ from(by repeat (first | exact Sub.refl _ | assumption | refine Sub.up ?_ (by assumption) _))) (Fa.refl ⟨rfl,rfl⟩)
theorem Bx3 (G:Nat->DVal) (H:Ac) (l:List As) (hl:l.length<=1099511627776):
  Ag Tryz.prog G 296 [.vslice (l.flatMap dAs) l.length, .func (.func 297) [] []] H (Ax (.bool (Ty l)) H):=by
 have hw:IntKind.i64.wrap ((l.length:Int)-1)=(l.length:Int)-1:=by rw[IntKind.wrap_i64];omega
 refine Ab Tryz.func296 Tryz.call296 rfl (by kernel_rfl) ?_;simp(disch:=omega)only[go_sem,hw];refine Dr7.run (fun(j:Nat) env heap=>heap=H/\env 0= .vslice (l.flatMap dAs) l.length/\env 1= .func (.func 297) [] []/\env 5=dI ((j:Int)-1)/\j<=l.length/\ ∀i (_:j<=i+1) (h:i+1<l.length),(l[i].c.isEmpty || !l[i+1].c.isEmpty)=true) (fun j=>j) l.length ?_ ?_
 ·simp(disch:=omega)only[go_sem];(repeat' apply And.intro)<;>(try first | rfl | assumption | omega)
 ·rintro j env heap ⟨rfl,h0,h1,h5,hj,hn⟩;by_cases M:1<j
  ·obtain⟨i,rfl⟩: ∃i,j=i+2:=⟨j-2,by omega⟩;have E:((i+2:Nat):Int)-1=((i+1:Nat):Int):=by omega
   have I:=Co Gj l (i+1) (by omega);have J:=Co Gj l i (by omega);rw[E] at h5;have C:IntKind.i64.wrap (((i+1:Nat):Int)-1)=(i:Int):=by rw[IntKind.wrap_i64];omega
   simp(disch:=omega)only[go_sem,h0,h1,h5];refine Ak (by kernel_rfl) (.take 0 (.take 1 (.take 2 (.take 3 (.take 4 (.take 5 (.take 6 (.take 7 (.take 8 (.take 9 (.go 10 [] (.take 11 .done)))))))))))) (by kernel_rfl) ?_;simp(disch:=omega)only[go_sem,h0,h1,h5,I,J,C,Aw Gj];refine(Bx2 G _ l[i+1] l[i]).mono ?_;rintro _ H ⟨rfl,rfl⟩;by_cases c:Ca8 l[i+1] l[i]<0
   ·simp(disch:=omega)only[go_sem,h0,h1,h5,c];refine Fa.refl ⟨?_,rfl⟩;have:Ty l=false:=by
     rw[<-Bool.not_eq_true,Ca7];intro h;have:=h i (by omega);rw[Er,Er,Bool.or_eq_true,Bool.not_eq_true',decide_eq_true_eq,decide_eq_false_iff_not] at this;unfold Ca8 at c;split at c<;>split at c<;>omega
    rw[this]
   ·simp(disch:=omega)only[go_sem,h0,h1,h5,C,c];refine⟨i+1,_,Rz.refl _, ?_,by omega⟩;simp(disch:=omega)only[go_sem,h0,h1,h5,C];(repeat' apply And.intro)<;>(try first | rfl | assumption | omega)
    ·rw[show((i+1:Nat):Int)-1=i by omega]
    intro D O L;by_cases e:D=i
    ·subst e;rw[Er,Er,Bool.or_eq_true,Bool.not_eq_true',decide_eq_true_eq,decide_eq_false_iff_not];unfold Ca8 at c;split at c<;>split at c<;>omega
    ·exact hn D (by omega) L
  ·have: ¬(0:Int)<(j:Int)-1:=by omega
   simp(disch:=omega)only[go_sem,h0,h1,h5,this];refine Fa.refl ⟨?_,rfl⟩;rw[Ca7.2 fun i h=>hn i (by omega) h]
theorem Aq5 (G:Nat->DVal) (H:Ac) (l:List As) (hl:l.length<=1099511627776):Ag Tryz.prog G 254 [.vslice (l.flatMap dAs) l.length] H (Ax (.bool (Ty l)) H):=by
 refine Ab Tryz.func254 Tryz.call254 rfl (by kernel_rfl) ?_;simp(disch:=omega)only[go_sem];refine(Bx3 G _ l hl).mono ?_;rintro _ H1 ⟨rfl,rfl⟩;simp(disch:=omega)only[go_sem];exact Fa.refl ⟨rfl,rfl⟩
theorem Bn1 (G:Nat->DVal) (H:Ac) (e:Ex) (k:Nat) (hk:0<k):Ag Tryz.prog G 179 [.agg (dEx e), .int .i64 k] H (Ax (.bool (Kk e k)) H):=by
 refine Ab Tryz.func179 Tryz.call179 rfl (by kernel_rfl) ?_;simp(disch:=omega)only[go_sem,DVal.cells];intro r hr;dsimp only at hr;by_cases h1:e.l.length=k
 ·have C:(e.l.length:Int)=(k:Int):=by omega
  have hp:0<e.l.length:=by omega
  have hg:=Co Ad e.l 0 hp;have hfl:=Aw Ad e.l;have D:e.l.getD 0 ex0=e.l[0]:=by rw[List.getD,List.getElem?_eq_getElem hp];rfl
  rw[Nat.zero_mul,jJ] at hg;simp(disch:=omega)only[go_sem,C,hfl,hg];refine(Vl G _ e.l[0]).mono ?_;rintro _ H1 ⟨rfl,rfl⟩;simp(disch:=omega)only[go_sem];exact Fa.dropA r hr (Fa.refl ⟨by rw[Kk,decide_eq_true h1,jS,D],rfl⟩)
 ·have C: ¬(e.l.length:Int)=(k:Int):=by omega
  simp(disch:=omega)only[go_sem,C];exact Fa.dropA r hr (Fa.refl ⟨by rw[Kk,decide_eq_false h1,jT],rfl⟩)
end
theorem ch0 {l:List Ch} (h:0<l.length):(l.flatMap dCh)[0]? =some (.int .u8 l[0].kind)/\(l.flatMap dCh)[1]? =some (.vslice (l[0].l.flatMap dEx) l[0].l.length):=by
 have h0:=Hw Gs l 0 h 0 (by decide);have h1:=Hw Gs l 0 h 1 (by decide);rw[Gc9] at h0;rw[Fa0] at h1;exact⟨by simpa using h0,by simpa using h1⟩
theorem Gx8 {l:List Ex} (h:0<l.length):(l.flatMap dEx)[0]? =some (.int .u8 l[0].kind):=by
 have h0:=Hw Ad l 0 h 0 (by decide);rw[Gc7] at h0;simpa using h0
section
variable {G:Nat->DVal} {H:Ac}
theorem Cu5 (G:Nat->DVal) (H:Ac) (l:List Ch):Ag Tryz.prog G 257 [.vslice (l.flatMap dCh) l.length] H (Ax (.bool (Et l)) H):=by
 have hfl:=Aw Gs l;refine Ab Tryz.func257 Tryz.call257 rfl (by kernel_rfl) ?_;by_cases h1:l.length=1
 ·have C:(l.length:Int)=1:=by omega
  obtain⟨D,E⟩:=ch0 (l:=l) (by omega);obtain⟨c,rfl⟩:=List.length_eq_one_iff.1 h1;rw[List.getElem_cons_zero] at D E;by_cases h2:c.kind=1
  ·by_cases h3:c.l.length=1
   ·have I:(c.l.length:Int)=1:=by omega
    have J:=Gx8 (l:=c.l) (by omega);have L:=Aw Ad c.l;obtain⟨x,hx⟩:=List.length_eq_one_iff.1 h3;have e:c.l[0]=x:=by simp [hx]
    rw[e] at J;have hs:Et [c]=decide (x.kind=3):=by simp [Et,h2,hx]
    simp(disch:=omega)only[go_sem,C,hfl,D,E,h2,I,J,L];exact Fa.refl ⟨by rw[hs],rfl⟩
   ·have I: ¬(c.l.length:Int)=1:=by omega
    have hs:Et [c]=false:=by
     rw[Et];split
     ·rename_i hx;rw[hx] at h3;simp at h3
     ·simp
    simp(disch:=omega)only[go_sem,C,hfl,D,E,h2,I];exact Fa.refl ⟨by rw[hs],rfl⟩
  ·simp(disch:=omega)only[go_sem,C,hfl,D,E,h2];exact Fa.refl ⟨by simp [Et,h2],rfl⟩
 ·have C: ¬(l.length:Int)=1:=by omega
  have hs:Et l=false:=by
   unfold Et;split
   ·simp at h1
   ·rfl
  simp(disch:=omega)only[go_sem,C];exact Fa.refl ⟨by rw[hs],rfl⟩
theorem Bf6 (G:Nat->DVal) (H:Ac) (a:As):Ag Tryz.prog G 256 [.agg (dAs a)] H (Ax (.bool (!(a.c.isEmpty || Et a.c))) H):=by
 refine Ab Tryz.func256 Tryz.call256 rfl (by kernel_rfl) ?_;simp(disch:=omega)only[go_sem,DVal.cells];intro r hr;dsimp only at hr;by_cases h1:0<a.c.length
 ·have C:(0:Int)<(a.c.length:Int):=by omega
  have he:a.c.isEmpty=false:=by rw[Er];exact decide_eq_false (by omega)
  simp(disch:=omega)only[go_sem,C];refine(Cu5 G _ a.c).mono ?_;rintro _ H1 ⟨rfl,rfl⟩;simp(disch:=omega)only[go_sem];exact Fa.dropA r hr (Fa.refl ⟨by rw[he,Bool.false_or],rfl⟩)
 ·have C: ¬(0:Int)<(a.c.length:Int):=by omega
  have he:a.c.isEmpty=true:=by rw[Er];exact decide_eq_true (by omega)
  simp(disch:=omega)only[go_sem,C];exact Fa.dropA r hr (Fa.refl ⟨by rw[he];rfl,rfl⟩)
theorem Yb {α:Type} (p:α->Bool) (l:List α):l.any (fun x=>!p x)=!l.all p:=by
 induction l with
 | nil=>rfl
 | cons x l ih=>rw[List.any_cons,List.all_cons,ih,Bool.not_and]
theorem Bn2 (G:Nat->DVal) (H:Ac) (l:List As) (hl:l.length<=1099511627776):Ag Tryz.prog G 180 [.vslice (l.flatMap dAs) l.length] H (Ax (.bool (Of l)) H):=by
 refine Ab Tryz.func180 Tryz.call180 rfl (by kernel_rfl) ?_;by_cases h1:0<l.length
 ·have C:(0:Int)<(l.length:Int):=by omega
  by_cases h2:l.length<=8
  ·have D:(l.length:Int)<=8:=by omega
   simp(disch:=omega)only[go_sem,C,D];refine(Aq5 G _ l hl).mono ?_;rintro _ H1 ⟨rfl,rfl⟩;cases h3:Ty l with
   | false=>
    simp(disch:=omega)only[go_sem];exact Fa.refl ⟨by rw[Of,h3,Bool.and_false,jT],rfl⟩
   | true=>
    simp(disch:=omega)only[go_sem];refine(Dj9 G _ (fun a=>!(a.c.isEmpty || Et a.c)) l 256 [] [] hl fun x _=>Bf6 G _ x).mono ?_;rintro _ H1 ⟨rfl,rfl⟩;rw[Yb];simp(disch:=omega)only[go_sem];exact Fa.refl ⟨by rw[Of,h3,decide_eq_true h1,decide_eq_true h2,jS,jS,jS,Bool.not_not],rfl⟩
  ·have D: ¬(l.length:Int)<=8:=by omega
   simp(disch:=omega)only[go_sem,C,D];exact Fa.refl ⟨by rw[Of,decide_eq_false h2,Bool.and_false,jT,jT],rfl⟩
 ·have C: ¬(0:Int)<(l.length:Int):=by omega
  simp(disch:=omega)only[go_sem,C];exact Fa.refl ⟨by rw[Of,decide_eq_false h1,jT,jT,jT],rfl⟩
def Qu:List (DVal×DVal):= [(.int .u8 1, .int .i64 1),(.int .u8 2, .int .i64 2),(.int .u8 3, .int .i64 0)]
theorem Cu6 (G:Nat->DVal) (H:Ac) (n:Nat) (l:List Ch) (c:Ch) (M O S:Nat) (h1:H M=some (.cells [.vslice (l.flatMap dCh) l.length] 41)) (hm:H O=some (.map Qu)) (h3:H S=some (.cells [.omap O] 236)):
  Ag Tryz.prog G 184 ([]++ [.agg (dCh c)]++ [.optr S 0, .optr M 0]) H (Ax (.bool (!Fs l.length c)) H):=by
 refine Ab Tryz.func184 Tryz.call184 rfl (by kernel_rfl) ?_;simp(disch:=omega)only[go_sem,DVal.cells,jG,jI];intro r hr;dsimp only at hr;have D:M≠r:=Af hr h1;have E:S≠r:=Af hr h3;have I:O≠r:=Af hr hm;by_cases k1:c.kind=1
 ·simp(disch:=omega)only[go_sem,D,E,I,h1,hm,h3,k1,Qu];refine⟨_,rfl, ?_⟩;by_cases q:c.l.length=1
  ·have C:(c.l.length:Int)=1:=by omega
   simp(disch:=omega)only[go_sem,D,E,I,h1,hm,h3,k1,Qu,C];exact Fa.dropA r hr (Fa.refl ⟨by simp [Fs,k1,q],rfl⟩)
  ·have C: ¬(1:Int)=(c.l.length:Int):=by omega
   simp(disch:=omega)only[go_sem,D,E,I,h1,hm,h3,k1,Qu,C];exact Fa.dropA r hr (Fa.refl ⟨by simp [Fs,k1,q],rfl⟩)
 by_cases J:c.kind=2
 ·simp(disch:=omega)only[go_sem,D,E,I,h1,hm,h3,J,Qu];refine⟨_,rfl, ?_⟩;by_cases q:c.l.length=2
  ·have C:(c.l.length:Int)=2:=by omega
   simp(disch:=omega)only[go_sem,D,E,I,h1,hm,h3,J,Qu,C];exact Fa.dropA r hr (Fa.refl ⟨by simp [Fs,J,q],rfl⟩)
  ·have C: ¬(2:Int)=(c.l.length:Int):=by omega
   simp(disch:=omega)only[go_sem,D,E,I,h1,hm,h3,J,Qu,C];exact Fa.dropA r hr (Fa.refl ⟨by simp [Fs,J,q],rfl⟩)
 by_cases L:c.kind=3
 ·simp(disch:=omega)only[go_sem,D,E,I,h1,hm,h3,L,Qu];refine⟨_,rfl, ?_⟩;by_cases q:c.l.length=0
  ·have C:(c.l.length:Int)=0:=by omega
   simp(disch:=omega)only[go_sem,D,E,I,h1,hm,h3,L,Qu,C];refine Fa.dropA r hr (Fa.refl ⟨?_,rfl⟩);have e:Fs l.length c=decide (l.length<=1):=by simp [Fs,L,q]
   by_cases q2:l.length<=1
   ·rw[e,decide_eq_true q2,decide_eq_false (show¬(1:Int)<(l.length:Int) by omega)];rfl
   ·rw[e,decide_eq_false q2,decide_eq_true (show(1:Int)<(l.length:Int) by omega)];rfl
  ·have C: ¬(0:Int)=(c.l.length:Int):=by omega
   simp(disch:=omega)only[go_sem,D,E,I,h1,hm,h3,L,Qu,C];exact Fa.dropA r hr (Fa.refl ⟨by simp [Fs,L,q],rfl⟩)
 ·simp(disch:=omega)only[go_sem,D,E,I,h1,hm,h3,k1,J,L,Qu];exact Fa.dropA r hr (Fa.refl ⟨by simp [Fs,k1,J,L],rfl⟩)
theorem Ak4 (G:Nat->DVal) (H:Ac) (l:List Ch) (hl:l.length<=1099511627776):Ag Tryz.prog G 73 [.vslice (l.flatMap dCh) l.length] H (Ax (.bool (Dr l)) H):=by
 refine Ab Tryz.func73 Tryz.call73 rfl (by kernel_rfl) ?_;simp(disch:=omega)only[go_sem,DVal.cells];intro O Z;dsimp only at Z;simp(disch:=omega)only[go_sem,DVal.cells];intro S U;dsimp only at U;obtain⟨C,D,ab⟩:=Ba.1 U;simp(disch:=omega)only[go_sem,DVal.cells,C,D];intro V W;dsimp only at W;obtain⟨E,I,aa⟩:=Ba.1 W;obtain⟨J,L,ac⟩:=Ba.1 aa;have X:Sub H (upd (upd (upd H O (some (.cells [.vslice (l.flatMap dCh) l.length] 41))) S (some (.map Qu))) V (some (.cells [.omap S] 236))):=((Sub.refl H).new Z _ |>.new U _).new W _;by_cases h1:0<l.length
 ·have M:(0:Int)<(l.length:Int):=by omega
  by_cases h2:l.length<=16
  ·have Y:(l.length:Int)<=16:=by omega
   simp(disch:=omega)only[go_sem,C,D,E,I,J,L,M,Y];refine(Bn0 G _ (fun c=>!Fs l.length c) l 184 [] [.optr V 0, .optr O 0] hl fun x _=>Cu6 G _ l.length l x O S V (by simp [upd,C,D,E,I,J,L]) (by simp [upd,C,D,E,I,J,L,Qu]) (by simp [upd])).mono ?_;rintro _ H1 ⟨rfl,rfl⟩;rw[Yb];simp(disch:=omega)only[go_sem,C,D,E,I,J,L];exact Fa.sub X (Fa.refl ⟨by rw[Dr,decide_eq_true h1,decide_eq_true h2,jS,jS,Bool.not_not],rfl⟩)
  ·have Y: ¬(l.length:Int)<=16:=by omega
   simp(disch:=omega)only[go_sem,C,D,E,I,J,L,M,Y];exact Fa.sub X (Fa.refl ⟨by rw[Dr,decide_eq_false h2,Bool.and_false,jT],rfl⟩)
 ·have M: ¬(0:Int)<(l.length:Int):=by omega
  simp(disch:=omega)only[go_sem,C,D,E,I,J,L,M];exact Fa.sub X (Fa.refl ⟨by rw[Dr,decide_eq_false h1,jT,jT],rfl⟩)
end
theorem Ab6 {l:List Ch} (h:0<l.length):Oo l=decide (l[0].kind=3):=by
 cases l with
 | nil=>simp at h
 | cons c l=>rfl
theorem Bn3 {l:List As} {k:Nat} (hk:k<l.length):Hy (l.drop k)=((l[k].c.isEmpty || Dr l[k].c&&(!Oo l[k].c || decide (k+1=l.length)))&&Hy (l.drop (k+1))):=by
 rw[List.drop_eq_getElem_cons hk,Hy,Er (l.drop (k+1)),List.length_drop];have:(l.length-(k+1)=0)↔k+1=l.length:=by omega
 simp only[this]
theorem Cu7 {l:List As}:Vk l=(decide (l.length=1)&&(l.getD 0 default).c.isEmpty):=
 match l with
 | []=>rfl
 | [a]=>by simp [Vk]
 | a::b::l=>by simp [Vk]
theorem as0 {l:List As} (h:0<l.length):(l.flatMap dAs)[0]? =some (.vslice (l[0].c.flatMap dCh) l[0].c.length):=by
 have h0:=Hw Gj l 0 h 0 (by decide);rw[Gc8] at h0;simpa using h0
section
variable {G:Nat->DVal} {H:Ac}
theorem Aq6 (G:Nat->DVal) (H:Ac) (l:List As) (hl:l.length<=1099511627776) (hb: ∀a∈l,a.c.length<=1099511627776):Ag Tryz.prog G 181 [.vslice (l.flatMap dAs) l.length] H (Ax (.bool (Ji l)) H):=by
 refine Ab Tryz.func181 Tryz.call181 rfl (by kernel_rfl) ?_;by_cases h1:l.length=0
 ·have ac:(l.length:Int)=0:=by omega
  simp(disch:=omega)only[go_sem,ac];exact Fa.refl ⟨by rw[Ji,decide_eq_false (show¬0<l.length by omega),jT,jT,jT,jT],rfl⟩
 have ac: ¬(l.length:Int)=0:=by omega
 have ad:0<l.length:=by omega
 by_cases h2:32<l.length
 ·have ae:(32:Int)<(l.length:Int):=by omega
  simp(disch:=omega)only[go_sem,ac,ae];exact Fa.refl ⟨by rw[Ji,decide_eq_false (show¬l.length<=32 by omega),Bool.and_false,jT,jT,jT],rfl⟩
 have ae: ¬(32:Int)<(l.length:Int):=by omega
 simp(disch:=omega)only[go_sem,ac,ae];refine(Aq5 G _ l hl).mono ?_;rintro _ H1 ⟨rfl,rfl⟩;have hd:Ji l=(Ty l&&(!(decide (l.length=1)&&(l.getD 0 default).c.isEmpty)&&Hy l)):=by
  rw[Ji,decide_eq_true ad,decide_eq_true (show l.length<=32 by omega),jS,jS,Cu7,Bool.and_assoc]
 rw[hd];cases h3:Ty l with
 | false=>
  simp(disch:=omega)only[go_sem];exact Fa.refl ⟨rfl,rfl⟩
 | true=>
  have aj:=as0 ad;have ak:l.getD 0 default=l[0]:=by rw[List.getD,List.getElem?_eq_getElem ad];rfl
  have hfl:=Aw Gj l;rw[ak];by_cases h4:l.length=1/\l[0].c.length=0
  ·have al:(l.length:Int)=1:=by omega
   have am:(l[0].c.length:Int)=0:=by omega
   have e4:l[0].c.isEmpty=true:=by rw[Er];exact decide_eq_true h4.2
   simp(disch:=omega)only[go_sem,al,am,aj,hfl];exact Fa.refl ⟨by simp [e4],rfl⟩
  ·have e4:(decide (l.length=1)&&l[0].c.isEmpty)=false:=by
    rw[Er,<-Bool.decide_and];exact decide_eq_false h4
   rw[e4];by_cases h5:l.length=1
   ·have af:((l.length:Int)=1)=True:=eq_true (by omega);have ao: ¬(l[0].c.length:Int)=0:=by omega
    simp(disch:=omega)only[go_sem,af,ao,aj,hfl];obtain⟨I,S⟩: ∃I:Nat->(Nat->DVal)->Ac->Prop,∀k env heap,I k env heap↔(env 0= .vslice (l.flatMap dAs) l.length/\env 31= .vslice (l.flatMap dAs) l.length/\env 32=dI l.length/\env 33=dI k/\k<=l.length/\Hy l=Hy (l.drop k)/\Sub H1 heap):=⟨_,fun _ _ _=>Iff.rfl⟩;refine Dr7.run I (fun k=>l.length-k) 0 ((S _ _ _).2 ?_) ?_
    ·simp(disch:=omega)only[go_sem];(repeat' apply And.intro)<;>(try first | rfl | assumption | omega);exact Sub.refl _
    ·intro k env heap hi;obtain⟨D,E,J,L,hk,C,M⟩:=(S _ _ _).1 hi;by_cases V:k<l.length
     ·have ag:(k:Int)<(l.length:Int):=by omega
      have ah:=Co Gj l k V;have W:IntKind.i64.wrap ((k:Int)+1)=((k+1:Nat):Int):=by rw[IntKind.wrap_i64];omega
      have ab:IntKind.i64.wrap ((l.length:Int)-1)=(l.length:Int)-1:=by rw[IntKind.wrap_i64];omega
      have ai:=hb l[k] (List.getElem_mem V);rw[Bn3 V] at C;simp(disch:=omega)only[go_sem,D,E,J,L,ag,ah,hfl,jD];intro r4 O;dsimp only at O;by_cases q1:0<l[k].c.length
      ·have X:(0:Int)<(l[k].c.length:Int):=by omega
       have e1:l[k].c.isEmpty=false:=by rw[Er];exact decide_eq_false (by omega)
       rw[e1,Bool.false_or] at C;simp(disch:=omega)only[go_sem,D,E,J,L,X];refine(Ak4 G _ l[k].c ai).mono ?_;rintro _ H2 ⟨rfl,rfl⟩;cases q2:Dr l[k].c with
       | false=>
        rw[q2,jT,jT] at C;simp(disch:=omega)only[go_sem,D,E,J,L];exact Fa.sub (M.new O _) (Fa.refl ⟨by rw[C],rfl⟩)
       | true=>
        obtain⟨Y,_⟩:=ch0 q1;have Z:=Aw Gs l[k].c;rw[q2,jS,Ab6 q1] at C;by_cases U:l[k].c[0].kind=3
        ·rw[decide_eq_true U,Bool.not_true,Bool.false_or] at C;by_cases q4:k+1=l.length
         ·have aa: ¬(k:Int)<(l.length:Int)-1:=by omega
          rw[decide_eq_true q4,jS] at C;simp(disch:=omega)only[go_sem,D,E,J,L,Y,Z,U,aa,ab];refine⟨k+1,_,Rz.refl _,(S _ _ _).2 ?_,by omega⟩;simp(disch:=omega)only[go_sem,D,E,J,L,W];(repeat' apply And.intro)<;>(try first | rfl | assumption | omega);all_goals exact M.new O _
         ·have aa:(k:Int)<(l.length:Int)-1:=by omega
          rw[decide_eq_false q4,jT] at C;simp(disch:=omega)only[go_sem,D,E,J,L,Y,Z,U,aa,ab];exact Fa.sub (M.new O _) (Fa.refl ⟨by rw[C],rfl⟩)
        ·rw[decide_eq_false U,Bool.not_false,Bool.true_or,jS] at C;simp(disch:=omega)only[go_sem,D,E,J,L,Y,Z,U];refine⟨k+1,_,Rz.refl _,(S _ _ _).2 ?_,by omega⟩;simp(disch:=omega)only[go_sem,D,E,J,L,W];(repeat' apply And.intro)<;>(try first | rfl | assumption | omega);all_goals exact M.new O _
      ·have X: ¬(0:Int)<(l[k].c.length:Int):=by omega
       have e1:l[k].c.isEmpty=true:=by rw[Er];exact decide_eq_true (by omega)
       rw[e1,Bool.true_or,jS] at C;simp(disch:=omega)only[go_sem,D,E,J,L,X];refine⟨k+1,_,Rz.refl _,(S _ _ _).2 ?_,by omega⟩;simp(disch:=omega)only[go_sem,D,E,J,L,W];(repeat' apply And.intro)<;>(try first | rfl | assumption | omega);all_goals exact M.new O _
     ·have:k=l.length:=by omega
      subst this;rw[List.drop_length] at C;simp(disch:=omega)only[go_sem,D,E,J,L];exact Fa.sub M (Fa.refl ⟨by rw[C];rfl,rfl⟩)
   ·have af: ¬(l.length:Int)=1:=by omega
    simp(disch:=omega)only[go_sem,af];obtain⟨I,S⟩: ∃I:Nat->(Nat->DVal)->Ac->Prop,∀k env heap,I k env heap↔(env 0= .vslice (l.flatMap dAs) l.length/\env 31= .vslice (l.flatMap dAs) l.length/\env 32=dI l.length/\env 33=dI k/\k<=l.length/\Hy l=Hy (l.drop k)/\Sub H1 heap):=⟨_,fun _ _ _=>Iff.rfl⟩;refine Dr7.run I (fun k=>l.length-k) 0 ((S _ _ _).2 ?_) ?_
    ·simp(disch:=omega)only[go_sem];(repeat' apply And.intro)<;>(try first | rfl | assumption | omega);exact Sub.refl _
    ·intro k env heap hi;obtain⟨D,E,J,L,hk,C,M⟩:=(S _ _ _).1 hi;by_cases V:k<l.length
     ·have ag:(k:Int)<(l.length:Int):=by omega
      have ah:=Co Gj l k V;have W:IntKind.i64.wrap ((k:Int)+1)=((k+1:Nat):Int):=by rw[IntKind.wrap_i64];omega
      have ab:IntKind.i64.wrap ((l.length:Int)-1)=(l.length:Int)-1:=by rw[IntKind.wrap_i64];omega
      have ai:=hb l[k] (List.getElem_mem V);rw[Bn3 V] at C;simp(disch:=omega)only[go_sem,D,E,J,L,ag,ah,hfl,jD];intro r4 O;dsimp only at O;by_cases q1:0<l[k].c.length
      ·have X:(0:Int)<(l[k].c.length:Int):=by omega
       have e1:l[k].c.isEmpty=false:=by rw[Er];exact decide_eq_false (by omega)
       rw[e1,Bool.false_or] at C;simp(disch:=omega)only[go_sem,D,E,J,L,X];refine(Ak4 G _ l[k].c ai).mono ?_;rintro _ H2 ⟨rfl,rfl⟩;cases q2:Dr l[k].c with
       | false=>
        rw[q2,jT,jT] at C;simp(disch:=omega)only[go_sem,D,E,J,L];exact Fa.sub (M.new O _) (Fa.refl ⟨by rw[C],rfl⟩)
       | true=>
        obtain⟨Y,_⟩:=ch0 q1;have Z:=Aw Gs l[k].c;rw[q2,jS,Ab6 q1] at C;by_cases U:l[k].c[0].kind=3
        ·rw[decide_eq_true U,Bool.not_true,Bool.false_or] at C;by_cases q4:k+1=l.length
         ·have aa: ¬(k:Int)<(l.length:Int)-1:=by omega
          rw[decide_eq_true q4,jS] at C;simp(disch:=omega)only[go_sem,D,E,J,L,Y,Z,U,aa,ab];refine⟨k+1,_,Rz.refl _,(S _ _ _).2 ?_,by omega⟩;simp(disch:=omega)only[go_sem,D,E,J,L,W];(repeat' apply And.intro)<;>(try first | rfl | assumption | omega);all_goals exact M.new O _
         ·have aa:(k:Int)<(l.length:Int)-1:=by omega
          rw[decide_eq_false q4,jT] at C;simp(disch:=omega)only[go_sem,D,E,J,L,Y,Z,U,aa,ab];exact Fa.sub (M.new O _) (Fa.refl ⟨by rw[C],rfl⟩)
        ·rw[decide_eq_false U,Bool.not_false,Bool.true_or,jS] at C;simp(disch:=omega)only[go_sem,D,E,J,L,Y,Z,U];refine⟨k+1,_,Rz.refl _,(S _ _ _).2 ?_,by omega⟩;simp(disch:=omega)only[go_sem,D,E,J,L,W];(repeat' apply And.intro)<;>(try first | rfl | assumption | omega);all_goals exact M.new O _
      ·have X: ¬(0:Int)<(l[k].c.length:Int):=by omega
       have e1:l[k].c.isEmpty=true:=by rw[Er];exact decide_eq_true (by omega)
       rw[e1,Bool.true_or,jS] at C;simp(disch:=omega)only[go_sem,D,E,J,L,X];refine⟨k+1,_,Rz.refl _,(S _ _ _).2 ?_,by omega⟩;simp(disch:=omega)only[go_sem,D,E,J,L,W];(repeat' apply And.intro)<;>(try first | rfl | assumption | omega);all_goals exact M.new O _
     ·have:k=l.length:=by omega
      subst this;rw[List.drop_length] at C;simp(disch:=omega)only[go_sem,D,E,J,L];exact Fa.sub M (Fa.refl ⟨by rw[C];rfl,rfl⟩)
end
def Dk0 {σ:Type} (R:Ex->σ->Bool->σ->Prop):List Ex->σ->Bool->σ->Prop
 | [],s,b,s'=>b=true/\s'=s
 | x::l,s,b,s'=> ∃b1 s1,R x s b1 s1/\((b1=true/\Dk0 R l s1 b s')\/(b1=false/\b=false/\s'=s1))
def Bd0 {σ:Type} (R:Ex->σ->Bool->σ->Prop) (all:List Ex) (s0:σ) (rest:List Ex) (s:σ):Prop:= ∀b s',Dk0 R rest s b s'->Dk0 R all s0 b s'
section
variable {σ:Type} {R:Ex->σ->Bool->σ->Prop} {all rest:List Ex} {s0 s s1:σ} {x:Ex}
theorem Bd0.next (h:Bd0 R all s0 (x::rest) s) (k:R x s true s1):Bd0 R all s0 rest s1:=fun b s' hr=>h b s' ⟨true,s1,k, .inl ⟨rfl,hr⟩⟩
theorem Bd0.no (h:Bd0 R all s0 (x::rest) s) (k:R x s false s1):Dk0 R all s0 false s1:=h false s1 ⟨false,s1,k, .inr ⟨rfl,rfl,rfl⟩⟩
theorem Bd0.fin (h:Bd0 R all s0 [] s):Dk0 R all s0 true s:=h true s ⟨rfl,rfl⟩
end
def Zp (r:Nat) (H H':Ac):Prop:= ∀b o,b≠r->H b=some o->H' b=some o
theorem Zp.refl (r:Nat) (H:Ac):Zp r H H:=fun _ _ _ h=>h
theorem Zp.trans {r:Nat} {H H' C:Ac} (h:Zp r H H') (k:Zp r H' C):Zp r H C:=fun b o hb hh=>k b o hb (h b o hb hh)
theorem Zp.new {r:Nat} {H H':Ac} (h:Zp r H H') {q:Nat} (C:H' q=none) (x:Option DObj):Zp r H (upd H' q x):=fun b o hb hh=>by
 have:=h b o hb hh;have:b≠q:=fun e=>by rw[e,C] at this;cases this
 simp only[upd,if_neg this];exact h b o hb hh
theorem Zp.set {r:Nat} {H H':Ac} (h:Zp r H H') (x:Option DObj):Zp r H (upd H' r x):=fun b o hb hh=>by
 simp only[upd,if_neg hb];exact h b o hb hh
theorem Zp.sub {r:Nat} {H H':Ac} (h:Zp r H H') {H0:Ac} (k:Sub H0 H) (hr:H0 r=none):Sub H0 H':=fun b o hb=>h b o (fun e=>by rw[e,hr] at hb;cases hb) (k b o hb)
def Wt (s:Int):DObj:= .cells [.int .i64 s] 3
section
variable {G:Nat->DVal}
def Gt3 (R:Ex->Int->Bool->Int->Prop) (all:List Ex) (s0:Int) (r:Nat) (H0:Ac) (e:DEnd) (H':Ac):Prop:=
 ∃b s',e= .ret (.bool b)/\Dk0 R all s0 b s'/\H' r=some (Wt s')/\Zp r H0 H'
def Gd2 (R:Ex->Int->Bool->Int->Prop) (x:Ex) (s:Int) (r:Nat) (H:Ac) (e:DEnd) (H':Ac):Prop:=
 ∃b s',e= .ret (.bool b)/\R x s b s'/\H' r=some (Wt s')/\Zp r H H'
set_option maxHeartbeats 4000000 in
theorem Eh4 (G:Nat->DVal) (H0:Ac) (e:Ex) (hb:Fo e<=1099511627776) (g:FuncId) (xs ys:List DVal) (R:Ex->Int->Bool->Int->Prop) (r:Nat) (s0:Int) (hr:H0 r=some (Wt s0))
  (hf: ∀x∈parts e,∀s H,H r=some (Wt s)->Zp r H0 H->Ag Tryz.prog G g (xs++ [.agg (dEx x)]++ys) H (Gd2 R x s r H)):
  Ag Tryz.prog G 70 [.agg (dEx e), .func (.func g) xs ys] H0 (Gt3 R (parts e) s0 r H0):=by
 have bm:= @Gd1 e;have bn:= @Gd0 e;have hfl:=Aw Ad e.l;have a5:=Aw Gj e.a;refine Ab Tryz.func70 Tryz.call70 rfl (by kernel_rfl) ?_;simp(disch:=omega)only[go_sem,DVal.cells];intro Z ao;dsimp only at ao;have n2:r≠Z:=Af ao hr;have a0:Z≠r:=n2.symm;simp(disch:=omega)only[go_sem];obtain⟨I,hI⟩: ∃I:Nat×Int->(Nat->DVal)->Ac->Prop,∀k env heap,I k env heap↔(env 1= .func (.func g) xs ys/\env 2= .optr Z 0/\env 14= .vslice (e.l.flatMap dEx) e.l.length/\env 15=dI e.l.length/\env 16=dI k.1/\k.1<=e.l.length/\heap r=some (Wt k.2)/\heap Z=some (.cells (dEx e) 27)/\Zp r H0 heap/\Bd0 R (parts e) s0 (e.l.drop k.1++e.a.flatMap Fc) k.2):=⟨_,fun _ _ _=>Iff.rfl⟩;refine Dr7.run I (fun k=>e.l.length-k.1) (0,s0) ((hI _ _ _).2 ?_) ?_
 ·simp(disch:=omega)only[go_sem,n2,a0];(repeat' apply And.intro)<;>(try first | rfl | assumption | omega)
  ·exact(Zp.refl r H0).new ao _
  ·exact fun b s' h=>h
 ·rintro⟨k,s⟩ env heap hi;obtain⟨e1,e2,ac,ad,aa,hk,hh,ai,ht,hc⟩:=(hI _ _ _).1 hi;dsimp only at aa hk hh hc;by_cases ap:k<e.l.length
  ·have a6:(k:Int)<(e.l.length:Int):=by omega
   have W:=Co Ad e.l k ap;have a7:IntKind.i64.wrap ((k:Int)+1)=((k+1:Nat):Int):=by rw[IntKind.wrap_i64];omega
   rw[List.drop_eq_getElem_cons ap,jI] at hc;simp(disch:=omega)only[go_sem,e1,e2,ac,ad,aa,a6,W,hfl,jD];intro r6 aj;dsimp only at aj;have n6:r≠r6:=Af aj hh;have a8:Z≠r6:=Af aj ai;have aq:=ht.new aj (some (.cells (dEx e.l[k]) 27));simp(disch:=omega)only[go_sem,e1,e2,ac,ad,aa];refine(hf e.l[k] (Bh (List.getElem_mem ap)) s _ (by simp only[upd,if_neg n6];exact hh) aq).mono ?_;rintro _ H2 ⟨b,s1,rfl,Y,ag,V⟩;have bo:H2 Z=some (.cells (dEx e) 27):=V Z _ a0 (by simp only[upd,if_neg a8];exact ai);cases b with
   | false=>
    simp(disch:=omega)only[go_sem,e1,e2,ac,ad,aa];exact Fa.refl ⟨false,s1,rfl,hc.no Y,ag,aq.trans V⟩
   | true=>
    simp(disch:=omega)only[go_sem,e1,e2,ac,ad,aa];refine⟨(k+1,s1),_,Rz.refl _,(hI _ _ _).2 ?_,by dsimp only;omega⟩;simp(disch:=omega)only[go_sem,e1,e2,ac,ad,aa,a7];(repeat' apply And.intro)<;>(try first | rfl | assumption | omega)
    ·exact aq.trans V
    ·exact hc.next Y
  ·have:k=e.l.length:=by omega
   subst this;rw[List.drop_length,jG] at hc;simp(disch:=omega)only[go_sem,e1,e2,ac,ad,aa,ai];obtain⟨J,hJ⟩: ∃J:Nat×Int->(Nat->DVal)->Ac->Prop,∀k env heap,J k env heap↔(env 1= .func (.func g) xs ys/\env 26= .vslice (e.a.flatMap dAs) e.a.length/\env 27=dI e.a.length/\env 28=dI k.1/\k.1<=e.a.length/\heap r=some (Wt k.2)/\Zp r H0 heap/\Bd0 R (parts e) s0 ((e.a.drop k.1).flatMap Fc) k.2):=⟨_,fun _ _ _=>Iff.rfl⟩;refine Dr7.run J (fun k=>e.a.length-k.1) (0,s) ((hJ _ _ _).2 ?_) ?_
   ·simp(disch:=omega)only[go_sem,e1,e2,ai];(repeat' apply And.intro)<;>(try first | rfl | assumption | omega)
   ·rintro⟨j,s⟩ env heap hi;obtain⟨e1,D,E,C,hj,hh,ht,hc⟩:=(hJ _ _ _).1 hi;dsimp only at C hj hh hc;by_cases ar:j<e.a.length
    ·have a9:(j:Int)<(e.a.length:Int):=by omega
     have W:=Co Gj e.a j ar;have ba:IntKind.i64.wrap ((j:Int)+1)=((j+1:Nat):Int):=by rw[IntKind.wrap_i64];omega
     have ak:=List.getElem_mem ar;have a1:=Dj8 ak;obtain⟨a,ha⟩: ∃a,a=e.a[j]:=⟨_,rfl⟩;rw[List.drop_eq_getElem_cons ar,List.flatMap_cons,Fc,jO,<-ha] at hc;rw[<-ha] at W ak a1;have bp:=Ws a.c;have bb:=Aw Gs a.c;rw[Aq4] at a1;simp(disch:=omega)only[go_sem,e1,D,E,C,a9,W,a5,jD];intro X au;dsimp only at au;have n8:r≠X:=Af au hh;have bq:=ht.new au (some (.cells (dAs a) 44));simp(disch:=omega)only[go_sem,e1,D,E,C];obtain⟨K,hK⟩: ∃K:Nat×Int->(Nat->DVal)->Ac->Prop,∀k env heap,K k env heap↔(env 1= .func (.func g) xs ys/\env 8= .optr X 0/\env 26= .vslice (e.a.flatMap dAs) e.a.length/\env 27=dI e.a.length/\env 28=dI j/\env 33= .vslice (a.c.flatMap dCh) a.c.length/\env 34=dI a.c.length/\env 35=dI k.1/\k.1<=a.c.length/\heap r=some (Wt k.2)/\heap X=some (.cells (dAs a) 44)/\Zp r H0 heap/\Bd0 R (parts e) s0 ((a.c.drop k.1).flatMap Ch.l++([a.e]++(e.a.drop (j+1)).flatMap Fc)) k.2):=⟨_,fun _ _ _=>Iff.rfl⟩;refine Dr7.run K (fun k=>a.c.length-k.1) (0,s) ((hK _ _ _).2 ?_) ?_
     ·simp(disch:=omega)only[go_sem,e1,D,E,C,n8];(repeat' apply And.intro)<;>(try first | rfl | assumption | omega)
     ·rintro⟨m,s⟩ env heap hi;obtain⟨e1,O,D,E,C,S,U,L,hm,hh,ah,ht,hc⟩:=(hK _ _ _).1 hi;dsimp only at L hm hh hc;by_cases av:m<a.c.length
      ·have bc:(m:Int)<(a.c.length:Int):=by omega
       have W:=Co Gs a.c m av;have bd:IntKind.i64.wrap ((m:Int)+1)=((m+1:Nat):Int):=by rw[IntKind.wrap_i64];omega
       have aw:=List.getElem_mem av;have a2:=Tc aw;obtain⟨c,hcc⟩: ∃c,c=a.c[m]:=⟨_,rfl⟩;rw[List.drop_eq_getElem_cons av,List.flatMap_cons,jO,<-hcc] at hc;rw[<-hcc] at W aw a2;have br:=Wr c.l;have be:=Aw Ad c.l;rw[Vm] at a2;simp(disch:=omega)only[go_sem,e1,O,D,E,C,S,U,L,bc,W,bb,jD];intro a3 al;dsimp only at al;have bf:r≠a3:=Af al hh;have bg:X≠a3:=Af al ah;have bs:=ht.new al (some (.cells (dCh c) 47));simp(disch:=omega)only[go_sem,e1,O,D,E,C,S,U,L];obtain⟨M,hM⟩: ∃M:Nat×Int->(Nat->DVal)->Ac->Prop,∀k env heap,M k env heap↔(env 1= .func (.func g) xs ys/\env 8= .optr X 0/\env 26= .vslice (e.a.flatMap dAs) e.a.length/\env 27=dI e.a.length/\env 28=dI j/\env 33= .vslice (a.c.flatMap dCh) a.c.length/\env 34=dI a.c.length/\env 35=dI m/\env 40= .vslice (c.l.flatMap dEx) c.l.length/\env 41=dI c.l.length/\env 42=dI k.1/\k.1<=c.l.length/\heap r=some (Wt k.2)/\heap X=some (.cells (dAs a) 44)/\Zp r H0 heap/\Bd0 R (parts e) s0 (c.l.drop k.1++((a.c.drop (m+1)).flatMap Ch.l++([a.e]++(e.a.drop (j+1)).flatMap Fc))) k.2):=⟨_,fun _ _ _=>Iff.rfl⟩;refine Dr7.run M (fun k=>c.l.length-k.1) (0,s) ((hM _ _ _).2 ?_) ?_
       ·simp(disch:=omega)only[go_sem,e1,O,D,E,C,S,U,L,bf,bg];(repeat' apply And.intro)<;>(try first | rfl | assumption | omega)
       ·rintro⟨q,s⟩ env heap hi;obtain⟨e1,O,D,E,C,S,U,L,ae,af,ab,hq,hh,ah,ht,hc⟩:=(hM _ _ _).1 hi;dsimp only at ab hq hh hc;by_cases ax:q<c.l.length
        ·have bh:(q:Int)<(c.l.length:Int):=by omega
         have W:=Co Ad c.l q ax;have bi:IntKind.i64.wrap ((q:Int)+1)=((q+1:Nat):Int):=by rw[IntKind.wrap_i64];omega
         rw[List.drop_eq_getElem_cons ax,jI] at hc;simp(disch:=omega)only[go_sem,e1,O,D,E,C,S,U,L,ae,af,ab,bh,W,be,jD];intro a4 am;dsimp only at am;have bj:r≠a4:=Af am hh;have bk:X≠a4:=Af am ah;have ay:=ht.new am (some (.cells (dEx c.l[q]) 27));simp(disch:=omega)only[go_sem,e1,O,D,E,C,S,U,L,ae,af,ab];refine(hf c.l[q] (Md ak (Sp aw (List.getElem_mem ax))) s _ (by simp only[upd,if_neg bj];exact hh) ay).mono ?_;rintro _ H2 ⟨b,s1,rfl,Y,ag,V⟩;have bt:H2 X=some (.cells (dAs a) 44):=V X _ n8.symm (by simp only[upd,if_neg bk];exact ah);cases b with
         | false=>
          simp(disch:=omega)only[go_sem,e1,O,D,E,C,S,U,L,ae,af,ab];exact Fa.refl ⟨false,s1,rfl,hc.no Y,ag,ay.trans V⟩
         | true=>
          simp(disch:=omega)only[go_sem,e1,O,D,E,C,S,U,L,ae,af,ab];refine⟨(q+1,s1),_,Rz.refl _,(hM _ _ _).2 ?_,by dsimp only;omega⟩;simp(disch:=omega)only[go_sem,e1,O,D,E,C,S,U,L,ae,af,ab,bi];(repeat' apply And.intro)<;>(try first | rfl | assumption | omega)
          ·exact ay.trans V
          ·exact hc.next Y
        ·have:q=c.l.length:=by omega
         subst this;rw[List.drop_length,jG] at hc;simp(disch:=omega)only[go_sem,e1,O,D,E,C,S,U,L,ae,af,ab];refine⟨(m+1,s),_,Rz.refl _,(hK _ _ _).2 ?_,by dsimp only;omega⟩;simp(disch:=omega)only[go_sem,e1,O,D,E,C,S,U,L,bd];(repeat' apply And.intro)<;>(try first | rfl | assumption | omega)
      ·have:m=a.c.length:=by omega
       subst this;rw[List.drop_length,List.flatMap_nil,jG,jI,jG] at hc;have bl:=Cu3 a;simp(disch:=omega)only[go_sem,e1,O,D,E,C,S,U,L,ah,bl];refine(hf a.e (Md ak (Pj a)) s _ hh ht).mono ?_;rintro _ H2 ⟨b,s1,rfl,Y,ag,V⟩;cases b with
       | false=>
        simp(disch:=omega)only[go_sem,e1,O,D,E,C,S,U,L];exact Fa.refl ⟨false,s1,rfl,hc.no Y,ag,ht.trans V⟩
       | true=>
        simp(disch:=omega)only[go_sem,e1,O,D,E,C,S,U,L];refine⟨(j+1,s1),_,Rz.refl _,(hJ _ _ _).2 ?_,by dsimp only;omega⟩;simp(disch:=omega)only[go_sem,e1,O,D,E,C,S,U,L,ba];(repeat' apply And.intro)<;>(try first | rfl | assumption | omega)
        ·exact ht.trans V
        ·exact hc.next Y
    ·have:j=e.a.length:=by omega
     subst this;rw[List.drop_length,List.flatMap_nil] at hc;simp(disch:=omega)only[go_sem,e1,D,E,C];exact Fa.refl ⟨true,s,rfl,hc.fin,hh,ht⟩
end
theorem Gt4 (n:Nat):((n:Int)=0)=(n=0):=by rw[eq_iff_iff];omega
theorem Gx9 (n:Nat):((n:Int)=1)=(n=1):=by rw[eq_iff_iff];omega
theorem Gy0 (n:Nat):((n:Int)=2)=(n=2):=by rw[eq_iff_iff];omega
theorem Gy1 (n:Nat):((n:Int)=3)=(n=3):=by rw[eq_iff_iff];omega
section
variable {G:Nat->DVal} {H:Ac}
set_option maxHeartbeats 4000000 in
theorem Cu8 (hG:GX G) (H:Ac) (e:Ex) (hb:Fo e<=1099511627776) (hs:e.s.length<=9223372036854775807):Ag Tryz.prog G 69 [.agg (dEx e)] H (Ax (.bool (Bg e)) H):=by
 have V:= @Gd1 e;have W:= @Gd0 e;have hfl:=Aw Ad e.l;have D: ∀a∈e.a,a.c.length<=1099511627776:=fun a ha=>by
  have h1:=Dj8 ha;have h2:=Ws a.c;rw[Aq4] at h1;omega
 have s1:Cn (dEx e) 0 [DVal.int .u8 0]= [DVal.int .u8 0,DVal.int .u8 e.oper,DVal.int .i64 e.n,DVal.str e.s,DVal.vslice (e.l.flatMap dEx) e.l.length,DVal.vslice (e.a.flatMap dAs) e.a.length,DVal.int .i64 e.line,DVal.int .i64 e.ent,DVal.int .i64 e.t]:=by rw[Pm];rfl
 have s2:Cn [DVal.int .u8 0,DVal.int .u8 e.oper,DVal.int .i64 e.n,DVal.str e.s,DVal.vslice (e.l.flatMap dEx) e.l.length,DVal.vslice (e.a.flatMap dAs) e.a.length,DVal.int .i64 e.line,DVal.int .i64 e.ent,DVal.int .i64 e.t] 6 [DVal.int .i64 0]= [DVal.int .u8 0,DVal.int .u8 e.oper,DVal.int .i64 e.n,DVal.str e.s,DVal.vslice (e.l.flatMap dEx) e.l.length,DVal.vslice (e.a.flatMap dAs) e.a.length,DVal.int .i64 0,DVal.int .i64 e.ent,DVal.int .i64 e.t]:=rfl;have E:Cn [DVal.int .u8 0,DVal.int .u8 e.oper,DVal.int .i64 e.n,DVal.str e.s,DVal.vslice (e.l.flatMap dEx) e.l.length,DVal.vslice (e.a.flatMap dAs) e.a.length,DVal.int .i64 0,DVal.int .i64 e.ent,DVal.int .i64 e.t] 7 [DVal.int .i64 0]= [DVal.int .u8 0,DVal.int .u8 e.oper,DVal.int .i64 e.n,DVal.str e.s,DVal.vslice (e.l.flatMap dEx) e.l.length,DVal.vslice (e.a.flatMap dAs) e.a.length,DVal.int .i64 0,DVal.int .i64 0,DVal.int .i64 e.t]:=rfl;have I:Cn [DVal.int .u8 0,DVal.int .u8 e.oper,DVal.int .i64 e.n,DVal.str e.s,DVal.vslice (e.l.flatMap dEx) e.l.length,DVal.vslice (e.a.flatMap dAs) e.a.length,DVal.int .i64 0,DVal.int .i64 0,DVal.int .i64 e.t] 8 [DVal.int .i64 0]= [DVal.int .u8 0,DVal.int .u8 e.oper,DVal.int .i64 e.n,DVal.str e.s,DVal.vslice (e.l.flatMap dEx) e.l.length,DVal.vslice (e.a.flatMap dAs) e.a.length,DVal.int .i64 0,DVal.int .i64 0,DVal.int .i64 0]:=rfl;have J:Cn [DVal.int .u8 0,DVal.int .u8 e.oper,DVal.int .i64 e.n,DVal.str e.s,DVal.vslice (e.l.flatMap dEx) e.l.length,DVal.vslice (e.a.flatMap dAs) e.a.length,DVal.int .i64 0,DVal.int .i64 0,DVal.int .i64 0] 4 [DVal.nilSlice]= [DVal.int .u8 0,DVal.int .u8 e.oper,DVal.int .i64 e.n,DVal.str e.s,DVal.nilSlice,DVal.vslice (e.a.flatMap dAs) e.a.length,DVal.int .i64 0,DVal.int .i64 0,DVal.int .i64 0]:=rfl;have L:Cn [DVal.int .u8 0,DVal.int .u8 e.oper,DVal.int .i64 e.n,DVal.str e.s,DVal.nilSlice,DVal.vslice (e.a.flatMap dAs) e.a.length,DVal.int .i64 0,DVal.int .i64 0,DVal.int .i64 0] 1 [DVal.int .u8 0]= [DVal.int .u8 0,DVal.int .u8 0,DVal.int .i64 e.n,DVal.str e.s,DVal.nilSlice,DVal.vslice (e.a.flatMap dAs) e.a.length,DVal.int .i64 0,DVal.int .i64 0,DVal.int .i64 0]:=rfl;have M:Cn [DVal.int .u8 0,DVal.int .u8 e.oper,DVal.int .i64 e.n,DVal.str e.s,DVal.nilSlice,DVal.vslice (e.a.flatMap dAs) e.a.length,DVal.int .i64 0,DVal.int .i64 0,DVal.int .i64 0] 2 [DVal.int .i64 0]= [DVal.int .u8 0,DVal.int .u8 e.oper,DVal.int .i64 0,DVal.str e.s,DVal.nilSlice,DVal.vslice (e.a.flatMap dAs) e.a.length,DVal.int .i64 0,DVal.int .i64 0,DVal.int .i64 0]:=rfl;have O:Cn [DVal.int .u8 0,DVal.int .u8 e.oper,DVal.int .i64 e.n,DVal.str e.s,DVal.nilSlice,DVal.vslice (e.a.flatMap dAs) e.a.length,DVal.int .i64 0,DVal.int .i64 0,DVal.int .i64 0] 3 [DVal.str []]= [DVal.int .u8 0,DVal.int .u8 e.oper,DVal.int .i64 e.n,DVal.str [],DVal.nilSlice,DVal.vslice (e.a.flatMap dAs) e.a.length,DVal.int .i64 0,DVal.int .i64 0,DVal.int .i64 0]:=rfl;have S:Cn [DVal.int .u8 0,DVal.int .u8 e.oper,DVal.int .i64 e.n,DVal.str e.s,DVal.nilSlice,DVal.vslice (e.a.flatMap dAs) e.a.length,DVal.int .i64 0,DVal.int .i64 0,DVal.int .i64 0] 5 [DVal.nilSlice]= [DVal.int .u8 0,DVal.int .u8 e.oper,DVal.int .i64 e.n,DVal.str e.s,DVal.nilSlice,DVal.nilSlice,DVal.int .i64 0,DVal.int .i64 0,DVal.int .i64 0]:=rfl;refine Ab Tryz.func69 Tryz.call69 rfl (by kernel_rfl) ?_;simp(disch:=omega)only[go_sem,DVal.cells];intro r1 U;dsimp only at U;simp(disch:=omega)only[go_sem,DVal.cells];intro r3 C;dsimp only at C;obtain⟨X,Y,Z⟩:=Ba.1 C;obtain⟨x,aa,hg⟩: ∃x,e.l.getD 1 ex0=x/\(1<e.l.length->((e.l.flatMap dEx).drop 9).take 9=dEx x):=⟨_,rfl,fun h=>by rw[List.getD,List.getElem?_eq_getElem h];exact Co Ad e.l 1 h⟩
 repeat' first
  | (with_reducible refine(Ak1 hG _ e.s hs).mono ?_;rintro _ H1 ⟨rfl,rfl⟩)
  | (with_reducible refine(Bn2 G _ e.a (by omega)).mono ?_;rintro _ H1 ⟨rfl,rfl⟩)
  | (with_reducible refine(Aq6 G _ e.a (by omega) D).mono ?_;rintro _ H1 ⟨rfl,rfl⟩)
  | (with_reducible refine(Vl G _ x).mono ?_;rintro _ H1 ⟨rfl,rfl⟩)
  | simp(disch:=omega)only[go_sem,s1,s2,E,I,J,L,M,O,S,jA,jB,hfl, *]
  | (with_reducible refine Pe ?_ ?_<;>intro hc<;>try simp only[decide_eq_true_eq,decide_eq_false_iff_not] at hc)
  | (with_reducible refine Ma ?_ ?_<;>intro hc<;>try simp only[decide_eq_true_eq,decide_eq_false_iff_not] at hc)
  | (refine(Bn1 G _ e 1 (by decide)).mono ?_;rintro _ H1 ⟨rfl,rfl⟩)
  | (refine(Bn1 G _ e 2 (by decide)).mono ?_;rintro _ H1 ⟨rfl,rfl⟩)
  | (refine Fa.sub (show Sub H _ from(by repeat (first | exact Sub.refl _ | assumption | refine Sub.up ?_ (by assumption) _))) (Fa.refl ⟨?_,rfl⟩);clear V W hfl D hb hs s1 s2 E I J L M O S hg U C X Y Z;(try simp only[Gt4,Gx9,Gy0,Gy1] at*);simp only[Bg,aa];simp [zO,zN,zS,zA,Er, *];done)
end
end Go.Dl
