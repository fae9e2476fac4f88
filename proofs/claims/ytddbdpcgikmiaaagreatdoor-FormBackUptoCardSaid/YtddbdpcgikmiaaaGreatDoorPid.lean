/- The data level and the contracts of the functions that are reached (part 4). -/
import Derived.Lib.IndexMore
import Derived.Lib.IndexAny
import Derived.Lib.TrimByte
import Derived.Lib.Strings
import Derived.Lib.Repeat
import Derived.Lib.CountLaws
import Derived.Lib.ParseIntB
import Derived.Lib.Fields
import Derived.Laws.RangeString
import Derived.Laws.RangeAny
import Derived.Test.YtddbdpcgikmiaaaGreatDoorPic
set_option linter.unusedSimpArgs false
set_option linter.unusedVariables false
set_option linter.unusedSectionVars false
set_option maxHeartbeats 400000000
-- P4
namespace Go.Dl
open Go
set_option maxRecDepth 10000
theorem Dp8 {t:Tok} (h:Ab4 t=true): ∃c r,Pa t=c::r/\((Fe c=true/\t.kind≠4/\(c::r).all Fe=true/\(c::r).length<=32)\/
  t.kind=4/\((t.text= [c]/\r= []/\c∈At4)\/ ∃b,t.text= [c,b]/\r= [b]/\(c,b)∈Ws)):=by
 obtain⟨k,li,D,n⟩:=t;rcases Cf6 h with⟨rfl,h1,h2⟩|⟨rfl,h1,h2⟩|⟨rfl,h1,h2⟩|⟨rfl,h1,h2,h3⟩
 ·obtain⟨c,w,e,hc,hl,ha,hk⟩:=Dp7 h2;dsimp only at e;subst e;exact⟨c,w,rfl,.inl ⟨Vg hc,by simp,ha,hl⟩⟩
 ·obtain⟨c,w,e,hc,hl,ha⟩:=Ep7 h2;dsimp only at e;subst e;exact⟨c,w,rfl,.inl ⟨Vg hc,by simp,ha,hl⟩⟩
 ·rcases Cf5 h2 with⟨a,e,ha⟩|⟨a,b,e,y⟩<;>(dsimp only at e;subst e)
  ·exact⟨a,[],rfl,.inr ⟨rfl,.inl ⟨rfl,rfl,ha⟩⟩⟩
  ·exact⟨a,[b],rfl,.inr ⟨rfl,.inr ⟨b,rfl,rfl,y⟩⟩⟩
 ·dsimp only at h1 h2 h3;subst h1;obtain⟨u,rfl⟩: ∃u:Nat,n=u:=⟨n.toNat,by omega⟩;have e:Pa ⟨3,li,[],(u:Int)⟩=Lib.decDigits u:=by
   show Lib.itoa (u:Int)++ []=_;rw[Cz8 (by omega),jH];rfl
  obtain⟨c,w,C,hc⟩:=Fj1 u;have hd:=Ec4 u;have hl:=Ec3 (n:=u) (by omega);rw[C] at hd hl e;exact⟨c,w,e,.inl ⟨An6 hc,by simp,List.all_eq_true.2 λx hx=>An6 (hd x hx),by omega⟩⟩
theorem Cf7 {c:UInt8} (h:Fe c=true):33<=c.toNat/\c.toNat<=126:=by
 have hu:c=95->c.toNat=95:=λe=>by rw[e];rfl
 unfold Fe Gl Gx at h;simp only[Bool.or_eq_true,jF,decide_eq_true_eq] at h;rcases h with((h|h)|h)|h
 ·omega
 ·omega
 ·omega
 ·have:=hu h;omega
theorem Dp9: ∀c∈At4,33<=c.toNat/\c.toNat<=126:=by decide+kernel
theorem Dq0: ∀p∈Ws,(33<=p.1.toNat/\p.1.toNat<=126)/\33<=p.2.toNat/\p.2.toNat<=126:=by decide+kernel
theorem Cf8 {t:Tok} (h:Ab4 t=true):(∀c∈Pa t,33<=c.toNat/\c.toNat<=126)/\1<=(Pa t).length/\(Pa t).length<=32:=by
 obtain⟨c,r,e,h1|⟨_,⟨_,rfl,h2⟩|⟨b,_,rfl,h2⟩⟩⟩:=Dp8 h
 ·rw[e];exact⟨λx hx=>Cf7 (List.all_eq_true.1 h1.2.2.1 x hx),by simp,h1.2.2.2⟩
 ·rw[e];refine⟨λx hx=> ?_,by simp,by simp⟩;rw[List.mem_singleton] at hx;subst hx;exact Dp9 x h2
 ·rw[e];refine⟨λx hx=> ?_,by simp,by simp⟩;have:=Dq0 _ h2;simp only[List.mem_cons,List.not_mem_nil,or_false] at hx;rcases hx with rfl|rfl
  ·exact this.1
  ·exact this.2
theorem Ai4: ∀(l:List Tok) (a:Option Tok),Tq l=true->l.length<=(Qu a l).length/\(Qu a l).length<=33*l.length
 | [],a,_=>by cases a<;>exact⟨Nat.le_refl _,Nat.le_refl _⟩
 |t::l,a,h=>by
  rw[Tq,List.all_cons,jF] at h;have h1:=(Cf8 h.1).2;have h2:=Ai4 l (some t) h.2;cases a with
  |none=>
   show _<=(Pa t++Qu (some t) l).length/\(Pa t++Qu (some t) l).length<=_;rw[jC,jA];omega
  |some a=>
   rw[show Qu (some a) (t::l)=(if Ad5 a t then [32] else [])++(Pa t++Qu (some t) l) from rfl,jC,jC,jA];split
   ·rw[jQ];omega
   ·rw[jB];omega
def Fj2 (d:Nat) (l:List Tok):List UInt8:=List.replicate (2*d) 32++Vf l
theorem Ge9 {c:UInt8} (r:List UInt8) (h:c≠32):Iw (c::r)=c::r:=by
 unfold Iw;rw[List.dropWhile_cons,beq_eq_false_iff_ne.2 h];rfl
theorem Gu9 {c:UInt8} (r:List UInt8) (h:c≠45):Po (c::r)=false:=by
 unfold Po;split
 ·rename_i e;simp at e;exact absurd e.1 h
 ·rfl
theorem Cz9 {c:UInt8} {r:List UInt8} (y:c≠32) (C:Po (c::r)=false):Sf (c::r)=if(Fh (c::r)).2=0 then [((Fh (c::r)).1,false)] else((Fh (c::r)).1,true)::Sf ((c::r).drop (Fh (c::r)).2):=by
 rw[Yk,Ge9 r y,if_neg (λh=>h.elim (by simp) (λh=>by rw[C] at h;cases h))]
theorem Da0: ∀a:List UInt8,Go.Op.bytesLess a a=false
 | []=>rfl
 |x::a=>by
  unfold Go.Op.bytesLess;simp [Da0 a]
theorem Cf9: ∀a b:List UInt8,Go.Op.bytesLess a b=true->Go.Op.bytesLess b a=false
 | [],[],h=>rfl
 | [],_::_,_=>rfl
 |_::_,[],h=>by cases h
 |x::a,y::b,h=>by
  unfold Go.Op.bytesLess at h⊢
  by_cases e:x=y
  ·subst e;simp only[UInt8.lt_irrefl] at h⊢
   simp at h⊢
   exact Cf9 a b h
  ·have hn:y≠x:=λh=>e h.symm;simp [e,hn] at h⊢
   exact UInt8.le_of_lt h
theorem Da1:Bg6.Pairwise (λa b=>Go.Op.bytesLess a b=true):=by decide+kernel
structure halfAt (l:List (List UInt8)) (s:List UInt8) (i j:Nat):Prop where
 le:i<=j
 len:j<=l.length
 lo: ∀k w,k<i->l[k]? =some w->w≠s
 hi: ∀k w,j<k->l[k]? =some w->w≠s
theorem Dq1 (l:List (List UInt8)) (s:List UInt8):halfAt l s 0 l.length:=
 ⟨Nat.zero_le _,Nat.le_refl _,λ_ _ h=>by omega,λk w h hk=>by rw[List.getElem?_eq_none (by omega)] at hk;cases hk⟩
theorem Ec5 {l:List (List UInt8)} {a:Nat} {b:Nat} {u v:List UInt8} (hl:l.Pairwise λa b=>Go.Op.bytesLess a b=true) (h:a<b) (ha:l[a]? =some u) (hb:l[b]? =some v):Go.Op.bytesLess u v=true:=by
 obtain⟨h1,rfl⟩:=List.getElem?_eq_some_iff.1 ha;obtain⟨h2,rfl⟩:=List.getElem?_eq_some_iff.1 hb;exact List.pairwise_iff_getElem.1 hl a b h1 h2 h
theorem Gf0 {l:List (List UInt8)} {s w:List UInt8} {i j h:Nat} (hl:l.Pairwise λa b=>Go.Op.bytesLess a b=true) (hk:halfAt l s i j) (h2:h<j) (hw:l[h]? =some w) (y:Go.Op.bytesLess w s=true):halfAt l s (h+1) j:=by
 obtain⟨k1,C,I,D⟩:=hk;refine⟨by omega,C,λk u J hu e=> ?_,D⟩;subst e;rcases Nat.lt_or_ge k h with E|hge
 ·have:=Ec5 hl E hu hw;rw[Cf9 _ _ this] at y;cases y
 ·have:k=h:=by omega
  subst this;rw[hw] at hu;cases hu;rw[Da0] at y;cases y
theorem Ep9 {l:List (List UInt8)} {s w:List UInt8} {i j h:Nat} (hl:l.Pairwise λa b=>Go.Op.bytesLess a b=true) (hk:halfAt l s i j) (h1:i<=h) (h2:h<j) (hw:l[h]? =some w) (y:Go.Op.bytesLess w s=false):halfAt l s i h:=by
 obtain⟨k1,E,C,I⟩:=hk;refine⟨h1,by omega,C,λk u D hu e=> ?_⟩;subst e;rw[Ec5 hl D hw hu] at y;cases y
theorem Fj3 {l:List (List UInt8)} {s:List UInt8} {i:Nat} (hk:halfAt l s i i):decide (s∈l)=decide (l[i]? =some s):=by
 obtain⟨_,_,y,C⟩:=hk;refine decide_eq_decide.2 ⟨λh=> ?_,λh=>List.mem_of_getElem? h⟩;obtain⟨k,hk⟩:=List.mem_iff_getElem?.1 h;rcases Nat.lt_trichotomy k i with h1|h1|h1
 ·exact absurd rfl (y k s h1 hk)
 ·rw[<-h1];exact hk
 ·exact absurd rfl (C k s h1 hk)
def Lj (s:List UInt8) (line:Nat) (l:List Tok):List Tok×Int×Int:=
 match Dp6 (Yl (Gy s) line) l.length with
 |some e=>([],e.1,e.2)
 |none=>(l++(Yl (Gy s) line).map (·.1),0,0)
theorem Da2 {s:List UInt8} (h:s.length<=65536):Cc s=Lj s 1 []:=by
 rw[Cc,if_neg (by omega),Lj,jB];cases Dp6 (Yl (Gy s) 1) 0 with
 |some e=>rfl
 |none=>rfl
theorem Fj4 (line:Nat) (l:List Tok):Lj [] line l=(l,0,0):=by
 have e:Yl (Gy []) line= []:=rfl;rw[Lj,e];show(l++ [],(0:Int),(0:Int))=_;rw[jH]
theorem Gf1 (r:List UInt8) (line:Nat) (l:List Tok):Lj (10::r) line l=Lj r (line+1) l:=by
 have e:Yl (Gy (10::r)) line=Yl (Gy r) (line+1):=by
  rw[Gy,Dc,if_pos rfl,Yl];rfl
 rw[Lj,Lj,e]
theorem Ad6 (c:UInt8): ∀(s y:List UInt8),∃h t,Dc c s []=h::t/\Dc c s y=(y++h)::t
 | [],y=>⟨[],[],rfl,by simp [Dc]⟩
 |x::s,y=>by
  rw[Dc,Dc];split
  ·exact⟨[],_,rfl,by simp⟩
  ·obtain⟨h,t,e1,D⟩:=Ad6 c s [x];obtain⟨h',t',C,E⟩:=Ad6 c s (y++ [x]);rw[e1] at C;cases C;exact⟨x::h,t,by rw[jG,D];rfl,by rw[E];simp⟩
theorem Ym {c:UInt8} (r:List UInt8) (y:c≠10): ∃h t,Gy r=h::t/\Gy (c::r)=(c::h)::t:=by
 obtain⟨h,t,e1,C⟩:=Ad6 10 r [c];exact⟨h,t,e1,by rw[Gy,Dc,if_neg y,jG,C];rfl⟩
theorem Ad7 {s h:List UInt8} {t:List (List UInt8)} (e:Gy s=h::t):(10:UInt8)∉h/\((t= []/\s=h)\/(t≠ []/\s=h++10::Al2 t))/\ ∀n,n<=h.length->Gy (s.drop n)=h.drop n::t:=by
 have hm: ∀w∈Gy s,(10:UInt8)∉w:=λw hw=>Ad4 10 s [] w (by simp) hw;have hj:Al2 (Gy s)=s:=by rw[Gy,Dp5];rfl
 rw[e] at hm hj;have h10:=hm h (by simp);have hd: ∀n,(10:UInt8)∉h.drop n:=λn hx=>h10 (List.mem_of_mem_drop hx)
 match t with
 | []=>
  have hs:h=s:=hj;subst hs;exact⟨h10,.inl ⟨rfl,rfl⟩,λn hn=>by rw[Gy,Bq7 10 _ (hd n)];rfl⟩
 |u::t=>
  have hs:h++10::Al2 (u::t)=s:=hj;subst hs;refine⟨h10,.inr ⟨by simp,rfl⟩,λn hn=> ?_⟩;rw[List.drop_append_of_le_length hn,Gy,Bq8 10 _ _ (hd n)];have:=Br0 (u::t) (by simp) λw hw=>hm w (List.mem_cons_of_mem _ hw);rw[Gy] at this;rw[this];rfl
theorem Gf2 (r:List UInt8) (line:Nat) (l:List Tok):Lj (32::r) line l=Lj r line l:=by
 obtain⟨h,t,e1,y⟩:=Ym (c:=32) r (by decide);have C:Sf (32::h)=Sf h:=by
  have ht:Iw (32::h)=Iw h:=rfl;rw[Yk (32::h),Yk h,ht]
 have e:Yl (Gy (32::r)) line=Yl (Gy r) line:=by rw[e1,y,Yl,Yl,C]
 rw[Lj,Lj,e]
theorem Gv0 (s r:List UInt8) (h:s≠ []):Ur (s++10::r)=Ur s:=by
 match s,h with
 | [],h=>exact absurd rfl h
 | [a],_=>
  have:(a,(10:UInt8))∉Ws:=by simp [Ws]
  simp only[jI,jG,Ur,if_neg this]
 |a::b::s,_=>rfl
theorem Fj5 (s r:List UInt8) (h:s≠ []):Fh (s++10::r)=Fh s:=by
 have hw:Fm (s++10::r)=Fm s:=Cz7 s r 10 rfl;have hs:=Gv0 s r h;have ht:(s++10::r).take (Ur s)=s.take (Ur s):=List.take_append_of_le_length (Dp4 s)
 match s,h with
 | [],h=>exact absurd rfl h
 |c::s,_=>
  unfold Fh;rw[jI] at hw hs ht⊢
  dsimp only;rw[hw,hs,ht]
theorem Br2 {c:UInt8} {r:List UInt8} (line:Nat) (l:List Tok) (E:c≠10) (I:c≠32) (y:Po (c::r)=false):
  Lj (c::r) line l=if(Fh (c::r)).2=0 then([],(line:Int),20) else if l.length=8192 then([],(line:Int),3)
   else Lj ((c::r).drop (Fh (c::r)).2) line (l++ [{ (Fh (c::r)).1 with line:=(line:Int) }]):=by
 obtain⟨h,t,e1,D⟩:=Ym r E;obtain⟨_,hp,J⟩:=Ad7 D;have hf:Fh (c::r)=Fh (c::h):=by
  rcases hp with⟨_,hs⟩|⟨_,hs⟩
  ·rw[hs]
  ·rw[hs,Fj5 _ _ (by simp)]
 have hc2:Po (c::h)=false:=by
  rcases hp with⟨_,hs⟩|⟨_,hs⟩
  ·rwa [hs] at y
  ·cases hi:Po (c::h) with
   |false=>rfl
   |true=>
    rw[hs] at y
    match h with
    | []=>unfold Po at hi;split at hi<;>simp_all
    |d::h'=>
     by_cases hh:c=45/\d=45
     ·obtain⟨rfl,rfl⟩:=hh;exact absurd y (by simp [Po])
     ·unfold Po at hi;split at hi
      ·rename_i C;simp at C;exact absurd ⟨C.1,C.2.1⟩ hh
      ·cases hi
 have hle:(Fh (c::h)).2<=(c::h).length:=At6 _;have hys:=Cz9 I hc2;rw[hf,Lj,D,Yl,hys];by_cases h0:(Fh (c::h)).2=0
 ·rw[if_pos h0,if_pos h0,jN,jI,Dp6,if_pos rfl]
 ·rw[if_neg h0,if_neg h0,jN,jI,Dp6,if_neg (by simp)];by_cases h8:l.length=8192
  ·rw[if_pos h8,if_pos h8]
  ·rw[if_neg h8,if_neg h8];have hd:=J _ hle;rw[Lj,hd,Yl,jC,jQ];split
   ·rfl
   ·simp
theorem Fj6 (r:List UInt8) (line:Nat) (l:List Tok): ∃h t,Gy (45::45::r)=h::t/\(Qa h=false->Lj (45::45::r) line l=([],(line:Int),20))/\
  (Qa h=true->Lj (45::45::r) line l=Lj ((45::45::r).drop h.length) line l):=by
 obtain⟨h1,t,e1,E⟩:=Ym (c:=45) r (by decide);obtain⟨h2,J,C,y⟩:=Ym (c:=45) (45::r) (by decide);rw[E] at C;cases C;obtain⟨_,_,I⟩:=Ad7 y;have D:Sf (45::45::h1)=if Qa (45::45::h1) then [] else [(At5,false)]:=by
  have ht:Iw (45::45::h1)=45::45::h1:=rfl;rw[Yk,ht,if_pos (.inr rfl)]
 refine⟨_,t,y,λhp=> ?_,λhp=> ?_⟩
 ·rw[Lj,y,Yl,D,hp,if_neg (by simp),jN,jI,Dp6,if_pos rfl]
 ·have hd:=I _ (Nat.le_refl _);rw[Lj,Lj,hd,y,Yl,Yl,D,hp,List.drop_length];rfl
theorem Eq0 (c:UInt8):Gx c=true↔48<=c.toNat/\c.toNat<=57:=by simp [Gx]
theorem Hc6 {s:List UInt8}:(Fm s=s)↔s.all Fe=true:=by
 constructor
 ·intro h;have: ∀l:List UInt8,(l.takeWhile Fe).all Fe=true:=λl=>by
   induction l with
   |nil=>rfl
   |cons c l ih=>
    rw[List.takeWhile_cons];split
    ·rename_i hc;rw[List.all_cons,hc,ih];rfl
    ·rfl
  rw[<-h];exact this s
 ·exact At7 s
theorem Gf3 (s:List UInt8):Iv s=(decide (s≠ [])&&(decide (s.length<=32)&&((match s with|c::_=>Gl c| []=>false)&&(decide (Fm s=s)&&!Uq s)))):=by
 have hw:decide (Fm s=s)=s.all Fe:=by
  cases h:s.all Fe with
  |true=>exact decide_eq_true (Hc6.2 h)
  |false=>exact decide_eq_false λe=>by rw[Hc6.1 e] at h;cases h
 rw[hw];unfold Iv
 match s with
 | []=>rfl
 |c::r=>
  simp only[ne_eq,reduceCtorEq,not_false_eq_true,decide_true,jS];cases Gl c<;>cases decide ((c::r).length<=32)<;>cases (c::r).all Fe<;>cases Uq (c::r)<;>rfl
theorem Ec6 {s:List UInt8} {k:Nat} {c:UInt8} (h:(s.take k).all Fe=true) (y:s[k]? =some c) (hw:Fe c=false):Fm s=s.take k:=by
 obtain⟨hk,rfl⟩:=List.getElem?_eq_some_iff.1 y;have e:s=s.take k++s[k]::s.drop (k+1):=by rw[<-List.drop_eq_getElem_cons hk,List.take_append_drop]
 rw[show Fm s=Fm (s.take k++s[k]::s.drop (k+1)) from congrArg Fm e,Cz7 _ _ _ hw,At7 _ h]
theorem Dq2: ∀n:Fin 256,Gl (UInt8.ofNat n.1)=(decide (97<=n.1 ||| 32)&&decide (n.1 ||| 32<=122)):=by decide+kernel
end Go.Dl
-- Sa
namespace Go.Dl
open Go Go.Proofs Go.RowKit
set_option maxRecDepth 100000
variable {H Hn:Ab}
attribute [go_sem] List.getElem?_toArray List.getElem?_cons_zero List.getElem?_cons_succ List.append_eq
theorem Gv1 {P:Program} {w:World} {H:Ab} {G:Nat->DVal} {g:Nat} {name:String} {k:IntKind} {y:List Int} (C:P.globalNamed name=some g) (h:GOk G w H) (e:G g= .vptr (y.map λz=> .int k z) 0):Lib.TabIs P w name k y:=by
 have hx:=h.exact g _ e;have hr:=h.rel g;rw[e] at hr;have hc:=Ep5 C hr rfl;unfold Lib.TabIs World.var?;rw[C];simp only[Option.bind_some];cases ho:w.heap[g]? with
 |none=>rw[ho] at hx;cases hx
 |some o=>
  cases o with
  |cells c t fz=>
   rw[ho] at hx;simp only[Pn,Option.some.injEq,jK] at hx;simp only[Option.some.injEq];apply Array.ext_getElem?;intro i;by_cases hi:i<y.length
   ·have:=hc i y[i] (List.getElem?_eq_getElem hi);simp only[World.cell?,ho] at this;simp [hi];simpa using this
   ·rw[Array.getElem?_eq_none (by omega),Array.getElem?_eq_none (by simp;omega)]
  |_=>rw[ho] at hx;cases hx
section
end
section
variable {G:Nat->DVal} {H:Ab}
theorem Eq1 (hG:G 1= .vptr (Lib.asciiSpaceTab.map λz=> .int .u8 z) 0) (s:List UInt8) (hs:s.length<4294967281) (ha: ∀(j:Nat) b,s[j]? =some b->b.toNat<128):
  Ad Tryz.prog G 307 [.str s] H (Am (Al1 (Lib.fields s)) H):=by
 refine⟨Tryz.call307,λvs w hv y hg=> ?_⟩;simp only[Ar,Rel] at hv;obtain⟨_,_,rfl,rfl,rfl⟩:=hv;refine(Tryz.strings_Fields ⟨⟨s⟩⟩ w hs ha (Gv1 (show Tryz.prog.globalNamed "strings.asciiSpace" =some 1 by kernel_rfl) hg hG)).mono λe w' ⟨he,hw⟩=> ?_;subst he;subst hw;have hq:RowKit.Below w.heap.size w (w.alloc (.cells ((Lib.fields s).map λl=>Value.string ⟨l.toArray⟩).toArray 9)):=RowKit.Below.alloc (RowKit.Below.refl _ _) (Nat.le_refl _) _;obtain⟨k1,C⟩:=(Quiet.below hq).ext y;refine⟨_,H,⟨rfl,rfl⟩,.ret _ _ ?_,k1,C⟩;simp only[Al1,Rel];refine⟨_,_,by rfl,Nat.le_refl _,.inr ⟨w.heap.size,0,(Lib.fields s).map λl=>Value.string ⟨l.toArray⟩,rfl,.inr ⟨?_,λi x hx=> ?_⟩, ?_⟩⟩
 ·cases e:H w.heap.size with
  |none=>rfl
  |some o=>exact absurd (y.lt (r:=w.heap.size) (by simp [e])) (by omega)
 ·rw[Nat.zero_add,World.cell?,World.alloc_heap_new];simpa using hx
 ·refine Ar.mk (by simp) λi d x h1 h2=> ?_;simp only[List.getElem?_map,Option.map_eq_some_iff] at h1 h2;obtain⟨E,D,rfl⟩:=h1;obtain⟨I,q2,rfl⟩:=h2;rw[D] at q2;cases q2;simp [Rel]
end
structure GX (G:Nat->DVal):Prop where
 space:G 1= .vptr (Lib.asciiSpaceTab.map λz=> .int .u8 z) 0
theorem Hi0: ∀n:Fin 256,IntKind.u8.wrap (((BitVec.ofInt 8 ((n.1:Nat):Int) ||| BitVec.ofInt 8 32).toNat:Nat):Int)=((n.1 ||| 32:Nat):Int):=by decide+kernel
section
variable {G:Nat->DVal} {H:Ab}
theorem Bg9 (G:Nat->DVal) (H:Ab) (b:UInt8):Ad Tryz.prog G 252 [.int .u8 b.toNat] H (Am (.bool (Gl b)) H):=by
 have y:=Hi0 ⟨b.toNat,b.toNat_lt⟩;have hl:=Dq2 ⟨b.toNat,b.toNat_lt⟩;dsimp only at y hl;rw[UInt8.ofNat_toNat] at hl;rw[hl];clear hl;generalize b.toNat ||| 32=m at y⊢
 refine dci Tryz.func252 Tryz.call252 ?_;simp(disch:=omega)only[go_sem];generalize hm:IntKind.u8.wrap _=z;have hz:z=(m:Int):=hm.symm.trans y;subst hz;by_cases h1:97<=m
 ·have C:(97:Int)<=(m:Int):=by omega
  simp(disch:=omega)only[go_sem,C];generalize D:IntKind.u8.wrap _=z;have hz:z=(m:Int):=D.symm.trans y;subst hz;refine Dj.refl ⟨?_,rfl⟩;rw[decide_eq_decide.2 (show(m:Int)<=122↔m<=122 by omega)]
 ·have C: ¬(97:Int)<=(m:Int):=by omega
  simp(disch:=omega)only[go_sem,C];exact Dj.refl ⟨rfl,rfl⟩
theorem Dq3 (G:Nat->DVal) (H:Ab) (b:UInt8):Ad Tryz.prog G 295 [.int .u8 b.toNat] H (Am (.bool (Gx b)) H):=by
 refine dci Tryz.func295 Tryz.call295 ?_;by_cases h1:48<=b.toNat
 ·have y:(48:Int)<=(b.toNat:Int):=by omega
  simp only[go_sem,y];refine Dj.refl ⟨?_,rfl⟩;rw[Gx,decide_eq_decide.2 (show(b.toNat:Int)<=57↔b.toNat<=57 by omega),decide_eq_true h1,jS]
 ·have y: ¬(48:Int)<=(b.toNat:Int):=by omega
  simp only[go_sem,y];refine Dj.refl ⟨?_,rfl⟩;rw[Gx,decide_eq_false h1];rfl
theorem Dq4 (G:Nat->DVal) (H:Ab) (s:List UInt8):Ad Tryz.prog G 320 [.str s] H (Am (.bool false) H):=by
 refine dci Tryz.func320 Tryz.call320 ?_;simp only[go_sem];exact Dj.refl ⟨rfl,rfl⟩
theorem Da3 (G:Nat->DVal) (H:Ab) (s:List UInt8):Ad Tryz.prog G 306 [.str s] H (Am (.bool false) H):=by
 refine dci Tryz.func306 Tryz.call306 ?_;simp only[go_sem];exact Dj.refl ⟨rfl,rfl⟩
theorem Eq2 (G:Nat->DVal) (H:Ab) (s t:List UInt8):Ad Tryz.prog G 305 [.str s,.str t] H (Am (.bool (Go.Op.bytesLess s t)) H):=by
 refine dci Tryz.func305 Tryz.call305 ?_;simp only[go_sem];refine(Dq4 G _ s).mono ?_;rintro _ H ⟨rfl,rfl⟩;simp only[go_sem];exact Dj.refl ⟨rfl,rfl⟩
theorem Da4 (G:Nat->DVal) (H:Ab) (l:List (List UInt8)) (s:List UInt8) (hl:l.Pairwise λa b=>Go.Op.bytesLess a b=true) (O:l.length<=1000000):
  Ad Tryz.prog G 272 [Al1 l,.str s] H (λe H'=>(∃i:Nat,e= .ret (.tuple [dI i,.bool (decide (s∈l))]))/\H'=H):=by
 refine dci Tryz.func272 Tryz.call272 ?_;simp only[go_sem,Al1];obtain⟨I,L⟩: ∃I:Nat×Nat->(Nat->DVal)->Ab->Prop,∀p env heap,I p env heap↔(env 0= .vslice (l.map .str) l.length/\env 1= .str s/\env 6=dI l.length/\env 7=dI p.1/\env 8=dI p.2/\halfAt l s p.1 p.2/\heap=H):=⟨_,λ_ _ _=>Iff.rfl⟩;refine Ea9.run I (λp=>p.2-p.1) (0,l.length) ((L _ _ _).2 ?_) ?_
 ·simp only[go_sem];(repeat' apply And.intro)<;>(try first|rfl|assumption|omega);exact Dq1 l s
 ·rintro⟨i,j⟩ env heap hi;obtain⟨D,e1,E,y,C,hh,rfl⟩:=(L _ _ _).1 hi;dsimp only at y C hh;have S:=hh.le;have U:=hh.len;by_cases V:i<j
  ·(have hm:(i+j)/2<l.length:=by omega);(have w1:IntKind.u64.wrap ((i:Int)+(j:Int))=((i+j:Nat):Int):=by rw[IntKind.wrap_u64];omega);(have w2:(((i+j:Nat)):Int).fdiv (2^min 1 64)=(((i+j)/2:Nat):Int):=by rw[show(2:Int)^min 1 64=2 from rfl,Int.fdiv_eq_ediv_of_nonneg _ (by omega)];omega);(have w3:IntKind.i64.wrap ((((i+j)/2:Nat)):Int)=(((i+j)/2:Nat):Int):=by rw[IntKind.wrap_i64];omega);(have hg:(l.map DVal.str)[(i+j)/2]? =some (.str l[(i+j)/2]):=by rw[List.getElem?_map,List.getElem?_eq_getElem hm];rfl);simp(disch:=omega)only[go_sem,D,e1,y,C,w1,w2,w3,hg,hm];refine(Eq2 G _ l[(i+j)/2] s).mono ?_;rintro _ H1 ⟨rfl,rfl⟩;cases hb:Go.Op.bytesLess l[(i+j)/2] s with
   |true=>
    simp only[go_sem];refine⟨((i+j)/2+1,j),_,Rn.refl _,(L _ _ _).2 ?_,by dsimp only;omega⟩;simp(disch:=omega)only[go_sem,D,e1,E,C];(repeat' apply And.intro)<;>(try first|rfl|assumption|omega);exact Gf0 hl hh (by omega) (List.getElem?_eq_getElem hm) hb
   |false=>
    simp only[go_sem];refine⟨(i,(i+j)/2),_,Rn.refl _,(L _ _ _).2 ?_,by dsimp only;omega⟩;simp only[go_sem,D,e1,E,y];(repeat' apply And.intro)<;>(try first|rfl|assumption|omega);exact Ep9 hl hh (by omega) (by omega) (List.getElem?_eq_getElem hm) hb
  ·(have:i=j:=by omega);subst this;have J:=Fj3 hh;by_cases hi:i<l.length
   ·(have M:(i:Int)<(l.length:Int):=by omega);(have hg:(l.map DVal.str)[i]? =some (.str l[i]):=by rw[List.getElem?_map,List.getElem?_eq_getElem hi];rfl);rw[List.getElem?_eq_getElem hi] at J;by_cases hw:l[i]=s
    ·simp(disch:=omega)only[go_sem,D,e1,E,y,C,M,hi,hg,hw];refine Dj.refl ⟨⟨i, ?_⟩,rfl⟩;rw[J,hw];simp
    ·simp(disch:=omega)only[go_sem,D,e1,E,y,C,M,hi,hg,hw];refine(Da3 G _ l[i]).mono ?_;rintro _ H1 ⟨rfl,rfl⟩;simp only[go_sem];refine Dj.refl ⟨⟨i, ?_⟩,rfl⟩;rw[J];simp [hw]
   ·(have M: ¬(i:Int)<(l.length:Int):=by omega);rw[List.getElem?_eq_none (by omega)] at J;simp(disch:=omega)only[go_sem,E,y,C,M];refine Dj.refl ⟨⟨i, ?_⟩,rfl⟩;rw[J];simp
theorem Da5 {s:List UInt8} {k:Nat} {c:UInt8} (h:s[k]? =some c) (y:c.toNat<128):Tf s k=(c.toNat,1):=by
 obtain⟨hk,rfl⟩:=List.getElem?_eq_some_iff.1 h;exact Go.decode_ascii ⟨⟨s⟩⟩ k hk y
theorem Eq3 {s:List UInt8} {k:Nat} {c:UInt8} (h:s[k]? =some c) (y:128<=c.toNat):128<=(Tf s k).1:=by
 obtain⟨hk,rfl⟩:=List.getElem?_eq_some_iff.1 h;exact(Go.decode_high ⟨⟨s⟩⟩ k hk y).1
theorem Eq4 {c:UInt8} (h:126<c.toNat):Fe c=false:=by
 cases hw:Fe c with
 |false=>rfl
 |true=>have:=(Cf7 hw).2;omega
theorem Eq5 (G:Nat->DVal) (H:Ab) (s:List UInt8) (hs:s.length<=1000000000):Ad Tryz.prog G 253 [.str s] H (Am (.str (Fm s)) H):=by
 refine dci Tryz.func253 Tryz.call253 ?_;simp only[go_sem];intro r hr;obtain⟨I,D⟩: ∃I:Nat->(Nat->DVal)->Ab->Prop,∀k env heap,I k env heap↔(env 0= .str s/\env 6= .optr r 0/\(s.take k).all Fe=true/\k<=s.length/\heap=upd H r (some (.iter s k))):=⟨_,λ_ _ _=>Iff.rfl⟩;refine Ea9.run I (λk=>s.length-k) 0 ((D _ _ _).2 ?_) ?_
 ·simp(disch:=omega)only[go_sem]
 ·intro k env heap hi;obtain⟨y,C,hw,hk,rfl⟩:=(D _ _ _).1 hi;by_cases E:k<s.length
  ·have hg:s[k]? =some s[k]:=List.getElem?_eq_getElem E;have O:Fe s[k]=false->Fm s=s.take k:=λh=>Ec6 hw hg h;have L:Fe s[k]=true->(s.take (k+1)).all Fe=true:=λh=>by
    rw[List.take_add_one,hg,List.all_append,hw];simpa using h
   (have S:(k:Int)<=(s.length:Int):=by omega);by_cases Y:s[k].toNat<=126
   ·have V:=Da5 hg (by omega);(have W: ¬(126:Int)<(s[k].toNat:Int):=by omega);(have U:IntKind.u8.wrap (s[k].toNat:Int)=(s[k].toNat:Int):=by rw[IntKind.wrap_u8];have:=s[k].toNat_lt;omega);simp only[go_sem,y,C,E,V,W,U];refine(Bg9 G _ s[k]).mono ?_;rintro _ H1 ⟨rfl,rfl⟩;cases hle:Gl s[k] with
    |true=>
     simp only[go_sem];refine⟨k+1,_,Rn.refl _,(D _ _ _).2 ?_,by omega⟩;simp only[go_sem,y,C];(repeat' apply And.intro)<;>(try first|rfl|assumption|omega);exact L (Vg hle)
    |false=>
     simp only[go_sem,U];refine(Dq3 G _ s[k]).mono ?_;rintro _ H1 ⟨rfl,rfl⟩;cases hdi:Gx s[k] with
     |true=>
      simp only[go_sem];refine⟨k+1,_,Rn.refl _,(D _ _ _).2 ?_,by omega⟩;simp only[go_sem,y,C];(repeat' apply And.intro)<;>(try first|rfl|assumption|omega);exact L (An6 hdi)
     |false=>
      by_cases J:s[k]=95
      ·(have M:(s[k].toNat:Int)=95:=by rw[J];rfl);simp only[go_sem,M];refine⟨k+1,_,Rn.refl _,(D _ _ _).2 ?_,by omega⟩;simp only[go_sem,y,C];(repeat' apply And.intro)<;>(try first|rfl|assumption|omega);exact L (by rw[J];rfl)
      ·have M: ¬(s[k].toNat:Int)=95:=Tp (d:=95) J;simp(disch:=omega)only[go_sem,y,M,S];refine Dj.dropA r hr (Dj.refl ⟨?_,rfl⟩);rw[O (by simp [Fe,hle,hdi,J])];simp
   ·have hlo:126<((Tf s k).1:Int):=by
     by_cases X:s[k].toNat<128
     ·rw[Da5 hg X];dsimp only;omega
     ·have:=Eq3 hg (by omega);omega
    simp(disch:=omega)only[go_sem,y,C,E,hlo,S];refine Dj.dropA r hr (Dj.refl ⟨?_,rfl⟩);rw[O (Eq4 (by omega))];simp
  ·(have:k=s.length:=by omega);subst this;simp only[go_sem,y,C,E];refine Dj.dropA r hr (Dj.refl ⟨?_,rfl⟩);rw[List.take_length] at hw;rw[Hc6.2 hw]
end
section
variable {G:Nat->DVal} {H:Ab}
def Bl8:List UInt8:= [97,98,111,114,116,32,97,98,115,32,97,99,99,101,112,116,32,97,99,99,101,115,115,32,97,108,105,97,115,101,100,32,97,108,108,32,97,110,100,32,97,114,114,97,121,32,98,101,103,105,110,32,98,111,100,121,32,99,97,115,101,32,99,111,110,115,116,97,110,116,32,100,101,99,108,97,114,101,32,100,101,108,97,121,32,100,111,32,101,108,115,101,32,101,108,115,105,102,32,101,110,100,32,101,110,116,114,121,32,101,120,99,101,112,116,105,111,110,32,101,120,105,116,32,102,111,114,32,102,117,110,99,116,105,111,110,32,103,101,110,101,114,105,99,32,105,102,32,105,110,32,105,115,32,108,105,109,105,116,101,100,32,108,111,111,112,32,109,111,100,32,110,101,119,32,110,111,116,32,110,117,108,108,32,111,102,32,111,114,32,111,116,104,101,114,115,32,111,117,116,32,112,97,99,107,97,103,101,32,112,114,97,103,109,97,32,112,114,105,118,97,116,101,32,112,114,111,99,101,100,117,114,101,32,112,114,111,116,101,99,116,101,100,32,114,97,105,115,101,32,114,97,110,103,101,32,114,101,99,111,114,100,32,114,101,109,32,114,101,110,97,109,101,115,32,114,101,113,117,101,117,101,32,114,101,116,117,114,110,32,114,101,118,101,114,115,101,32,115,101,108,101,99,116,32,115,101,112,97,114,97,116,101,32,115,117,98,116,121,112,101,32,116,97,115,107,32,116,101,114,109,105,110,97,116,101,32,116,104,101,110,32,116,121,112,101,32,117,110,116,105,108,32,117,115,101,32,119,104,101,110,32,119,104,105,108,101,32,119,105,116,104,32,120,111,114]
theorem Da6: ∀b∈Bl8,b.toNat<128:=by decide+kernel
theorem Dq5:Lib.fields Bl8=Bg6:=by kernel_rfl
theorem Eq6 (hG:GX G) (H:Ab):Ad Tryz.prog G 273 [] H (Am (Al1 Bg6) H):=by
 refine dci Tryz.func273 Tryz.call273 ?_;simp only[go_sem];show Ad _ _ _ [.str Bl8] _ _;refine(Eq1 hG.space Bl8 (by decide+kernel) (λj b h=>Da6 b (List.mem_of_getElem? h))).mono ?_;rintro _ H1 ⟨rfl,rfl⟩;rw[Dq5];simp only[go_sem];exact Dj.refl ⟨rfl,rfl⟩
theorem Wt (hG:GX G) (H:Ab) (s:List UInt8):Ad Tryz.prog G 203 [.str s] H (Am (.bool (Uq s)) H):=by
 refine dci Tryz.func203 Tryz.call203 ?_;simp only[go_sem];refine(Eq6 hG _).mono ?_;rintro _ H1 ⟨rfl,rfl⟩;simp only[go_sem];refine(Da4 G _ Bg6 s Da1 (by decide)).mono ?_;rintro _ H2 ⟨⟨i,rfl⟩,rfl⟩;simp only[go_sem];exact Dj.refl ⟨rfl,rfl⟩
theorem Yn (hG:GX G) (H:Ab) (s:List UInt8) (hs:s.length<=9223372036854775807):Ad Tryz.prog G 178 [.str s] H (Am (.bool (Iv s)) H):=by
 refine dci Tryz.func178 Tryz.call178 ?_
 match s with
 | []=>
  simp only[go_sem];exact Dj.refl ⟨rfl,rfl⟩
 |c::r=>
  have y: ¬(c::r= []):=by simp
  have h0:(c::r)[0]? =some c:=rfl;rw[Gf3];by_cases hl:(c::r).length<=32
  ·(have C:((c::r).length:Int)<=32:=by omega);simp(disch:=omega)only[go_sem,y,h0];refine(Bg9 G _ c).mono ?_;rintro _ H1 ⟨rfl,rfl⟩;cases hle:Gl c with
   |false=>
    simp only[go_sem];exact Dj.refl ⟨by simp,rfl⟩
   |true=>
    simp only[go_sem];refine(Eq5 G _ (c::r) (by omega)).mono ?_;rintro _ H1 ⟨rfl,rfl⟩;by_cases hw:Fm (c::r)=c::r
    ·simp only[go_sem,hw];refine(Wt hG _ (c::r)).mono ?_;rintro _ H1 ⟨rfl,rfl⟩;simp only[go_sem];exact Dj.refl ⟨by first|rfl|(rw[jA] at hl;simp [];intro _;omega),rfl⟩
    ·simp only[go_sem,hw];exact Dj.refl ⟨by first|rfl|simp [],rfl⟩
  ·(have C: ¬((c::r).length:Int)<=32:=by omega);simp(disch:=omega)only[go_sem,y];exact Dj.refl ⟨by first|rfl|(rw[jA] at hl;simp;intro h;omega),rfl⟩
theorem Cg0 (a:UInt8) (r:List UInt8) (h: ∀b r',r=b::r'->(a,b)∉Ws):Ur (a::r)=if a∈At4 then 1 else 0:=by
 match r with
 | []=>rfl
 |b::r'=>simp only[Ur,if_neg (h b r' rfl)]
end
def Cu (t:Tok):List DVal:= [.int .u8 t.kind,dI t.line,.str t.text,dI t.n]
theorem Az (t:Tok):(Cu t).length=4:=rfl
theorem Gu (t:Tok):(Cu t).take 4=Cu t:=rfl
theorem Ix (t:Tok):(Cu t).all (λd=>d.one)=true:=rfl
theorem Pb (t:Tok):(Cu t)[0]? =some (.int .u8 t.kind):=rfl
theorem Ad8 (t:Tok):(Cu t)[2]? =some (.str t.text):=rfl
theorem Yo (t:Tok):(Cu t)[3]? =some (dI t.n):=rfl
section
variable {G:Nat->DVal} {H:Ab}
theorem Tr (c:UInt8) (r:List UInt8):Fh (c::r)=if Gl c then(if Uq (Fm (c::r)) then(⟨2,0,Fm (c::r),0⟩,(Fm (c::r)).length) else if Iv (Fm (c::r)) then(⟨1,0,Fm (c::r),0⟩,(Fm (c::r)).length) else(At5,0))
  else if Gx c then(match Cc4 (Fm (c::r)) with|some v=>(⟨3,0,[],v⟩,(Fm (c::r)).length)|none=>(At5,0)) else(⟨4,0,(c::r).take (Ur (c::r)),0⟩,Ur (c::r)):=rfl
def Br3 (p:Tok×Nat):DVal:= .tuple [.agg (Cu p.1),dI p.2]
end
def Be (l:List Tok):DVal:= .vslice (l.flatMap Cu) l.length
section
end
def Ec7 (a b:Tok):Bool:=decide ({ a with line:=b.line }=b)
def Aa3:List Tok->List Tok->Bool
 | [],[]=>true
 |a::l,b::m=>Ec7 a b&&Aa3 l m
 |_,_=>false
section
variable {G:Nat->DVal} {H:Ab}
theorem Cg1: ∀(l m:List Tok),Aa3 l m=true->l.length=m.length
 | [],[],_=>rfl
 | [],_::_,h=>by cases h
 |_::_,[],h=>by cases h
 |a::l,b::m,h=>by
  rw[Aa3,jF] at h;rw[jA,jA,Cg1 l m h.2]
theorem Dq6: ∀ {l m:List Tok} {k:Nat} (h1:k<l.length) (h2:k<m.length),Aa3 (l.drop k) (m.drop k)=(Ec7 l[k] m[k]&&Aa3 (l.drop (k+1)) (m.drop (k+1))):=λh1 h2=>by
 rw[List.drop_eq_getElem_cons h1,List.drop_eq_getElem_cons h2,Aa3]
end
theorem Li.sub1' {H H':Ab} {v C:DVal} (h:Li H v H' C) {pre post:List DVal} (hp:At3.looses pre=true) (D:At3.looses post=true) (w:World) (hw:Bg w H): ∀xs,Ar w H (pre++v::post) xs->Ar w H' (pre++C::post) xs:=by
 intro xs hx;have e:xs=xs.take pre.length++xs.drop pre.length:=(List.take_append_drop _ _).symm;have h1:=hx.take pre.length;have h2:=hx.drop pre.length;rw[List.take_left] at h1;rw[List.drop_left] at h2;rw[e];refine(Pz _ _ hp h1).append ?_;simp only[Ar] at h2⊢
 obtain⟨y,ys,h3,h4,h5⟩:=h2;rw[h3];exact⟨y,ys,rfl,(h w hw).2.2 y h4,Pz _ _ D h5⟩
theorem Li.tuple1' {H H':Ab} {v y:DVal} (h:Li H v H' y) {pre post:List DVal} (hp:At3.looses pre=true) (C:At3.looses post=true):Li H (.tuple (pre++v::post)) H' (.tuple (pre++y::post)):=λw hw=>
 ⟨(h w hw).1,(h w hw).2.1,λx hx=>by
  simp only[Rel] at hx⊢
  obtain⟨xs,rfl,hl⟩:=hx;exact⟨xs,rfl,h.sub1' hp C w hw _ hl⟩⟩
theorem Ik.dLen {H H':Ab} {e t:TypeId} {size n:Nat} {cs:List DVal} {v:DVal} (h:Ik H e size n cs v H') {dst:Option Nat} {K:DK} {s:DS}:Dl.dLen dst (some (.slice t)) v K s=Br dst (dI n) K s:=by
 rcases h with⟨rfl,_,rfl,_⟩|⟨r,_,_,rfl,_,_⟩
 ·rfl
 ·rfl
section
variable {G:Nat->DVal} {H:Ab}
theorem Mg {H':Ab} (h:Sub H H') (y:List DVal) (C:At3.looses y=true):Li H' (.tuple (.nilSlice::y)) H (.tuple (Be []::y)):=
 (Li.sub h _).trans (Li.tuple1' (pre:= []) (Ik.nil 31 4 (Sub.refl H)).ghost rfl C)
end
section
variable {G:Nat->DVal} {H:Ab}
theorem Yp (G:Nat->DVal) (H:Ab) (b:UInt8):Ad Tryz.prog G 231 [.int .u8 b.toNat] H (Am (.bool (Gl b)) H):=by
 refine dci Tryz.func231 Tryz.call231 ?_;have hd:Gl b=(decide ((65:Int)<=b.toNat)&&decide ((b.toNat:Int)<=90) || decide ((97:Int)<=b.toNat)&&decide ((b.toNat:Int)<=122)):=by
  rw[Gl,decide_eq_decide.2 (show 65<=b.toNat↔(65:Int)<=b.toNat by omega),decide_eq_decide.2 (show b.toNat<=90↔(b.toNat:Int)<=90 by omega),decide_eq_decide.2 (show 97<=b.toNat↔(97:Int)<=b.toNat by omega),decide_eq_decide.2 (show b.toNat<=122↔(b.toNat:Int)<=122 by omega)]
 rw[hd];generalize (b.toNat:Int)=n;by_cases h1:65<=n
 ·by_cases h2:n<=90
  ·simp only[go_sem,h1,h2];exact Dj.refl ⟨by simp,rfl⟩
  ·by_cases h3:97<=n
   ·simp only[go_sem,h1,h2,h3];exact Dj.refl ⟨by simp,rfl⟩
   ·simp only[go_sem,h1,h2,h3];exact Dj.refl ⟨by simp,rfl⟩
 ·have h3: ¬97<=n:=by omega
  simp only[go_sem,h1,h3];exact Dj.refl ⟨by simp,rfl⟩
theorem Ad9 (G:Nat->DVal) (H:Ab) (b:UInt8):Ad Tryz.prog G 245 [.int .u8 b.toNat] H (Am (.bool (Gx b)) H):=by
 refine dci Tryz.func245 Tryz.call245 ?_;by_cases h1:48<=b.toNat
 ·have y:(48:Int)<=(b.toNat:Int):=by omega
  simp only[go_sem,y];refine Dj.refl ⟨?_,rfl⟩;rw[Gx,decide_eq_decide.2 (show(b.toNat:Int)<=57↔b.toNat<=57 by omega),decide_eq_true h1,jS]
 ·have y: ¬(48:Int)<=(b.toNat:Int):=by omega
  simp only[go_sem,y];refine Dj.refl ⟨?_,rfl⟩;rw[Gx,decide_eq_false h1];rfl
theorem Br4 (G:Nat->DVal) (H:Ab) (b:UInt8):Ad Tryz.prog G 233 [.int .u8 b.toNat] H (Am (.bool (Fe b)) H):=by
 refine dci Tryz.func233 Tryz.call233 ?_;simp only[go_sem];refine(Yp G _ b).mono ?_;rintro _ H1 ⟨rfl,rfl⟩;cases hl:Gl b with
 |true=>
  simp only[go_sem];exact Dj.refl ⟨by rw[Fe,hl];rfl,rfl⟩
 |false=>
  simp only[go_sem];refine(Ad9 G _ b).mono ?_;rintro _ H1 ⟨rfl,rfl⟩;cases hd:Gx b with
  |true=>
   simp only[go_sem];exact Dj.refl ⟨by rw[Fe,hl,hd];rfl,rfl⟩
  |false=>
   by_cases y:b=95
   ·subst y;simp only[go_sem];exact Dj.refl ⟨rfl,rfl⟩
   ·have C: ¬(b.toNat:Int)=95:=Tp (d:=95) y;simp only[go_sem,C];exact Dj.refl ⟨by rw[Fe,hl,hd,decide_eq_false y];rfl,rfl⟩
theorem Ec8 (G:Nat->DVal) (H:Ab) (l:List (List UInt8)) (s:List UInt8) (hl:l.length<=1000000):Ad Tryz.prog G 288 [Al1 l,.str s] H (Am (.bool (decide (s∈l))) H):=by
 refine dci Tryz.func288 Tryz.call288 ?_;simp only[go_sem,Al1];obtain⟨I,D⟩: ∃I:Nat->(Nat->DVal)->Ab->Prop,∀k env heap,I k env heap↔(env 0= .vslice (l.map .str) l.length/\env 1= .str s/\env 5=dI k/\k<=l.length/\(∀x∈l.take k,x≠s)/\heap=H):=⟨_,λ_ _ _=>Iff.rfl⟩;refine Ea9.run I (λk=>l.length-k) 0 ((D _ _ _).2 ?_) ?_
 ·simp only[go_sem];(repeat' apply And.intro)<;>(try first|rfl|assumption|omega);intro x hx;simp at hx
 ·intro k env heap hi;obtain⟨C,e1,E,hk,hn,rfl⟩:=(D _ _ _).1 hi;by_cases y:k<l.length
  ·(have J:(k:Int)<(l.length:Int):=by omega);(have hg:(l.map DVal.str)[k]? =some (.str l[k]):=by rw[List.getElem?_map,List.getElem?_eq_getElem y];rfl);by_cases hw:l[k]=s
   ·simp(disch:=omega)only[go_sem,C,e1,E,J,y,hg,hw,jD];exact Dj.refl ⟨by rw[decide_eq_true (by rw[<-hw];exact List.getElem_mem y)],rfl⟩
   ·(have L:IntKind.i64.wrap ((k:Int)+1)=((k+1:Nat):Int):=by rw[IntKind.wrap_i64];omega);simp(disch:=omega)only[go_sem,C,e1,E,J,y,hg,hw,jD];refine⟨k+1,_,Rn.refl _,(D _ _ _).2 ?_,by omega⟩;simp only[go_sem,C,e1];(repeat' apply And.intro)<;>(try first|rfl|assumption|omega);exact Jm (p:=λx=>x≠s) y hn hw
  ·(have:k=l.length:=by omega);subst this;simp(disch:=omega)only[go_sem,C,E];rw[List.take_length] at hn;exact Dj.refl ⟨by rw[decide_eq_false (λh=>hn s h rfl)],rfl⟩
def Wu:List (List UInt8):= [[61,62],[46,46],[58,61],[47,61],[60,61],[62,61],[60,62],[40],[41],[44],[59],[58],[46],[39],[43],[45],[42],[47],[61],[60],[62],[124]]
theorem Fj7 (s:List UInt8):Cz6 s=decide (s∈Wu):=by
 cases h:Cz6 s with
 |true=>
  refine(decide_eq_true ?_).symm;have h2: ∀p∈Ws,[p.1,p.2]∈Wu:=by decide+kernel
  have h1: ∀a∈At4,[a]∈Wu:=by decide+kernel
  rcases Cf5 h with⟨a,rfl,ha⟩|⟨a,b,rfl,y⟩
  ·exact h1 a ha
  ·exact h2 _ y
 |false=>
  refine(decide_eq_false λhm=> ?_).symm;have h3: ∀w∈Wu,Cz6 w=true:=by decide+kernel
  rw[h3 s hm] at h;cases h
theorem Dq7 (G:Nat->DVal) (H:Ab):Ad Tryz.prog G 289 [] H (Am (Al1 Bg6) H):=by
 refine dci Tryz.func289 Tryz.call289 ?_;simp only[go_sem];change Dk4 _ _ _ _ (some (Bg6.map .str)) _ _;simp only[go_sem];intro r hr;simp only[go_sem];refine Dj.fzA r hr ?_;simp only[fz,if_pos,jJ];refine Dj.refl ⟨?_,rfl⟩;rfl
theorem Br5 (G:Nat->DVal) (H:Ab):Ad Tryz.prog G 293 [] H (Am (Al1 Wu) H):=by
 refine dci Tryz.func293 Tryz.call293 ?_;simp only[go_sem];change Dk4 _ _ _ _ (some (Wu.map .str)) _ _;simp only[go_sem];intro r hr;simp only[go_sem];refine Dj.fzA r hr ?_;simp only[fz,if_pos,jJ];refine Dj.refl ⟨?_,rfl⟩;rfl
theorem Ba5 (G:Nat->DVal) (H:Ab) (s:List UInt8):Ad Tryz.prog G 232 [.str s] H (Am (.bool (Uq s)) H):=by
 refine dci Tryz.func232 Tryz.call232 ?_;simp only[go_sem];refine(Dq7 G _).mono ?_;rintro _ H1 ⟨rfl,rfl⟩;simp only[go_sem];refine(Ec8 G _ Bg6 s (by decide)).mono ?_;rintro _ H1 ⟨rfl,rfl⟩;simp only[go_sem];exact Dj.refl ⟨rfl,rfl⟩
end
section
variable {G:Nat->DVal} {H:Ab}
theorem Qb (G:Nat->DVal) (H:Ab) (s:List UInt8):Ad Tryz.prog G 144 [.str s] H (Am (.bool (Iv s)) H):=by
 refine dci Tryz.func144 Tryz.call144 ?_
 match s with
 | []=>
  simp(disch:=omega)only[go_sem,jB];exact Dj.refl ⟨rfl,rfl⟩
 |c::r=>
  obtain⟨s,hs⟩: ∃s,s=c::r:=⟨_,rfl⟩;have h0:s[0]? =some c:=by rw[hs];rfl
  have S:0<s.length:=by rw[hs];simp
  have L:Iv s=(Gl c&&decide (s.length<=32)&&s.all Fe&&!Uq s):=by rw[hs];rfl
  rw[<-hs,L];have h1: ¬(s.length:Int)<1:=by omega
  by_cases hl:s.length<=32
  ·(have y: ¬(32:Int)<(s.length:Int):=by omega);simp(disch:=omega)only[go_sem,h1,y,h0];refine(Yp G _ c).mono ?_;rintro _ H1 ⟨rfl,rfl⟩;cases hle:Gl c with
   |false=>
    simp only[go_sem];exact Dj.refl ⟨rfl,rfl⟩
   |true=>
    simp only[go_sem];refine(Ba5 G _ s).mono ?_;rintro _ H1 ⟨rfl,rfl⟩;cases hk:Uq s with
    |true=>
     simp only[go_sem];exact Dj.refl ⟨by simp,rfl⟩
    |false=>
     simp only[go_sem];obtain⟨I,C⟩: ∃I:Nat->(Nat->DVal)->Ab->Prop,∀k env heap,I k env heap↔(env 0= .str s/\env 3=dI k/\k<=s.length/\(s.take k).all Fe=true/\heap=H1):=⟨_,λ_ _ _=>Iff.rfl⟩;refine Ea9.run I (λk=>s.length-k) 0 ((C _ _ _).2 ?_) ?_
     ·simp only[go_sem];(repeat' apply And.intro)<;>(try first|rfl|assumption|omega)
     ·intro k env heap hi;obtain⟨D,E,U,hw,rfl⟩:=(C _ _ _).1 hi;by_cases J:k<s.length
      ·(have M:(k:Int)<(s.length:Int):=by omega);have hg:s[k]? =some s[k]:=List.getElem?_eq_getElem J;(have O:IntKind.i64.wrap ((k:Int)+1)=((k+1:Nat):Int):=by rw[IntKind.wrap_i64];omega);simp(disch:=omega)only[go_sem,D,E,M,hg,jD];refine(Br4 G _ s[k]).mono ?_;rintro _ H2 ⟨rfl,rfl⟩;cases hb:Fe s[k] with
       |true=>
        simp only[go_sem,E];refine⟨k+1,_,Rn.refl _,(C _ _ _).2 ?_,by omega⟩;simp only[go_sem,D,O];(repeat' apply And.intro)<;>(try first|rfl|assumption|omega);rw[List.take_add_one,hg,List.all_append,hw];simpa using hb
       |false=>
        simp only[go_sem];have:s.all Fe=false:=by
         rw[List.all_eq_false];exact⟨s[k],List.getElem_mem J,by rw[hb];simp⟩
        exact Dj.refl ⟨by rw[this],rfl⟩
      ·(have:k=s.length:=by omega);subst this;simp(disch:=omega)only[go_sem,D,E];rw[List.take_length] at hw;exact Dj.refl ⟨by rw[hw],rfl⟩
  ·(have y:(32:Int)<(s.length:Int):=by omega);simp(disch:=omega)only[go_sem,h1,y];exact Dj.refl ⟨by simp,rfl⟩
end
theorem Fj8 (a b:Tok):Ec7 a b=(decide (a.kind=b.kind)&&(decide (a.text=b.text)&&decide (a.n=b.n))):=by
 rw[Ec7];cases a;cases b;simp only[Tok.mk.injEq,Bool.decide_and,decide_true,jS]
theorem Da7 {l m:List Tok} (h:l.length≠m.length):Aa3 l m=false:=by
 cases e:Aa3 l m with
 |false=>rfl
 |true=>exact absurd (Cg1 l m e) h
section
variable {G:Nat->DVal} {H:Ab}
theorem Dq8 (G:Nat->DVal) (H:Ab) (l m:List Tok) (hl:l.length<=1000000000):Ad Tryz.prog G 82 [Be l,Be m] H (Am (.bool (Aa3 l m)) H):=by
 refine dci Tryz.func82 Tryz.call82 ?_;by_cases Z:l.length=m.length
 ·have V:(l.length:Int)=(m.length:Int):=by omega
  simp only[go_sem,Be,V];obtain⟨I,W⟩: ∃I:Nat->(Nat->DVal)->Ab->Prop,∀k env heap,I k env heap↔(env 0= .vslice (l.flatMap Cu) l.length/\env 1= .vslice (m.flatMap Cu) m.length/\env 5=dI k/\k<=l.length/\Aa3 l m=Aa3 (l.drop k) (m.drop k)/\heap=H):=⟨_,λ_ _ _=>Iff.rfl⟩;refine Ea9.run I (λk=>l.length-k) 0 ((W _ _ _).2 ?_) ?_
  ·simp only[go_sem];(repeat' apply And.intro)<;>(try first|rfl|assumption|omega)
  ·intro k env heap hi;obtain⟨C,e1,D,hk,y,rfl⟩:=(W _ _ _).1 hi;have hfl:=Ak Az l;have J:=Ak Az m;by_cases L:k<l.length
   ·(have M:(k:Int)<(m.length:Int):=by omega);(have E:(k:Int)<(l.length:Int):=by omega);(have O:k<m.length:=by omega);have S:(l.flatMap Cu)[k*4]? =some (.int .u8 l[k].kind):=Bz Az l k L 0 (by omega);have X:(l.flatMap Cu)[k*4+2]? =some (.str l[k].text):=Bz Az l k L 2 (by omega);have g3:(l.flatMap Cu)[k*4+3]? =some (dI l[k].n):=Bz Az l k L 3 (by omega);have U:(m.flatMap Cu)[k*4]? =some (.int .u8 m[k].kind):=Bz Az m k O 0 (by omega);have Y:(m.flatMap Cu)[k*4+2]? =some (.str m[k].text):=Bz Az m k O 2 (by omega);have m3:(m.flatMap Cu)[k*4+3]? =some (dI m[k].n):=Bz Az m k O 3 (by omega);have hst:=Dq6 L O;rw[hst,Fj8] at y;simp only[go_sem,C,D,E];refine An (.take 0 (.take 1 (.take 2 (.take 3 (.take 4 (.take 5 (.take 6 (.take 7 (.take 8 (.take 9 (.take 10 (.take 11 (.take 12 (.take 13 (.take 14 (.take 15 (.take 16 (.take 17 (.take 18 (.take 19 (.take 20 (.take 21 (.take 22 (.take 23 (.take 24 (.take 25 (.take 26 (.take 27 (.take 28 (.take 29 (.take 30 (.take 31 (.take 32 (.take 33 (.take 34 (.take 35 (.take 36 .done))))))))))))))))))))))))))))))))))))) ?_;by_cases h1:l[k].kind=m[k].kind
    ·by_cases h2:l[k].text=m[k].text
     ·by_cases h3:l[k].n=m[k].n
      ·rw[decide_eq_true h1,decide_eq_true h2,decide_eq_true h3,jS,jS,jS] at y;simp(disch:=omega)only[go_sem,C,e1,D,M,E,hfl,J,jD,S,X,g3,U,Y,m3,h1,h2,h3];refine⟨k+1,_,Rn.refl _,(W _ _ _).2 ?_,by omega⟩;simp only[go_sem,C,e1];(repeat' apply And.intro)<;>(try first|rfl|assumption|omega)
      ·rw[decide_eq_false h3,Bool.and_false,Bool.and_false,jT] at y;simp(disch:=omega)only[go_sem,C,e1,D,M,E,hfl,J,jD,S,X,g3,U,Y,m3,h1,h2,h3];exact Dj.refl ⟨by rw[y],rfl⟩
     ·rw[decide_eq_false h2,jT,Bool.and_false,jT] at y;simp(disch:=omega)only[go_sem,C,e1,D,M,E,hfl,J,jD,S,X,U,Y,h1,h2];exact Dj.refl ⟨by rw[y],rfl⟩
    ·rw[decide_eq_false h1,jT,jT] at y;simp(disch:=omega)only[go_sem,C,e1,D,M,E,hfl,J,jD,S,U,h1];exact Dj.refl ⟨by rw[y],rfl⟩
   ·(have:k=l.length:=by omega);subst this;simp(disch:=omega)only[go_sem,C,D];refine Dj.refl ⟨?_,rfl⟩;rw[y,List.drop_length,Z,List.drop_length];rfl
 ·have V: ¬(l.length:Int)=(m.length:Int):=by omega
  simp only[go_sem,Be,V];exact Dj.refl ⟨by rw[Da7 Z],rfl⟩
end
end Go.Dl
-- S1
namespace Go.Dl
open Go
set_option maxRecDepth 10000
mutual
inductive Ex where
 |mk (kind oper n:Int) (s:List UInt8) (l:List Ex) (a:List As) (line ent t:Int)
inductive As where
 |mk (c:List Ch) (e:Ex)
inductive Ch where
 |mk (kind:Int) (l:List Ex)
end
def Ex.kind:Ex->Int| .mk k _ _ _ _ _ _ _ _=>k
def Ex.oper:Ex->Int| .mk _ o _ _ _ _ _ _ _=>o
def Ex.n:Ex->Int| .mk _ _ n _ _ _ _ _ _=>n
def Ex.s:Ex->List UInt8| .mk _ _ _ s _ _ _ _ _=>s
def Ex.l:Ex->List Ex| .mk _ _ _ _ l _ _ _ _=>l
def Ex.a:Ex->List As| .mk _ _ _ _ _ a _ _ _=>a
def Ex.line:Ex->Int| .mk _ _ _ _ _ _ li _ _=>li
def Ex.ent:Ex->Int| .mk _ _ _ _ _ _ _ en _=>en
def Ex.t:Ex->Int| .mk _ _ _ _ _ _ _ _ t=>t
def As.c:As->List Ch| .mk c _=>c
def As.e:As->Ex| .mk _ e=>e
def Ch.kind:Ch->Int| .mk k _=>k
def Ch.l:Ch->List Ex| .mk _ l=>l
def ex0:Ex:= .mk 0 0 0 [] [] [] 0 0 0
instance:Inhabited Ex:=⟨ex0⟩
instance:Inhabited As:=⟨.mk [] ex0⟩
instance:Inhabited Ch:=⟨.mk 0 []⟩
mutual
def Ff:Ex->Nat
 | .mk _ _ _ _ l a _ _ _=>1+Br6 l+Ba6 a
def Br6:List Ex->Nat
 | []=>0
 |x::l=>Ff x+Br6 l
def Da8:As->Nat
 | .mk c e=>Ba7 c+Ff e
def Ba6:List As->Nat
 | []=>0
 |x::l=>Da8 x+Ba6 l
def Ec9:Ch->Nat
 | .mk _ l=>Br6 l
def Ba7:List Ch->Nat
 | []=>0
 |x::l=>Ec9 x+Ba7 l
end
def Ct (x:As):List Ex:=x.c.flatMap Ch.l++ [x.e]
def parts (e:Ex):List Ex:=e.l++e.a.flatMap Ct
def Lf (l:List Ex):Nat:=(l.map Ff).sum
theorem Ba8: ∀l:List Ex,Br6 l=Lf l
 | []=>rfl
 |x::l=>by rw[Br6,Ba8 l,Lf,Lf,jN,List.sum_cons]
theorem Vh (l m:List Ex):Lf (l++m)=Lf l+Lf m:=by simp [Lf]
theorem Br7: ∀l:List Ch,Ba7 l=Lf (l.flatMap Ch.l)
 | []=>rfl
 | .mk k x::l=>by rw[Ba7,Ec9,Br7 l,Ba8,List.flatMap_cons,Vh];rfl
theorem Eq7 (x:As):Da8 x=Lf (Ct x):=by
 cases x;rw[Da8,Br7,Ct,Vh];simp [Lf,As.c,As.e]
theorem Br8: ∀l:List As,Ba6 l=Lf (l.flatMap Ct)
 | []=>rfl
 |x::l=>by rw[Ba6,Eq7,Br8 l,List.flatMap_cons,Vh]
theorem Oh (e:Ex):Ff e=1+Lf (parts e):=by
 cases e;rw[Ff,Ba8,Br8,parts,Vh,Nat.add_assoc];rfl
theorem Fj9 {l:List Ex} {x:Ex} (h:x∈l):Ff x<=Lf l:=by
 induction l with
 |nil=>cases h
 |cons y l ih=>
  rw[Lf,jN,List.sum_cons];rcases List.mem_cons.1 h with rfl|h
  ·omega
  ·have:=ih h;unfold Lf at this;omega
theorem Ae0 {e x:Ex} (h:x∈parts e):Ff x<Ff e:=by
 rw[Oh e];have:=Fj9 h;omega
theorem Ba {e x:Ex} (h:x∈e.l):x∈parts e:=List.mem_append_left _ h
theorem Lk {e x:Ex} {a:As} (ha:a∈e.a) (h:x∈Ct a):x∈parts e:=List.mem_append_right _ (List.mem_flatMap.2 ⟨a,ha,h⟩)
theorem Mh (a:As):a.e∈Ct a:=List.mem_append_right _ (by simp)
theorem Sg {a:As} {c:Ch} {x:Ex} (y:c∈a.c) (h:x∈c.l):x∈Ct a:=List.mem_append_left _ (List.mem_flatMap.2 ⟨c,y,h⟩)
theorem Ex.ind {p:Ex->Prop} (h: ∀e,(∀x∈parts e,p x)->p e) (e:Ex):p e:=by
 have key: ∀n e,Ff e<n->p e:=by
  intro n
  induction n with
  |zero=>intro e he;omega
  |succ n ih=>
   intro e he;refine h e λx hx=>ih x ?_;have:=Ae0 hx;omega
 exact key _ e (Nat.lt_succ_self _)
def Bn (e:Ex):Bool:=decide (3<=e.kind)&&decide (e.kind<=8)
def Je (e:Ex) (k:Nat):Bool:=decide (e.l.length=k)&&Bn (e.l.getD 0 ex0)
def Nd:List As->Bool
 |a::b::r=>(a.c.isEmpty || !b.c.isEmpty)&&Nd (b::r)
 |_=>true
def Ce:List Ch->Bool
 | [c]=>decide (c.kind=1)&&(match c.l with| [x]=>decide (x.kind=3)|_=>false)
 |_=>false
def Cv (n:Nat) (c:Ch):Bool:=
 if c.kind=1 then decide (c.l.length=1) else if c.kind=2 then decide (c.l.length=2) else decide (c.kind=3)&&decide (c.l.length=0)&&decide (n<=1)
def Cl (l:List Ch):Bool:=decide (0<l.length)&&decide (l.length<=16)&&l.all (Cv l.length)
def Jn (l:List As):Bool:=decide (0<l.length)&&decide (l.length<=8)&&Nd l&&l.all λa=>a.c.isEmpty || Ce a.c
def Oi (l:List Ch):Bool:=match l with|c::_=>decide (c.kind=3)| []=>false
def Fo:List As->Bool
 | []=>true
 |a::r=>(a.c.isEmpty || Cl a.c&&(!Oi a.c || r.isEmpty))&&Fo r
def Vi:List As->Bool
 | [a]=>a.c.isEmpty
 |_=>false
def Fx (l:List As):Bool:=decide (0<l.length)&&decide (l.length<=32)&&Nd l&&!Vi l&&Fo l
def zO (e:Ex):Bool:=decide (e.oper=0)
def zN (e:Ex):Bool:=decide (e.n=0)
def zS (e:Ex):Bool:=decide (e.s= [])
def zA (e:Ex):Bool:=e.a.isEmpty
def Ax (e:Ex):Bool:=
 if e.kind=1 then e.l.isEmpty&&decide (0<=e.n)&&decide (e.n<=2147483647)&&zO e&&zS e&&zA e
 else if e.kind=2 then e.l.isEmpty&&zO e&&zN e&&zS e&&zA e
 else if e.kind=3 then e.l.isEmpty&&Iv e.s&&zO e&&zN e&&zA e
 else if e.kind=4\/e.kind=6 then Je e 1&&Iv e.s&&zO e&&zN e&&zA e
 else if e.kind=5 then Je e 1&&zO e&&zN e&&zS e&&zA e
 else if e.kind=7 then Je e 1&&Jn e.a&&zO e&&zN e&&zS e
 else if e.kind=8 then Je e 2&&zO e&&zN e&&zS e&&zA e
 else if e.kind=9 then e.l.isEmpty&&Fx e.a&&zO e&&zN e&&zS e
 else if e.kind=10 then decide (e.l.length=3)&&zO e&&zN e&&zS e&&zA e
 else if e.kind=11 then decide (e.l.length=1)&&decide (18<=e.oper)&&decide (e.oper<=21)&&zN e&&zS e&&zA e
 else if e.kind=12 then decide (e.l.length=2)&&decide (1<=e.oper)&&decide (e.oper<=17)&&zN e&&zS e&&zA e
 else if e.kind=13\/e.kind=14 then(decide (e.l.length=3) || decide (e.l.length=2)&&Bn (e.l.getD 1 ex0))&&zO e&&zN e&&zS e&&zA e
 else false
mutual
def Dk (d:Nat):Ex->Bool
 | .mk k o n s l a li en t=>decide (d<=32)&&Ax (.mk k o n s l a li en t)&&Br9 (d+1) l&&Bl9 (d+1) a
def Br9 (d:Nat):List Ex->Bool
 | []=>true
 |x::l=>Dk d x&&Br9 d l
def Dq9 (d:Nat):As->Bool
 | .mk c e=>Bm0 d c&&Dk d e
def Bl9 (d:Nat):List As->Bool
 | []=>true
 |x::l=>Dq9 d x&&Bl9 d l
def Fk0 (d:Nat):Ch->Bool
 | .mk _ l=>Br9 d l
def Bm0 (d:Nat):List Ch->Bool
 | []=>true
 |x::l=>Fk0 d x&&Bm0 d l
end
theorem An7 (d:Nat): ∀l:List Ex,Br9 d l=l.all (Dk d)
 | []=>rfl
 |x::l=>by rw[Br9,An7 d l,List.all_cons]
theorem Bh0 (d:Nat): ∀l:List Ch,Bm0 d l=(l.flatMap Ch.l).all (Dk d)
 | []=>rfl
 | .mk k x::l=>by rw[Bm0,Fk0,Bh0 d l,An7,List.flatMap_cons,List.all_append];rfl
theorem Dr0 (d:Nat) (x:As):Dq9 d x=(Ct x).all (Dk d):=by
 cases x;rw[Dq9,Bh0,Ct,List.all_append];simp [As.c,As.e]
theorem Bh1 (d:Nat): ∀l:List As,Bl9 d l=(l.flatMap Ct).all (Dk d)
 | []=>rfl
 |x::l=>by rw[Bl9,Dr0,Bh1 d l,List.flatMap_cons,List.all_append]
theorem Oj (d:Nat) (e:Ex):Dk d e=(decide (d<=32)&&Ax e&&(parts e).all (Dk (d+1))):=by
 cases e;rw[Dk,An7,Bh1,parts,List.all_append,Bool.and_assoc (decide (d<=32)&&_)];rfl
def Bu (e:Ex):Bool:=Dk 1 e&&decide (Ff e<=256)
def Ia (l:List Ch):Bool:=Cl l&&l.all λc=>c.l.all Bu
def Aw (e:Ex):Int:=
 if e.kind=13\/e.kind=14 then 1
 else if e.kind=11 then(if e.oper=18\/e.oper=19 then 2 else if e.oper=20\/e.oper=21 then 4 else 5)
 else if e.kind=12 then(if 13<=e.oper/\e.oper<=17 then 0 else if 7<=e.oper/\e.oper<=12 then 1 else if e.oper=1\/e.oper=2 then 2 else if 3<=e.oper/\e.oper<=6 then 3 else 5)
 else 5
mutual
def Ee:Ex->Ex->Bool
 | .mk k o n s l a _ _ _,f=>decide (k=f.kind)&&decide (o=f.oper)&&decide (n=f.n)&&decide (s=f.s)&&Ll l f.l&&Nv a f.a
def Ll:List Ex->List Ex->Bool
 | [],[]=>true
 |x::l,y::m=>Ee x y&&Ll l m
 |_,_=>false
def Wv:As->As->Bool
 | .mk c e,y=>Kf c y.c&&Ee e y.e
def Nv:List As->List As->Bool
 | [],[]=>true
 |x::l,y::m=>Wv x y&&Nv l m
 |_,_=>false
def Vj:Ch->Ch->Bool
 | .mk k l,y=>decide (k=y.kind)&&Ll l y.l
def Kf:List Ch->List Ch->Bool
 | [],[]=>true
 |x::l,y::m=>Vj x y&&Kf l m
 |_,_=>false
end
theorem Da9 (e f:Ex):Ee e f=(decide (e.kind=f.kind)&&decide (e.oper=f.oper)&&decide (e.n=f.n)&&decide (e.s=f.s)&&Ll e.l f.l&&Nv e.a f.a):=by
 cases e;rw[Ee];rfl
inductive Res (α:Type) where
 |bot
 |fail (k:Nat)
 |ok (x:α) (k:Nat)
def Res.then {α β:Type}:Res α->(α->Nat->Res β)->Res β
 | .bot,_=> .bot
 | .fail k,_=> .fail k
 | .ok x k,f=>f x k
structure PS where
 expr:Nat->Res Ex
 rest:Ex->Nat->Res Ex
 restL:Nat->Ex->Nat->Res Ex
 relation:Ex->Nat->Res Ex
 simple:Nat->Res Ex
 addL:Ex->Nat->Res Ex
 term:Nat->Res Ex
 mulL:Ex->Nat->Res Ex
 factor:Nat->Res Ex
 primary:Nat->Res Ex
 paren:Nat->Res Ex
 assoc:Nat->Res As
 assocsL:List As->Nat->Res (List As)
 choice:Nat->Res Ch
 choicesL:List Ch->Nat->Res (List Ch)
 arg:Nat->Res As
 argsL:List As->Nat->Res (List As)
 name:Nat->Res Ex
 nameL:Int->Ex->Nat->Res Ex
def Hc7:PS:=⟨λ_=> .bot,λ_ _=> .bot,λ_ _ _=> .bot,λ_ _=> .bot,λ_=> .bot,λ_ _=> .bot,λ_=> .bot,λ_ _=> .bot,λ_=> .bot,λ_=> .bot,λ_=> .bot,λ_=> .bot,λ_ _=> .bot,λ_=> .bot,λ_ _=> .bot,λ_=> .bot,λ_ _=> .bot,λ_=> .bot,λ_ _ _=> .bot⟩
def Pp:List UInt8:= [116,104,101,110]
def Qv:List UInt8:= [101,108,115,101]
def wIf:List UInt8:= [105,102]
def wIn:List UInt8:= [105,110]
def Wa:List UInt8:= [110,111,116]
def Ae1:List UInt8:= [97,108,108]
def Gg:List UInt8:= [110,117,108,108]
def La:List UInt8:= [111,116,104,101,114,115]
def Db0:List UInt8:= [97,110,100]
def wOr:List UInt8:= [111,114]
def Gf4:List UInt8:= [120,111,114]
def Hc8:List UInt8:= [109,111,100]
def Hc9:List UInt8:= [114,101,109]
def Eq8:List UInt8:= [97,98,115]
def Bc:List UInt8:= [40]
def Bs:List UInt8:= [41]
def Dm:List UInt8:= [44]
def Gp:List UInt8:= [124]
def Ju:List UInt8:= [46]
def Et:List UInt8:= [46,46]
def Iy:List UInt8:= [39]
def Bp:List UInt8:= [61,62]
def Dr1:List (List (List UInt8)):= [[],[[43]],[[45]],[[42]],[[47]],[Hc8],[Hc9],[[61]],[[47,61]],[[60]],[[60,61]],[[62]],[[62,61]],[Db0],[wOr],[Gf4],[Db0,Pp],[wOr,Qv],[[43]],[[45]],[Eq8],[Wa]]
def Ay (o:Nat):List (List UInt8):=Dr1.getD o []
section
variable (l:List Tok)
def tk (k:Nat):Tok:=l.getD k At5
def Im (s:List UInt8):Int:=if Uq s then 2 else 4
def isW (k:Nat):List (List UInt8)->Bool
 | []=>true
 |s::r=>decide ((tk l k).kind=Im s)&&decide ((tk l k).text=s)&&isW (k+1) r
def opF (want k:Nat):List Nat->Nat×Nat
 | []=>(0,k)
 |o::r=>if isW l k (Ay o) then(if want≠0/\o≠want then(0,k) else(o,k+(Ay o).length)) else opF want k r
def both (o:Nat) (a b:Ex):Ex:= .mk 12 o 0 [] [a,b] [] a.line 0 0
def Qw (o:Nat) (line:Int) (x:Ex):Ex:=if o=0 then x else .mk 11 o 0 [] [x] [] line 0 0
def must {α:Type} (s:List UInt8) (k:Nat) (f:Nat->Res α):Res α:=if isW l k [s] then f (k+1) else .fail k
def Jg {α:Type} (k:Nat) (f:List UInt8->Nat->Res α):Res α:=if(tk l k).kind=1 then f (tk l k).text (k+1) else .fail k
def Bs0 (line:Int) (a:List As):Ex:=match a with
 | [x]=>if x.c= [] then x.e else .mk 9 0 0 [] [] a line 0 0
 |_=> .mk 9 0 0 [] [] a line 0 0
def Fy:List Nat:= [17,16,15,14,13]
def Nw:List Nat:= [12,11,10,9,8,7]
def Hh:List Nat:= [19,18]
def Yq:List Nat:= [2,1]
def Yr:List Nat:= [6,5,4,3]
def Ky:List Nat:= [21,20]
def inK (x:Ex) (kind:Int) (k:Nat) (p:PS):Res Ex:=
 (p.simple k).then λy k=>if isW l k [Et] then(p.simple (k+1)).then λz k=> .ok (.mk kind 0 0 [] [x,y,z] [] x.line 0 0) k
  else if Bn y then .ok (.mk kind 0 0 [] [x,y] [] x.line 0 0) k else .fail k
def Bi (p:PS):PS where
 expr k:=(p.simple k).then λx k=>p.rest x k
 rest x k:=(p.relation x k).then λx k=>p.restL (opF l 0 k Fy).1 x k
 restL o x k:=if o=0 then .ok x k else
  let q:=opF l o k Fy
  if q.1=0 then .ok x k else(p.simple q.2).then λy k=>(p.relation y k).then λy k=>p.restL o (both o x y) k
 relation x k:=
  let q:=opF l 0 k Nw
  if q.1≠0 then(p.simple q.2).then λy k=> .ok (both q.1 x y) k
  else if isW l k [wIn] then inK l x 13 (k+1) p
  else if isW l k [Wa,wIn] then inK l x 14 (k+2) p
  else .ok x k
 simple k:=
  let q:=opF l 0 k Hh
  (p.term q.2).then λx k'=>p.addL (Qw q.1 (tk l k).line x) k'
 addL x k:=
  let q:=opF l 0 k Yq
  if q.1=0 then .ok x k else(p.term q.2).then λy k=>p.addL (both q.1 x y) k
 term k:=(p.factor k).then λx k=>p.mulL x k
 mulL x k:=
  let q:=opF l 0 k Yr
  if q.1=0 then .ok x k else(p.factor q.2).then λy k=>p.mulL (both q.1 x y) k
 factor k:=
  let q:=opF l 0 k Ky
  (p.primary q.2).then λx k'=> .ok (Qw q.1 (tk l k).line x) k'
 primary k:=
  if(tk l k).kind=3 then .ok (.mk 1 0 (tk l k).n [] [] [] (tk l k).line 0 0) (k+1)
  else if isW l k [Gg] then .ok (.mk 2 0 0 [] [] [] (tk l k).line 0 0) (k+1)
  else if isW l k [Bc] then p.paren k
  else p.name k
 paren k:=must l Bc k λk1=>
  if isW l k1 [wIf] then(p.expr (k1+1)).then λa k=>must l Pp k λk=>(p.expr k).then λb k=>must l Qv k λk=>(p.expr k).then λc k'=>must l Bs k' λk'=> .ok (.mk 10 0 0 [] [a,b,c] [] (tk l (k1-1)).line 0 0) k'
  else(p.assoc k1).then λa k=>(p.assocsL [a] k).then λaz k=>must l Bs k λk=> .ok (Bs0 (tk l (k1-1)).line az) k
 assoc k:=(p.choice k).then λc k=>
  if c.kind=1/\isW l k [Gp]=false/\isW l k [Bp]=false then .ok (.mk [] (c.l.getD 0 ex0)) k
  else if c.kind=3 then must l Bp k λk=>(p.expr k).then λe k=> .ok (.mk [c] e) k
  else(p.choicesL [c] k).then λcs k=>must l Bp k λk=>(p.expr k).then λe k=> .ok (.mk cs e) k
 assocsL az k:=if isW l k [Dm] then(p.assoc (k+1)).then λa k=>p.assocsL (az++ [a]) k else .ok az k
 choice k:=if isW l k [La] then .ok (.mk 3 []) (k+1) else
  (p.simple k).then λx k=>if isW l k [Et] then(p.simple (k+1)).then λy k=> .ok (.mk 2 [x,y]) k
   else(p.rest x k).then λx k=> .ok (.mk 1 [x]) k
 choicesL cs k:=if isW l k [Gp] then(p.choice (k+1)).then λc k=>p.choicesL (cs++ [c]) k else .ok cs k
 arg k:=if(tk l k).kind=1/\isW l (k+1) [Bp]=true then(p.expr (k+2)).then λe k'=> .ok (.mk [.mk 1 [.mk 3 0 0 (tk l k).text [] [] (tk l k).line 0 0]] e) k'
  else(p.expr k).then λe k=> .ok (.mk [] e) k
 argsL az k:=if isW l k [Dm] then(p.arg (k+1)).then λa k=>p.argsL (az++ [a]) k else .ok az k
 name k:=Jg l k λs k1=>p.nameL (tk l k).line (.mk 3 0 0 s [] [] (tk l k).line 0 0) k1
 nameL line x k:=
  if isW l k [Ju,Ae1] then p.nameL line (.mk 5 0 0 [] [x] [] line 0 0) (k+2)
  else if isW l k [Ju] then Jg l (k+1) λs k=>p.nameL line (.mk 4 0 0 s [x] [] line 0 0) k
  else if isW l k [Bc] then(p.arg (k+1)).then λa k=>(p.argsL [a] k).then λaz k=>must l Bs k λk=>p.nameL line (.mk 7 0 0 [] [x] az line 0 0) k
  else if isW l k [Iy,Bc] then(p.paren (k+1)).then λy k=>p.nameL line (.mk 8 0 0 [] [x,y] [] line 0 0) k
  else if isW l k [Iy] then Jg l (k+1) λs k=>p.nameL line (.mk 6 0 0 s [x] [] line 0 0) k
  else .ok x k
def P:Nat->PS
 | 0=>Hc7
 |n+1=>Bi l (P n)
end
def Res.Le {α:Type} (r r':Res α):Prop:=r= .bot\/r=r'
theorem Res.Le.refl {α:Type} (r:Res α):r.Le r:= .inr rfl
theorem Gf5 {α β:Type} {r y:Res α} {f g:α->Nat->Res β} (h:r.Le y) (k: ∀x k,(f x k).Le (g x k)):(r.then f).Le (y.then g):=by
 rcases h with rfl|rfl
 ·exact .inl rfl
 ·cases r with
  |bot=>exact .inl rfl
  |fail k=>exact .inr rfl
  |ok x n=>exact k x n
theorem Dr2 {α:Type} {c:Prop} [Decidable c] {a b y C:Res α} (h:a.Le y) (k:b.Le C):(if c then a else b).Le (if c then y else C):=by
 split
 ·exact h
 ·exact k
section
variable {l:List Tok}
theorem Gf6 {α:Type} {s:List UInt8} {k:Nat} {f g:Nat->Res α} (h: ∀k,(f k).Le (g k)):(must l s k f).Le (must l s k g):=Dr2 (h _) (.refl _)
theorem Fk1 {α:Type} {k:Nat} {f g:List UInt8->Nat->Res α} (h: ∀s k,(f s k).Le (g s k)):(Jg l k f).Le (Jg l k g):=Dr2 (h _ _) (.refl _)
structure PS.Le (p q:PS):Prop where
 expr: ∀k,(p.expr k).Le (q.expr k)
 rest: ∀x k,(p.rest x k).Le (q.rest x k)
 restL: ∀o x k,(p.restL o x k).Le (q.restL o x k)
 relation: ∀x k,(p.relation x k).Le (q.relation x k)
 simple: ∀k,(p.simple k).Le (q.simple k)
 addL: ∀x k,(p.addL x k).Le (q.addL x k)
 term: ∀k,(p.term k).Le (q.term k)
 mulL: ∀x k,(p.mulL x k).Le (q.mulL x k)
 factor: ∀k,(p.factor k).Le (q.factor k)
 primary: ∀k,(p.primary k).Le (q.primary k)
 paren: ∀k,(p.paren k).Le (q.paren k)
 assoc: ∀k,(p.assoc k).Le (q.assoc k)
 assocsL: ∀a k,(p.assocsL a k).Le (q.assocsL a k)
 choice: ∀k,(p.choice k).Le (q.choice k)
 choicesL: ∀a k,(p.choicesL a k).Le (q.choicesL a k)
 arg: ∀k,(p.arg k).Le (q.arg k)
 argsL: ∀a k,(p.argsL a k).Le (q.argsL a k)
 name: ∀k,(p.name k).Le (q.name k)
 nameL: ∀i x k,(p.nameL i x k).Le (q.nameL i x k)
theorem Fk2 (q:PS):Hc7.Le q:=by constructor<;>intros<;>exact .inl rfl
theorem Fk3 {p q:PS} (h:p.Le q):(Bi l p).Le (Bi l q):=by
 constructor<;>intros<;>dsimp only[Bi,inK]<;>repeat' first
  |exact Res.Le.refl _
  |exact h.expr _
  |exact h.rest _ _
  |exact h.restL _ _ _
  |exact h.relation _ _
  |exact h.simple _
  |exact h.addL _ _
  |exact h.term _
  |exact h.mulL _ _
  |exact h.factor _
  |exact h.primary _
  |exact h.paren _
  |exact h.assoc _
  |exact h.assocsL _ _
  |exact h.choice _
  |exact h.choicesL _ _
  |exact h.arg _
  |exact h.argsL _ _
  |exact h.name _
  |exact h.nameL _ _ _
  |refine Gf5 ?_ λ_ _=> ?_
  |refine Gf6 λ_=> ?_
  |refine Fk1 λ_ _=> ?_
  |refine Dr2 ?_ ?_
theorem Cg2: ∀n,(P l n).Le (P l (n+1))
 | 0=>Fk2 _
 |n+1=>Fk3 (Cg2 n)
def Adv (l:List Tok) {α:Type} (lb:Nat):Res α->Prop
 | .bot=>True
 | .fail k=>k<=l.length
 | .ok _ k=>lb<=k/\k<=l.length
theorem Ca {α β:Type} {a b:Nat} {r:Res α} {f:α->Nat->Res β} (h:Adv l a r) (k: ∀x n,a<=n->n<=l.length->Adv l b (f x n)):Adv l b (r.then f):=by
 cases r with
 |bot=>trivial
 |fail n=>exact h
 |ok x n=>exact k x n h.1 h.2
theorem Ht {α:Type} {a k:Nat} {x:α} (h:a<=k) (h2:k<=l.length):Adv l a (.ok x k):=⟨h,h2⟩
theorem Ek {α:Type} {a b:Nat} {r:Res α} (h:Adv l a r) (hb:b<=a):Adv l b r:=by
 cases r with
 |bot=>trivial
 |fail n=>exact h
 |ok x n=>exact⟨Nat.le_trans hb h.1,h.2⟩
theorem Gf7 {k:Nat} (h:l.length<=k):tk l k=At5:=by rw[tk,List.getD,List.getElem?_eq_none h];rfl
theorem Ry {k:Nat} (h:(tk l k).kind≠0):k<l.length:=by
 rcases Nat.lt_or_ge k l.length with h2|h2
 ·exact h2
 ·rw[Gf7 h2] at h;exact absurd rfl h
theorem Bs1 (s:List UInt8):Im s≠0:=by unfold Im;split<;>decide
theorem Bf: ∀ {ws:List (List UInt8)} {k:Nat},isW l k ws=true->k<=l.length->k+ws.length<=l.length
 | [],k,_,hk=>hk
 |s::r,k,h,_=>by
  rw[isW,jF,jF,decide_eq_true_eq] at h;have h1:k<l.length:=Ry (by rw[h.1.1];exact Bs1 s);have:=Bf h.2 h1;rw[jA];omega
theorem Eq9: ∀o,o<22->o≠0->0<(Ay o).length:=by decide+kernel
theorem Er {want k:Nat}: ∀ {os:List Nat},(∀o∈os,o<22/\o≠0)->k<=l.length->((opF l want k os).1=0->(opF l want k os).2=k)/\((opF l want k os).1≠0->k+1<=(opF l want k os).2)/\(opF l want k os).2<=l.length/\k<=(opF l want k os).2
 | [],_,hk=>⟨λ_=>rfl,λh=>absurd rfl h,hk,Nat.le_refl _⟩
 |o::r,h,hk=>by
  have ih:=Er (want:=want) (os:=r) (λx hx=>h x (by simp [hx])) hk;rw[opF];split
  ·rename_i hw
   split
   ·exact⟨λ_=>rfl,λh=>absurd rfl h,hk,Nat.le_refl _⟩
   ·have h1:=Bf hw hk;have h2:=Eq9 o (h o (by simp)).1 (h o (by simp)).2;exact⟨λe=>absurd e (h o (by simp)).2,λ_=>by dsimp only;omega,h1,by dsimp only;omega⟩
  ·exact ih
theorem Qy {α:Type} {s:List UInt8} {k a:Nat} {f:Nat->Res α} (hk:k<=l.length) (h:k+1<=l.length->Adv l a (f (k+1))):Adv l a (must l s k f):=by
 unfold must;split
 ·rename_i hw
  exact h (Bf hw hk)
 ·exact hk
theorem Ba9 {α:Type} {k a:Nat} {f:List UInt8->Nat->Res α} (hk:k<=l.length) (h:k+1<=l.length-> ∀s,Adv l a (f s (k+1))):Adv l a (Jg l k f):=by
 unfold Jg;split
 ·rename_i hw
  exact h (Ry (by rw[hw];decide)) _
 ·exact hk
structure PS.Adv (l:List Tok) (p:PS):Prop where
 expr: ∀k,k<=l.length->Dl.Adv l (k+1) (p.expr k)
 rest: ∀x k,k<=l.length->Dl.Adv l k (p.rest x k)
 restL: ∀o x k,k<=l.length->Dl.Adv l k (p.restL o x k)
 relation: ∀x k,k<=l.length->Dl.Adv l k (p.relation x k)
 simple: ∀k,k<=l.length->Dl.Adv l (k+1) (p.simple k)
 addL: ∀x k,k<=l.length->Dl.Adv l k (p.addL x k)
 term: ∀k,k<=l.length->Dl.Adv l (k+1) (p.term k)
 mulL: ∀x k,k<=l.length->Dl.Adv l k (p.mulL x k)
 factor: ∀k,k<=l.length->Dl.Adv l (k+1) (p.factor k)
 primary: ∀k,k<=l.length->Dl.Adv l (k+1) (p.primary k)
 paren: ∀k,k<=l.length->Dl.Adv l (k+1) (p.paren k)
 assoc: ∀k,k<=l.length->Dl.Adv l (k+1) (p.assoc k)
 assocsL: ∀a k,k<=l.length->Dl.Adv l k (p.assocsL a k)
 choice: ∀k,k<=l.length->Dl.Adv l (k+1) (p.choice k)
 choicesL: ∀a k,k<=l.length->Dl.Adv l k (p.choicesL a k)
 arg: ∀k,k<=l.length->Dl.Adv l (k+1) (p.arg k)
 argsL: ∀a k,k<=l.length->Dl.Adv l k (p.argsL a k)
 name: ∀k,k<=l.length->Dl.Adv l (k+1) (p.name k)
 nameL: ∀i x k,k<=l.length->Dl.Adv l k (p.nameL i x k)
theorem Hi1:(∀o∈Fy,o<22/\o≠0)/\(∀o∈Nw,o<22/\o≠0)/\(∀o∈Hh,o<22/\o≠0)/\(∀o∈Yq,o<22/\o≠0)/\(∀o∈Yr,o<22/\o≠0)/\ ∀o∈Ky,o<22/\o≠0:=by decide
theorem Ed0 {p:PS} (h:p.Adv l) {x:Ex} {kind:Int} {k:Nat} (hk:k<=l.length):Dl.Adv l k (inK l x kind k p):=by
 refine Ca (h.simple k hk) λy n h1 h2=> ?_;split
 ·rename_i hw
  have:=Bf hw h2;refine Ca (h.simple (n+1) (by simpa using this)) λz m h3 h4=>Ht (by omega) h4
 ·split
  ·exact Ht (by omega) h2
  ·exact h2
theorem Er0 {p:PS} (h:p.Adv l):(Bi l p).Adv l where
 expr k hk:=Ca (h.simple k hk) λx n h1 h2=>Ek (h.rest x n h2) (by omega)
 rest x k hk:=Ca (h.relation x k hk) λx n h1 h2=>Ek (h.restL _ x n h2) (by omega)
 restL o x k hk:=by
  dsimp only[Bi]
  split
  ·exact Ht (by omega) hk
  ·obtain⟨D,q2,C,E⟩:=Er (want:=o) Hi1.1 hk
   split
   ·exact Ht (by omega) hk
   ·rename_i hq
    have:=q2 hq
    exact Ca (h.simple _ C) λy n h1 h2=>Ca (h.relation y n h2) λz m h3 h4=>Ek (h.restL _ _ m h4) (by omega)
 relation x k hk:=by
  dsimp only[Bi]
  obtain⟨D,q2,C,E⟩:=Er (want:=0) Hi1.2.1 hk
  split
  ·rename_i hq
   have:=q2 hq
   exact Ca (h.simple _ C) λy n h1 h2=>Ht (by omega) h2
  ·split
   ·rename_i hw
    have:=Bf hw hk
    exact Ek (Ed0 h (by simpa using this)) (by omega)
   ·split
    ·rename_i hw
     have:=Bf hw hk
     exact Ek (Ed0 h (by simpa using this)) (by omega)
    ·exact Ht (by omega) hk
 simple k hk:=by
  obtain⟨D,q2,C,E⟩:=Er (want:=0) Hi1.2.2.1 hk
  exact Ca (h.term _ C) λx n h1 h2=>Ek (h.addL _ n h2) (by omega)
 addL x k hk:=by
  dsimp only[Bi]
  obtain⟨D,q2,C,E⟩:=Er (want:=0) Hi1.2.2.2.1 hk
  split
  ·exact Ht (by omega) hk
  ·exact Ca (h.term _ C) λx n h1 h2=>Ek (h.addL _ n h2) (by omega)
 term k hk:=Ca (h.factor k hk) λx n h1 h2=>Ek (h.mulL _ n h2) (by omega)
 mulL x k hk:=by
  dsimp only[Bi]
  obtain⟨D,q2,C,E⟩:=Er (want:=0) Hi1.2.2.2.2.1 hk
  split
  ·exact Ht (by omega) hk
  ·exact Ca (h.factor _ C) λx n h1 h2=>Ek (h.mulL _ n h2) (by omega)
 factor k hk:=by
  obtain⟨D,q2,C,E⟩:=Er (want:=0) Hi1.2.2.2.2.2 hk
  exact Ca (h.primary _ C) λx n h1 h2=>Ht (by omega) h2
 primary k hk:=by
  dsimp only[Bi]
  split
  ·rename_i hq
   have:=Ry (l:=l) (k:=k) (by rw[hq];decide)
   exact Ht (by omega) this
  ·split
   ·rename_i hw
    have:=Bf hw hk
    exact Ht (by omega) (by simpa using this)
   ·split
    ·exact h.paren k hk
    ·exact h.name k hk
 paren k hk:=by
  dsimp only[Bi]
  refine Qy hk λI=> ?_
  split
  ·rename_i hw
   have:=Bf hw I
   refine Ca (h.expr _ (by simpa using this)) λa J h1 h2=>Qy h2 λh3=>Ca (h.expr _ h3) λb L h4 h5=>Qy h5 λh6=>Ca (h.expr _ h6) λc M h7 h8=>Qy h8 λh9=>Ht (by omega) h9
  ·exact Ca (h.assoc _ I) λa J h1 h2=>Ca (h.assocsL _ _ h2) λaz L h3 h4=>Qy h4 λh5=>Ht (by omega) h5
 assoc k hk:=by
  refine Ca (h.choice k hk) λc n h1 h2=> ?_
  split
  ·exact Ht (by omega) h2
  ·split
   ·exact Qy h2 λh3=>Ca (h.expr _ h3) λe m h4 h5=>Ht (by omega) h5
   ·exact Ca (h.choicesL _ _ h2) λcs m h3 h4=>Qy h4 λh5=>Ca (h.expr _ h5) λe m h6 h7=>Ht (by omega) h7
 assocsL az k hk:=by
  dsimp only[Bi]
  split
  ·rename_i hw
   have:=Bf hw hk
   exact Ca (h.assoc _ (by simpa using this)) λa n h1 h2=>Ek (h.assocsL _ n h2) (by omega)
  ·exact Ht (by omega) hk
 choice k hk:=by
  dsimp only[Bi]
  split
  ·rename_i hw
   have:=Bf hw hk
   exact Ht (by omega) (by simpa using this)
  ·refine Ca (h.simple k hk) λx n h1 h2=> ?_
   split
   ·rename_i hw
    have:=Bf hw h2
    exact Ca (h.simple _ (by simpa using this)) λy m h3 h4=>Ht (by omega) h4
   ·exact Ca (h.rest x n h2) λy m h3 h4=>Ht (by omega) h4
 choicesL az k hk:=by
  dsimp only[Bi]
  split
  ·rename_i hw
   have:=Bf hw hk
   exact Ca (h.choice _ (by simpa using this)) λa n h1 h2=>Ek (h.choicesL _ n h2) (by omega)
  ·exact Ht (by omega) hk
 arg k hk:=by
  dsimp only[Bi]
  split
  ·rename_i hw
   have:=Ry (l:=l) (k:=k) (by rw[hw.1];decide)
   have:=Bf hw.2 this
   exact Ca (h.expr _ (by simpa using this)) λy m h3 h4=>Ht (by omega) h4
  ·exact Ca (h.expr k hk) λy m h3 h4=>Ht (by omega) h4
 argsL az k hk:=by
  dsimp only[Bi]
  split
  ·rename_i hw
   have:=Bf hw hk
   exact Ca (h.arg _ (by simpa using this)) λa n h1 h2=>Ek (h.argsL _ n h2) (by omega)
  ·exact Ht (by omega) hk
 name k hk:=Ba9 hk λh1 s=>h.nameL _ _ _ h1
 nameL i x k hk:=by
  dsimp only[Bi]
  split
  ·rename_i hw
   have:=Bf hw hk
   exact Ek (h.nameL _ _ _ (by simpa using this)) (by omega)
  ·split
   ·rename_i hw
    have:=Bf hw hk
    exact Ba9 (by simpa using this) λh1 s=>Ek (h.nameL _ _ _ h1) (by omega)
   ·split
    ·rename_i hw
     have:=Bf hw hk
     exact Ca (h.arg _ (by simpa using this)) λa n h1 h2=>Ca (h.argsL _ _ h2) λaz m h3 h4=>Qy h4 λh5=>Ek (h.nameL _ _ _ h5) (by omega)
    ·split
     ·rename_i hw
      have:=Bf hw hk
      simp only[jA,jB] at this
      exact Ca (h.paren _ (by omega)) λa n h1 h2=>Ek (h.nameL _ _ _ h2) (by omega)
     ·split
      ·rename_i hw
       have:=Bf hw hk
       exact Ba9 (by simpa using this) λh1 s=>Ek (h.nameL _ _ _ h1) (by omega)
      ·exact Ht (by omega) hk
theorem Jw: ∀n,(P l n).Adv l
 | 0=>by constructor<;>intros<;>trivial
 |n+1=>Er0 (Jw n)
end
end Go.Dl
-- U1
namespace Go.Dl
open Go Go.Proofs
set_option maxRecDepth 100000
mutual
def dEx:Ex->List DVal
 | .mk k o n s l a li en t=> [.int .u8 k,.int .u8 o,.int .i64 n,.str s,.vslice (Co4 l) l.length,.vslice (Db1 a) a.length,.int .i64 li,.int .i64 en,.int .i64 t]
def Co4:List Ex->List DVal
 | []=> []
 |x::l=>dEx x++Co4 l
def dAs:As->List DVal
 | .mk c e=> .vslice (Db2 c) c.length::dEx e
def Db1:List As->List DVal
 | []=> []
 |x::l=>dAs x++Db1 l
def dCh:Ch->List DVal
 | .mk k l=> [.int .u8 k,.vslice (Co4 l) l.length]
def Db2:List Ch->List DVal
 | []=> []
 |x::l=>dCh x++Db2 l
end
theorem Bb0: ∀l:List Ex,Co4 l=l.flatMap dEx
 | []=>rfl
 |x::l=>by rw[Co4,Bb0 l,List.flatMap_cons]
theorem Cg3: ∀l:List As,Db1 l=l.flatMap dAs
 | []=>rfl
 |x::l=>by rw[Db1,Cg3 l,List.flatMap_cons]
theorem Cg4: ∀l:List Ch,Db2 l=l.flatMap dCh
 | []=>rfl
 |x::l=>by rw[Db2,Cg4 l,List.flatMap_cons]
theorem Ys (k o n:Int) (s:List UInt8) (l:List Ex) (a:List As) (li en t:Int):dEx (.mk k o n s l a li en t)= [.int .u8 k,.int .u8 o,.int .i64 n,.str s,.vslice (l.flatMap dEx) l.length,.vslice (a.flatMap dAs) a.length,.int .i64 li,.int .i64 en,.int .i64 t]:=by
 rw[dEx,Bb0,Cg3]
theorem Pc (e:Ex):dEx e= [.int .u8 e.kind,.int .u8 e.oper,.int .i64 e.n,.str e.s,.vslice (e.l.flatMap dEx) e.l.length,.vslice (e.a.flatMap dAs) e.a.length,.int .i64 e.line,.int .i64 e.ent,.int .i64 e.t]:=by
 cases e;rw[Ys];rfl
theorem An8 (x:As):dAs x= .vslice (x.c.flatMap dCh) x.c.length::dEx x.e:=by
 cases x;rw[dAs,Cg4];rfl
theorem An9 (x:Ch):dCh x= [.int .u8 x.kind,.vslice (x.l.flatMap dEx) x.l.length]:=by
 cases x;rw[dCh,Bb0];rfl
theorem Af (e:Ex):(dEx e).length=9:=by rw[Pc];rfl
theorem Cm (e:As):(dAs e).length=10:=by rw[An8,jA,Af]
theorem Cn (e:Ch):(dCh e).length=2:=by rw[An9];rfl
theorem Gm4 (e:Ex):(dEx e).take 9=dEx e:=List.take_of_length_le (by rw[Af];decide)
theorem Hd0 (e:As):(dAs e).take 10=dAs e:=List.take_of_length_le (by rw[Cm];decide)
theorem Hd1 (e:Ch):(dCh e).take 2=dCh e:=List.take_of_length_le (by rw[Cn];decide)
theorem Hd2 (e:Ex):(dEx e).drop 9= []:=List.drop_of_length_le (by rw[Af];decide)
theorem Cd (e:Ex):(dEx e).all (λd=>d.one)=true:=by rw[Pc];rfl
theorem Gf8 (e:As):(dAs e).all (λd=>d.one)=true:=by rw[An8,List.all_cons,Cd];rfl
theorem Ed1 (e:Ch):(dCh e).all (λd=>d.one)=true:=by rw[An9];rfl
theorem Gm5 (e:Ex):(dEx e)[0]? =some (.int .u8 e.kind):=by rw[Pc];rfl
theorem Hd3 (e:Ex):(dEx e)[1]? =some (.int .u8 e.oper):=by rw[Pc];rfl
theorem Hd4 (e:Ex):(dEx e)[2]? =some (.int .i64 e.n):=by rw[Pc];rfl
theorem Hd5 (e:Ex):(dEx e)[3]? =some (.str e.s):=by rw[Pc];rfl
theorem Hd6 (e:Ex):(dEx e)[4]? =some (.vslice (e.l.flatMap dEx) e.l.length):=by rw[Pc];rfl
theorem Hd7 (e:Ex):(dEx e)[5]? =some (.vslice (e.a.flatMap dAs) e.a.length):=by rw[Pc];rfl
theorem Bh2 (e:As):(dAs e)[0]? =some (.vslice (e.c.flatMap dCh) e.c.length):=by rw[An8];rfl
theorem Bh3 (e:As):((dAs e).drop 1).take 9=dEx e.e:=by rw[An8];exact Gm4 _
theorem Ed2 (e:Ch):(dCh e)[0]? =some (.int .u8 e.kind):=by rw[An9];rfl
theorem Bs2 (e:Ch):(dCh e)[1]? =some (.vslice (e.l.flatMap dEx) e.l.length):=by rw[An9];rfl
def dXs (l:List Ex):DVal:= .vslice (l.flatMap dEx) l.length
def dAl (l:List As):DVal:= .vslice (l.flatMap dAs) l.length
def dCl (l:List Ch):DVal:= .vslice (l.flatMap dCh) l.length
attribute [go_sem] Af Cm Cn Gm4 Hd0 Hd1 Hd2 Cd Gf8 Ed1 Gm5 Hd3 Hd4 Hd5 Hd6 Hd7 Bh2 Bh3 Ed2 Bs2 jH
section
variable {G:Nat->DVal} {H:Ab}
theorem Vk (G:Nat->DVal) (H:Ab) (e:Ex):Ad Tryz.prog G 85 [.agg (dEx e)] H (Am (.bool (Bn e)) H):=by
 refine dci Tryz.func85 Tryz.call85 ?_;simp only[go_sem,DVal.cells];intro r hr;by_cases h1:3<=e.kind
 ·simp only[go_sem,h1];exact Dj.dropA r hr (Dj.refl ⟨by rw[Bn,decide_eq_true h1,jS],rfl⟩)
 ·simp only[go_sem,h1];exact Dj.dropA r hr (Dj.refl ⟨by rw[Bn,decide_eq_false h1,jT],rfl⟩)
theorem Bh4 (G:Nat->DVal) (H:Ab) (e:Ex):Ad Tryz.prog G 309 [.agg (dEx e)] H (Am (.bool (Bn e)) H):=by
 refine dci Tryz.func309 Tryz.call309 ?_;simp only[go_sem,DVal.cells];intro r hr;by_cases h3:e.kind=3
 ·simp only[go_sem,h3];exact Dj.dropA r hr (Dj.refl ⟨by rw[Bn,h3];rfl,rfl⟩)
 by_cases h4:e.kind=4
 ·simp(disch:=omega)only[go_sem,h4];exact Dj.dropA r hr (Dj.refl ⟨by rw[Bn,h4];rfl,rfl⟩)
 by_cases h5:e.kind=5
 ·simp(disch:=omega)only[go_sem,h5];exact Dj.dropA r hr (Dj.refl ⟨by rw[Bn,h5];rfl,rfl⟩)
 by_cases h6:e.kind=6
 ·simp(disch:=omega)only[go_sem,h6];exact Dj.dropA r hr (Dj.refl ⟨by rw[Bn,h6];rfl,rfl⟩)
 by_cases h7:e.kind=7
 ·simp(disch:=omega)only[go_sem,h7];exact Dj.dropA r hr (Dj.refl ⟨by rw[Bn,h7];rfl,rfl⟩)
 by_cases h8:e.kind=8
 ·simp(disch:=omega)only[go_sem,h8];exact Dj.dropA r hr (Dj.refl ⟨by rw[Bn,h8];rfl,rfl⟩)
 ·simp only[go_sem,h3,h4,h5,h6,h7,h8];refine Dj.dropA r hr (Dj.refl ⟨?_,rfl⟩);rw[Bn,<-Bool.decide_and,decide_eq_false (by omega)]
end
mutual
def Ej:Ex->Nat
 | .mk _ _ _ _ l a _ _ _=>1+He l+El a
def He:List Ex->Nat
 | []=>0
 |x::l=>Ej x+He l
def Us:As->Nat
 | .mk c e=>Gq c+Ej e
def El:List As->Nat
 | []=>0
 |x::l=>Us x+El l
def Ak5:Ch->Nat
 | .mk _ l=>1+He l
def Gq:List Ch->Nat
 | []=>0
 |x::l=>Ak5 x+Gq l
end
theorem Db3 (e:Ex):1<=Ej e:=by cases e;rw[Ej];omega
theorem Fk4 (a:As):1<=Us a:=by cases a;rw[Us];have:=Db3 (‹Ex›);omega
theorem Fk5 (c:Ch):1<=Ak5 c:=by cases c;rw[Ak5];omega
theorem Yt (e:Ex):Ej e=1+He e.l+El e.a:=by cases e;rw[Ej];rfl
theorem Sh (a:As):Us a=Gq a.c+Ej a.e:=by cases a;rw[Us];rfl
theorem Nm (c:Ch):Ak5 c=1+He c.l:=by cases c;rw[Ak5];rfl
theorem Ww: ∀ {l:List Ex} {x:Ex},x∈l->Ej x<=He l
 |y::l,x,h=>by
  rw[He];rcases List.mem_cons.1 h with rfl|h
  ·omega
  ·have:=Ww h;omega
theorem Ai5: ∀ {l:List As} {x:As},x∈l->Us x<=El l
 |y::l,x,h=>by
  rw[El];rcases List.mem_cons.1 h with rfl|h
  ·omega
  ·have:=Ai5 h;omega
theorem Mi: ∀ {l:List Ch} {x:Ch},x∈l->Ak5 x<=Gq l
 |y::l,x,h=>by
  rw[Gq];rcases List.mem_cons.1 h with rfl|h
  ·omega
  ·have:=Mi h;omega
theorem Lm: ∀l:List Ex,l.length<=He l
 | []=>Nat.le_refl _
 |x::l=>by rw[He,jA];have:=Lm l;have:=Db3 x;omega
theorem Ai6: ∀l:List As,l.length<=El l
 | []=>Nat.le_refl _
 |x::l=>by rw[El,jA];have:=Ai6 l;have:=Fk4 x;omega
theorem Mj: ∀l:List Ch,l.length<=Gq l
 | []=>Nat.le_refl _
 |x::l=>by rw[Gq,jA];have:=Mj l;have:=Fk5 x;omega
theorem Ed3 {e:Ex}:e.l.length<=Ej e:=by have:=Lm e.l;rw[Yt];omega
theorem Ed4 {e:Ex}:e.a.length<=Ej e:=by have:=Ai6 e.a;rw[Yt];omega
theorem Gv2 {e x:Ex} (h:x∈e.l):Ej x<Ej e:=by have:=Ww h;rw[Yt e];omega
theorem Bs3 {e:Ex} {a:As} (h:a∈e.a):Us a<Ej e:=by have:=Ai5 h;rw[Yt e];omega
theorem Gf9 (G:Nat->DVal) (H:Ab) (p:Ex->Bool) (l:List Ex) (g:FuncId) (xs ys:List DVal) (hl:l.length<=1099511627776)
  (hp: ∀x∈l,Ad Tryz.prog G g (xs++ [.agg (dEx x)]++ys) H (Am (.bool (p x)) H)):
  Ad Tryz.prog G 186 [.vslice (l.flatMap dEx) l.length,.func (.func g) xs ys] H (Am (dI (Bk5 p l)) H):=by
 refine dci Tryz.func186 Tryz.call186 ?_;simp only[go_sem];refine Ea9.run (λ(i:Nat) env heap=>heap=H/\env 0= .vslice (l.flatMap dEx) l.length/\env 1= .func (.func g) xs ys/\env 7=dI l.length/\env 8=dI i/\i<=l.length/\ ∀x∈l.take i,p x=false) (λi=>l.length-i) 0 ?_ ?_
 ·simp only[go_sem];simp
 ·rintro i env heap ⟨rfl,h0,h1,h7,h8,hi,hn⟩;by_cases y:i<l.length
  ·have C:=Bh Af l i y;simp(disch:=omega)only[go_sem,h0,h1,h7,h8,C,Ak Af];have hc:=hp l[i] (List.getElem_mem y)
   skip
   refine hc.mono ?_;rintro _ H ⟨rfl,rfl⟩;cases hx:p l[i] with
   |true=>
    simp only[go_sem];exact Dj.refl ⟨by rw[Ai1 y hx hn],rfl⟩
   |false=>
    simp only[go_sem,h8];refine⟨i+1,_,Rn.refl _, ?_,by omega⟩;simp(disch:=omega)only[go_sem,h0,h1,h7];(repeat' apply And.intro)<;>(try first|rfl|assumption|omega);exact Jm y hn hx
  ·simp(disch:=omega)only[go_sem,h7,h8];(have:i=l.length:=by omega);subst this;rw[List.take_length] at hn;exact Dj.refl ⟨by rw[Ai2 hn],rfl⟩
theorem Ao0 (G:Nat->DVal) (H:Ab) (p:Ex->Bool) (l:List Ex) (g:FuncId) (xs ys:List DVal) (hl:l.length<=1099511627776)
  (hp: ∀x∈l,Ad Tryz.prog G g (xs++ [.agg (dEx x)]++ys) H (Am (.bool (p x)) H)):
  Ad Tryz.prog G 76 [.vslice (l.flatMap dEx) l.length,.func (.func g) xs ys] H (Am (.bool (l.any p)) H):=by
 refine dci Tryz.func76 Tryz.call76 ?_;simp only[go_sem];refine(Gf9 G H p l g xs ys hl hp).mono ?_;rintro _ H ⟨rfl,rfl⟩;simp only[go_sem];exact Dj.refl ⟨by rw[Wr],rfl⟩
theorem Gg0 (G:Nat->DVal) (H:Ab) (p:As->Bool) (l:List As) (g:FuncId) (xs ys:List DVal) (hl:l.length<=1099511627776)
  (hp: ∀x∈l,Ad Tryz.prog G g (xs++ [.agg (dAs x)]++ys) H (Am (.bool (p x)) H)):
  Ad Tryz.prog G 298 [.vslice (l.flatMap dAs) l.length,.func (.func g) xs ys] H (Am (dI (Bk5 p l)) H):=by
 refine dci Tryz.func298 Tryz.call298 ?_;simp only[go_sem];refine Ea9.run (λ(i:Nat) env heap=>heap=H/\env 0= .vslice (l.flatMap dAs) l.length/\env 1= .func (.func g) xs ys/\env 7=dI l.length/\env 8=dI i/\i<=l.length/\ ∀x∈l.take i,p x=false) (λi=>l.length-i) 0 ?_ ?_
 ·simp only[go_sem];simp
 ·rintro i env heap ⟨rfl,h0,h1,h7,h8,hi,hn⟩;by_cases y:i<l.length
  ·have C:=Bh Cm l i y;simp(disch:=omega)only[go_sem,h0,h1,h7,h8,C,Ak Cm];have hc:=hp l[i] (List.getElem_mem y)
   skip
   refine hc.mono ?_;rintro _ H ⟨rfl,rfl⟩;cases hx:p l[i] with
   |true=>
    simp only[go_sem];exact Dj.refl ⟨by rw[Ai1 y hx hn],rfl⟩
   |false=>
    simp only[go_sem,h8];refine⟨i+1,_,Rn.refl _, ?_,by omega⟩;simp(disch:=omega)only[go_sem,h0,h1,h7];(repeat' apply And.intro)<;>(try first|rfl|assumption|omega);exact Jm y hn hx
  ·simp(disch:=omega)only[go_sem,h7,h8];(have:i=l.length:=by omega);subst this;rw[List.take_length] at hn;exact Dj.refl ⟨by rw[Ai2 hn],rfl⟩
theorem Dr3 (G:Nat->DVal) (H:Ab) (p:As->Bool) (l:List As) (g:FuncId) (xs ys:List DVal) (hl:l.length<=1099511627776)
  (hp: ∀x∈l,Ad Tryz.prog G g (xs++ [.agg (dAs x)]++ys) H (Am (.bool (p x)) H)):
  Ad Tryz.prog G 255 [.vslice (l.flatMap dAs) l.length,.func (.func g) xs ys] H (Am (.bool (l.any p)) H):=by
 refine dci Tryz.func255 Tryz.call255 ?_;simp only[go_sem];refine(Gg0 G H p l g xs ys hl hp).mono ?_;rintro _ H ⟨rfl,rfl⟩;simp only[go_sem];exact Dj.refl ⟨by rw[Wr],rfl⟩
theorem Gg1 (G:Nat->DVal) (H:Ab) (p:Ch->Bool) (l:List Ch) (g:FuncId) (xs ys:List DVal) (hl:l.length<=1099511627776)
  (hp: ∀x∈l,Ad Tryz.prog G g (xs++ [.agg (dCh x)]++ys) H (Am (.bool (p x)) H)):
  Ad Tryz.prog G 185 [.vslice (l.flatMap dCh) l.length,.func (.func g) xs ys] H (Am (dI (Bk5 p l)) H):=by
 refine dci Tryz.func185 Tryz.call185 ?_;simp only[go_sem];refine Ea9.run (λ(i:Nat) env heap=>heap=H/\env 0= .vslice (l.flatMap dCh) l.length/\env 1= .func (.func g) xs ys/\env 7=dI l.length/\env 8=dI i/\i<=l.length/\ ∀x∈l.take i,p x=false) (λi=>l.length-i) 0 ?_ ?_
 ·simp only[go_sem];simp
 ·rintro i env heap ⟨rfl,h0,h1,h7,h8,hi,hn⟩;by_cases y:i<l.length
  ·have C:=Bh Cn l i y;simp(disch:=omega)only[go_sem,h0,h1,h7,h8,C,Ak Cn];have hc:=hp l[i] (List.getElem_mem y)
   skip
   refine hc.mono ?_;rintro _ H ⟨rfl,rfl⟩;cases hx:p l[i] with
   |true=>
    simp only[go_sem];exact Dj.refl ⟨by rw[Ai1 y hx hn],rfl⟩
   |false=>
    simp only[go_sem,h8];refine⟨i+1,_,Rn.refl _, ?_,by omega⟩;simp(disch:=omega)only[go_sem,h0,h1,h7];(repeat' apply And.intro)<;>(try first|rfl|assumption|omega);exact Jm y hn hx
  ·simp(disch:=omega)only[go_sem,h7,h8];(have:i=l.length:=by omega);subst this;rw[List.take_length] at hn;exact Dj.refl ⟨by rw[Ai2 hn],rfl⟩
theorem Bs4 (G:Nat->DVal) (H:Ab) (p:Ch->Bool) (l:List Ch) (g:FuncId) (xs ys:List DVal) (hl:l.length<=1099511627776)
  (hp: ∀x∈l,Ad Tryz.prog G g (xs++ [.agg (dCh x)]++ys) H (Am (.bool (p x)) H)):
  Ad Tryz.prog G 74 [.vslice (l.flatMap dCh) l.length,.func (.func g) xs ys] H (Am (.bool (l.any p)) H):=by
 refine dci Tryz.func74 Tryz.call74 ?_;simp only[go_sem];refine(Gg1 G H p l g xs ys hl hp).mono ?_;rintro _ H ⟨rfl,rfl⟩;simp only[go_sem];exact Dj.refl ⟨by rw[Wr],rfl⟩
theorem Bb1: ∀ {l:List As},Nd l=true↔ ∀i (h:i+1<l.length),(l[i].c.isEmpty || !l[i+1].c.isEmpty)=true
 | []=>⟨λ_ i h=>absurd h (by simp),λ_=>rfl⟩
 | [a]=>⟨λ_ i h=>absurd h (by simp),λ_=>rfl⟩
 |a::b::r=>by
  rw[Nd,jF,Bb1 (l:=b::r)];constructor
  ·rintro⟨h1,h2⟩ i h;cases i with
   |zero=>exact h1
   |succ i=>exact h2 i (by simpa using h)
  ·intro h;exact⟨h 0 (by simp),λi hi=>h (i+1) (by simpa using hi)⟩
theorem Al {α:Type} (l:List α):l.isEmpty=decide (l.length=0):=by cases l<;>rfl
def Cg5 (a b:As):Int:=(if(a.c.length:Int)<1 then(a.c.length:Int) else 1)-(if(b.c.length:Int)<1 then(b.c.length:Int) else 1)
section
variable {G:Nat->DVal} {H:Ab}
theorem Cc5 (G:Nat->DVal) (H:Ab) (a b:As):Ad Tryz.prog G 297 [.agg (dAs a),.agg (dAs b)] H (Am (dI (Cg5 a b)) H):=by
 have hw:IntKind.i64.wrap ((if(a.c.length:Int)<1 then(a.c.length:Int) else 1)-(if(b.c.length:Int)<1 then(b.c.length:Int) else 1))=Cg5 a b:=by unfold Cg5;rw[IntKind.wrap_i64];split<;>split<;>omega
 refine dci Tryz.func297 Tryz.call297 ?_;simp only[go_sem,DVal.cells];intro D E;simp only[go_sem,DVal.cells];intro I y;obtain⟨J,C,L⟩:=Aq.1 y;simp only[go_sem,C,hw];exact Dj.sub (show Sub H _ from(by repeat (first|exact Sub.refl _|assumption|refine Sub.up ?_ (by assumption) _))) (Dj.refl ⟨rfl,rfl⟩)
theorem Cc6 (G:Nat->DVal) (H:Ab) (l:List As) (hl:l.length<=1099511627776):
  Ad Tryz.prog G 296 [.vslice (l.flatMap dAs) l.length,.func (.func 297) [] []] H (Am (.bool (Nd l)) H):=by
 have hw:IntKind.i64.wrap ((l.length:Int)-1)=(l.length:Int)-1:=by rw[IntKind.wrap_i64];omega
 refine dci Tryz.func296 Tryz.call296 ?_;simp only[go_sem,hw];refine Ea9.run (λ(j:Nat) env heap=>heap=H/\env 0= .vslice (l.flatMap dAs) l.length/\env 1= .func (.func 297) [] []/\env 5=dI ((j:Int)-1)/\j<=l.length/\ ∀i (_:j<=i+1) (h:i+1<l.length),(l[i].c.isEmpty || !l[i+1].c.isEmpty)=true) (λj=>j) l.length ?_ ?_
 ·simp only[go_sem];(repeat' apply And.intro)<;>(try first|rfl|assumption|omega)
 ·rintro j env heap ⟨rfl,h0,h1,h5,hj,hn⟩;by_cases L:1<j
  ·obtain⟨i,rfl⟩: ∃i,j=i+2:=⟨j-2,by omega⟩;(have D:((i+2:Nat):Int)-1=((i+1:Nat):Int):=by omega);have E:=Bh Cm l (i+1) (by omega);have I:=Bh Cm l i (by omega);rw[D] at h5;(have y:IntKind.i64.wrap (((i+1:Nat):Int)-1)=(i:Int):=by rw[IntKind.wrap_i64];omega);simp(disch:=omega)only[go_sem,h5];refine An (.take 0 (.take 1 (.take 2 (.take 3 (.take 4 (.take 5 (.take 6 (.take 7 (.take 8 (.take 9 (.go 10 [] (.take 11 .done)))))))))))) ?_;simp(disch:=omega)only[go_sem,h0,h1,h5,E,I,y,Ak Cm];refine(Cc5 G _ l[i+1] l[i]).mono ?_;rintro _ H ⟨rfl,rfl⟩;by_cases c:Cg5 l[i+1] l[i]<0
   ·simp only[go_sem,c];refine Dj.refl ⟨?_,rfl⟩;have:Nd l=false:=by
     rw[<-Bool.not_eq_true,Bb1];intro h;have:=h i (by omega);rw[Al,Al,Bool.or_eq_true,Bool.not_eq_true',decide_eq_true_eq,decide_eq_false_iff_not] at this;unfold Cg5 at c;split at c<;>split at c<;>omega
    rw[this]
   ·simp only[go_sem,h5,y,c];refine⟨i+1,_,Rn.refl _, ?_,by omega⟩;simp only[go_sem,h0,h1];(repeat' apply And.intro)<;>(try first|rfl|assumption|omega)
    ·rw[show((i+1:Nat):Int)-1=i by omega]
    intro C M J;by_cases e:C=i
    ·subst e;rw[Al,Al,Bool.or_eq_true,Bool.not_eq_true',decide_eq_true_eq,decide_eq_false_iff_not];unfold Cg5 at c;split at c<;>split at c<;>omega
    ·exact hn C (by omega) J
  ·(have: ¬(0:Int)<(j:Int)-1:=by omega);simp only[go_sem,h5,this];refine Dj.refl ⟨?_,rfl⟩;rw[Bb1.2 λi h=>hn i (by omega) h]
theorem At8 (G:Nat->DVal) (H:Ab) (l:List As) (hl:l.length<=1099511627776):Ad Tryz.prog G 254 [.vslice (l.flatMap dAs) l.length] H (Am (.bool (Nd l)) H):=by
 refine dci Tryz.func254 Tryz.call254 ?_;simp only[go_sem];refine(Cc6 G _ l hl).mono ?_;rintro _ H1 ⟨rfl,rfl⟩;simp only[go_sem];exact Dj.refl ⟨rfl,rfl⟩
theorem Bs5 (G:Nat->DVal) (H:Ab) (e:Ex) (k:Nat) (hk:0<k):Ad Tryz.prog G 179 [.agg (dEx e),.int .i64 k] H (Am (.bool (Je e k)) H):=by
 refine dci Tryz.func179 Tryz.call179 ?_;simp only[go_sem,DVal.cells];intro r hr;by_cases h1:e.l.length=k
 ·have y:(e.l.length:Int)=(k:Int):=by omega
  have hp:0<e.l.length:=by omega
  have hg:=Bh Af e.l 0 hp;have hfl:=Ak Af e.l;have C:e.l.getD 0 ex0=e.l[0]:=by rw[List.getD,List.getElem?_eq_getElem hp];rfl
  rw[Nat.zero_mul,jJ] at hg;simp(disch:=omega)only[go_sem,y,hfl,hg];refine(Vk G _ e.l[0]).mono ?_;rintro _ H1 ⟨rfl,rfl⟩;simp only[go_sem];exact Dj.dropA r hr (Dj.refl ⟨by rw[Je,decide_eq_true h1,jS,C],rfl⟩)
 ·have y: ¬(e.l.length:Int)=(k:Int):=by omega
  simp only[go_sem,y];exact Dj.dropA r hr (Dj.refl ⟨by rw[Je,decide_eq_false h1,jT],rfl⟩)
end
theorem ch0 {l:List Ch} (h:0<l.length):(l.flatMap dCh)[0]? =some (.int .u8 l[0].kind)/\(l.flatMap dCh)[1]? =some (.vslice (l[0].l.flatMap dEx) l[0].l.length):=by
 have h0:=Bz Cn l 0 h 0 (by decide);have h1:=Bz Cn l 0 h 1 (by decide);rw[Ed2] at h0;rw[Bs2] at h1;exact⟨by simpa using h0,by simpa using h1⟩
theorem Hd8 {l:List Ex} (h:0<l.length):(l.flatMap dEx)[0]? =some (.int .u8 l[0].kind):=by
 have h0:=Bz Af l 0 h 0 (by decide);rw[Gm5] at h0;simpa using h0
section
variable {G:Nat->DVal} {H:Ab}
theorem Db4 (G:Nat->DVal) (H:Ab) (l:List Ch):Ad Tryz.prog G 257 [.vslice (l.flatMap dCh) l.length] H (Am (.bool (Ce l)) H):=by
 have hfl:=Ak Cn l;refine dci Tryz.func257 Tryz.call257 ?_;by_cases h1:l.length=1
 ·have E:(l.length:Int)=1:=by omega
  obtain⟨y,C⟩:=ch0 (l:=l) (by omega);obtain⟨c,rfl⟩:=List.length_eq_one_iff.1 h1;rw[List.getElem_cons_zero] at y C;by_cases h2:c.kind=1
  ·by_cases h3:c.l.length=1
   ·(have D:(c.l.length:Int)=1:=by omega);have I:=Hd8 (l:=c.l) (by omega);have J:=Ak Af c.l;obtain⟨x,hx⟩:=List.length_eq_one_iff.1 h3;(have e:c.l[0]=x:=by simp [hx]);rw[e] at I;(have hs:Ce [c]=decide (x.kind=3):=by simp [Ce,h2,hx]);simp(disch:=omega)only[go_sem,hfl,y,C,h2,D,I,J];exact Dj.refl ⟨by rw[hs],rfl⟩
   ·(have D: ¬(c.l.length:Int)=1:=by omega);have hs:Ce [c]=false:=by
     rw[Ce];split
     ·rename_i hx;rw[hx] at h3;simp at h3
     ·simp
    simp(disch:=omega)only[go_sem,hfl,y,C,h2,D];exact Dj.refl ⟨by rw[hs],rfl⟩
  ·simp(disch:=omega)only[go_sem,hfl,y,h2];exact Dj.refl ⟨by simp [Ce,h2],rfl⟩
 ·have E: ¬(l.length:Int)=1:=by omega
  have hs:Ce l=false:=by
   unfold Ce;split
   ·simp at h1
   ·rfl
  simp only[go_sem,E];exact Dj.refl ⟨by rw[hs],rfl⟩
theorem Bk6 (G:Nat->DVal) (H:Ab) (a:As):Ad Tryz.prog G 256 [.agg (dAs a)] H (Am (.bool (!(a.c.isEmpty || Ce a.c))) H):=by
 refine dci Tryz.func256 Tryz.call256 ?_;simp only[go_sem,DVal.cells];intro r hr;by_cases h1:0<a.c.length
 ·have y:(0:Int)<(a.c.length:Int):=by omega
  have he:a.c.isEmpty=false:=by rw[Al];exact decide_eq_false (by omega)
  simp only[go_sem,y];refine(Db4 G _ a.c).mono ?_;rintro _ H1 ⟨rfl,rfl⟩;simp only[go_sem];exact Dj.dropA r hr (Dj.refl ⟨by rw[he,Bool.false_or],rfl⟩)
 ·have y: ¬(0:Int)<(a.c.length:Int):=by omega
  have he:a.c.isEmpty=true:=by rw[Al];exact decide_eq_true (by omega)
  simp only[go_sem,y];exact Dj.dropA r hr (Dj.refl ⟨by rw[he];rfl,rfl⟩)
theorem Vl {α:Type} (p:α->Bool) (l:List α):l.any (λx=>!p x)=!l.all p:=by
 induction l with
 |nil=>rfl
 |cons x l ih=>rw[List.any_cons,List.all_cons,ih,Bool.not_and]
theorem Bs6 (G:Nat->DVal) (H:Ab) (l:List As) (hl:l.length<=1099511627776):Ad Tryz.prog G 180 [.vslice (l.flatMap dAs) l.length] H (Am (.bool (Jn l)) H):=by
 refine dci Tryz.func180 Tryz.call180 ?_;by_cases h1:0<l.length
 ·have y:(0:Int)<(l.length:Int):=by omega
  by_cases h2:l.length<=8
  ·(have C:(l.length:Int)<=8:=by omega);simp only[go_sem,y,C];refine(At8 G _ l hl).mono ?_;rintro _ H1 ⟨rfl,rfl⟩;cases h3:Nd l with
   |false=>
    simp only[go_sem];exact Dj.refl ⟨by rw[Jn,h3,Bool.and_false,jT],rfl⟩
   |true=>
    simp only[go_sem];refine(Dr3 G _ (λa=>!(a.c.isEmpty || Ce a.c)) l 256 [] [] hl λx _=>Bk6 G _ x).mono ?_;rintro _ H1 ⟨rfl,rfl⟩;rw[Vl];simp only[go_sem];exact Dj.refl ⟨by rw[Jn,h3,decide_eq_true h1,decide_eq_true h2,jS,jS,jS,Bool.not_not],rfl⟩
  ·(have C: ¬(l.length:Int)<=8:=by omega);simp only[go_sem,y,C];exact Dj.refl ⟨by rw[Jn,decide_eq_false h2,Bool.and_false,jT,jT],rfl⟩
 ·have y: ¬(0:Int)<(l.length:Int):=by omega
  simp only[go_sem,y];exact Dj.refl ⟨by rw[Jn,decide_eq_false h1,jT,jT,jT],rfl⟩
def Ao1:List (DVal×DVal):= [(.int .u8 1,.int .i64 1),(.int .u8 2,.int .i64 2),(.int .u8 3,.int .i64 0)]
theorem Db5 (G:Nat->DVal) (H:Ab) (n:Nat) (l:List Ch) (c:Ch) (J L M:Nat) (h1:H J=some (.cells [.vslice (l.flatMap dCh) l.length] 41)) (hm:H L=some (.map Ao1)) (h3:H M=some (.cells [.omap L] 236)):
  Ad Tryz.prog G 184 ([]++ [.agg (dCh c)]++ [.optr M 0,.optr J 0]) H (Am (.bool (!Cv l.length c)) H):=by
 refine dci Tryz.func184 Tryz.call184 ?_;simp only[go_sem,DVal.cells,jG,jI];intro r hr;have O:J≠r:=Ac hr h1;have E:M≠r:=Ac hr h3;have I:L≠r:=Ac hr hm;by_cases k1:c.kind=1
 ·simp only[go_sem,E,I,hm,h3,k1,Ao1];refine⟨_,rfl, ?_⟩;by_cases q:c.l.length=1
  ·(have y:(c.l.length:Int)=1:=by omega);simp(disch:=omega)only[go_sem,k1,y];exact Dj.dropA r hr (Dj.refl ⟨by simp [Cv,k1,q],rfl⟩)
  ·(have y: ¬(1:Int)=(c.l.length:Int):=by omega);simp only[go_sem,y];exact Dj.dropA r hr (Dj.refl ⟨by simp [Cv,k1,q],rfl⟩)
 by_cases C:c.kind=2
 ·simp only[go_sem,E,I,hm,h3,C,Ao1];refine⟨_,rfl, ?_⟩;by_cases q:c.l.length=2
  ·(have y:(c.l.length:Int)=2:=by omega);simp(disch:=omega)only[go_sem,C,y];exact Dj.dropA r hr (Dj.refl ⟨by simp [Cv,C,q],rfl⟩)
  ·(have y: ¬(2:Int)=(c.l.length:Int):=by omega);simp only[go_sem,y];exact Dj.dropA r hr (Dj.refl ⟨by simp [Cv,C,q],rfl⟩)
 by_cases D:c.kind=3
 ·simp only[go_sem,E,I,hm,h3,D,Ao1];refine⟨_,rfl, ?_⟩;by_cases q:c.l.length=0
  ·(have y:(c.l.length:Int)=0:=by omega);simp only[go_sem,O,h1,D,y];refine Dj.dropA r hr (Dj.refl ⟨?_,rfl⟩);(have e:Cv l.length c=decide (l.length<=1):=by simp [Cv,D,q]);by_cases q2:l.length<=1
   ·rw[e,decide_eq_true q2,decide_eq_false (show¬(1:Int)<(l.length:Int) by omega)];rfl
   ·rw[e,decide_eq_false q2,decide_eq_true (show(1:Int)<(l.length:Int) by omega)];rfl
  ·(have y: ¬(0:Int)=(c.l.length:Int):=by omega);simp only[go_sem,y];exact Dj.dropA r hr (Dj.refl ⟨by simp [Cv,D,q],rfl⟩)
 ·simp only[go_sem,E,I,hm,h3,k1,C,D,Ao1];exact Dj.dropA r hr (Dj.refl ⟨by simp [Cv,k1,C,D],rfl⟩)
theorem Ao2 (G:Nat->DVal) (H:Ab) (l:List Ch) (hl:l.length<=1099511627776):Ad Tryz.prog G 73 [.vslice (l.flatMap dCh) l.length] H (Am (.bool (Cl l)) H):=by
 refine dci Tryz.func73 Tryz.call73 ?_;simp only[go_sem,DVal.cells];intro E U;simp only[go_sem];intro I O;obtain⟨X,y,Y⟩:=Aq.1 O;simp(disch:=omega)only[go_sem,DVal.cells];intro J S;obtain⟨Z,V,W⟩:=Aq.1 S;obtain⟨p3,C,aa⟩:=Aq.1 W;have L:Sub H (upd (upd (upd H E (some (.cells [.vslice (l.flatMap dCh) l.length] 41))) I (some (.map Ao1))) J (some (.cells [.omap I] 236))):=((Sub.refl H).new U _ |>.new O _).new S _;by_cases h1:0<l.length
 ·have D:(0:Int)<(l.length:Int):=by omega
  by_cases h2:l.length<=16
  ·(have M:(l.length:Int)<=16:=by omega);simp only[go_sem,y,C,D,M];refine(Bs4 G _ (λc=>!Cv l.length c) l 184 [] [.optr J 0,.optr E 0] hl λx _=>Db5 G _ l.length l x E I J (by simp [upd,y,C]) (by simp [upd,V,Ao1]) (by simp [upd])).mono ?_;rintro _ H1 ⟨rfl,rfl⟩;rw[Vl];simp only[go_sem];exact Dj.sub L (Dj.refl ⟨by rw[Cl,decide_eq_true h1,decide_eq_true h2,jS,jS,Bool.not_not],rfl⟩)
  ·(have M: ¬(l.length:Int)<=16:=by omega);simp only[go_sem,y,C,D,M];exact Dj.sub L (Dj.refl ⟨by rw[Cl,decide_eq_false h2,Bool.and_false,jT],rfl⟩)
 ·have D: ¬(0:Int)<(l.length:Int):=by omega
  simp only[go_sem,y,C,D];exact Dj.sub L (Dj.refl ⟨by rw[Cl,decide_eq_false h1,jT,jT],rfl⟩)
end
theorem Pd {l:List Ch} (h:0<l.length):Oi l=decide (l[0].kind=3):=by
 cases l with
 |nil=>simp at h
 |cons c l=>rfl
theorem Yu {l:List As} {k:Nat} (hk:k<l.length):Fo (l.drop k)=((l[k].c.isEmpty || Cl l[k].c&&(!Oi l[k].c || decide (k+1=l.length)))&&Fo (l.drop (k+1))):=by
 rw[List.drop_eq_getElem_cons hk,Fo,Al (l.drop (k+1)),List.length_drop];have:(l.length-(k+1)=0)↔k+1=l.length:=by omega
 simp only[this]
theorem Bh5 {l:List As}:Vi l=(decide (l.length=1)&&(l.getD 0 default).c.isEmpty):=
 match l with
 | []=>rfl
 | [a]=>by simp [Vi]
 |a::b::l=>by simp [Vi]
theorem as0 {l:List As} (h:0<l.length):(l.flatMap dAs)[0]? =some (.vslice (l[0].c.flatMap dCh) l[0].c.length):=by
 have h0:=Bz Cm l 0 h 0 (by decide);rw[Bh2] at h0;simpa using h0
section
variable {G:Nat->DVal} {H:Ab}
theorem At9 (G:Nat->DVal) (H:Ab) (l:List As) (hl:l.length<=1099511627776) (hb: ∀a∈l,a.c.length<=1099511627776):Ad Tryz.prog G 181 [.vslice (l.flatMap dAs) l.length] H (Am (.bool (Fx l)) H):=by
 refine dci Tryz.func181 Tryz.call181 ?_;by_cases h1:l.length=0
 ·have aa:(l.length:Int)=0:=by omega
  simp only[go_sem,aa];exact Dj.refl ⟨by rw[Fx,decide_eq_false (show¬0<l.length by omega),jT,jT,jT,jT],rfl⟩
 have aa: ¬(l.length:Int)=0:=by omega
 have ab:0<l.length:=by omega
 by_cases h2:32<l.length
 ·have ac:(32:Int)<(l.length:Int):=by omega
  simp only[go_sem,aa,ac];exact Dj.refl ⟨by rw[Fx,decide_eq_false (show¬l.length<=32 by omega),Bool.and_false,jT,jT,jT],rfl⟩
 have ac: ¬(32:Int)<(l.length:Int):=by omega
 simp only[go_sem,aa,ac];refine(At8 G _ l hl).mono ?_;rintro _ H1 ⟨rfl,rfl⟩;have hd:Fx l=(Nd l&&(!(decide (l.length=1)&&(l.getD 0 default).c.isEmpty)&&Fo l)):=by
  rw[Fx,decide_eq_true ab,decide_eq_true (show l.length<=32 by omega),jS,jS,Bh5,Bool.and_assoc]
 rw[hd];cases h3:Nd l with
 |false=>
  simp only[go_sem];exact Dj.refl ⟨rfl,rfl⟩
 |true=>
  have ai:=as0 ab;have aj:l.getD 0 default=l[0]:=by rw[List.getD,List.getElem?_eq_getElem ab];rfl
  have hfl:=Ak Cm l;rw[aj];by_cases h4:l.length=1/\l[0].c.length=0
  ·(have ak:(l.length:Int)=1:=by omega);(have al:(l[0].c.length:Int)=0:=by omega);(have e4:l[0].c.isEmpty=true:=by rw[Al];exact decide_eq_true h4.2);simp(disch:=omega)only[go_sem,ak,al,ai,hfl];exact Dj.refl ⟨by simp [e4],rfl⟩
  ·have e4:(decide (l.length=1)&&l[0].c.isEmpty)=false:=by
    rw[Al,<-Bool.decide_and];exact decide_eq_false h4
   rw[e4];by_cases h5:l.length=1
   ·have ad:((l.length:Int)=1)=True:=eq_true (by omega);(have am: ¬(l[0].c.length:Int)=0:=by omega);simp(disch:=omega)only[go_sem,ad,am,ai,hfl];obtain⟨I,D⟩: ∃I:Nat->(Nat->DVal)->Ab->Prop,∀k env heap,I k env heap↔(env 0= .vslice (l.flatMap dAs) l.length/\env 31= .vslice (l.flatMap dAs) l.length/\env 32=dI l.length/\env 33=dI k/\k<=l.length/\Fo l=Fo (l.drop k)/\Sub H1 heap):=⟨_,λ_ _ _=>Iff.rfl⟩;refine Ea9.run I (λk=>l.length-k) 0 ((D _ _ _).2 ?_) ?_
    ·simp only[go_sem];(repeat' apply And.intro)<;>(try first|rfl|assumption|omega);exact Sub.refl _
    ·intro k env heap hi;obtain⟨E,S,J,L,hk,y,C⟩:=(D _ _ _).1 hi;by_cases U:k<l.length
     ·(have ae:(k:Int)<(l.length:Int):=by omega);have af:=Bh Cm l k U;(have ag:IntKind.i64.wrap ((k:Int)+1)=((k+1:Nat):Int):=by rw[IntKind.wrap_i64];omega);(have Z:IntKind.i64.wrap ((l.length:Int)-1)=(l.length:Int)-1:=by rw[IntKind.wrap_i64];omega);have ah:=hb l[k] (List.getElem_mem U);rw[Yu U] at y;simp(disch:=omega)only[go_sem,S,J,L,ae,af,hfl,jD];intro r4 M;by_cases q1:0<l[k].c.length
      ·(have V:(0:Int)<(l[k].c.length:Int):=by omega);(have e1:l[k].c.isEmpty=false:=by rw[Al];exact decide_eq_false (by omega));rw[e1,Bool.false_or] at y;simp only[go_sem,V];refine(Ao2 G _ l[k].c ah).mono ?_;rintro _ H2 ⟨rfl,rfl⟩;cases q2:Cl l[k].c with
       |false=>
        rw[q2,jT,jT] at y;simp only[go_sem];exact Dj.sub (C.new M _) (Dj.refl ⟨by rw[y],rfl⟩)
       |true=>
        obtain⟨W,_⟩:=ch0 q1;have X:=Ak Cn l[k].c;rw[q2,jS,Pd q1] at y;by_cases O:l[k].c[0].kind=3
        ·rw[decide_eq_true O,Bool.not_true,Bool.false_or] at y;by_cases q4:k+1=l.length
         ·(have Y: ¬(k:Int)<(l.length:Int)-1:=by omega);rw[decide_eq_true q4,jS] at y;simp(disch:=omega)only[go_sem,E,L,W,X,O,Y,Z];refine⟨k+1,_,Rn.refl _,(D _ _ _).2 ?_,by omega⟩;simp only[go_sem,E,S,J];(repeat' apply And.intro)<;>(try first|rfl|assumption|omega);all_goals exact C.new M _
         ·(have Y:(k:Int)<(l.length:Int)-1:=by omega);rw[decide_eq_false q4,jT] at y;simp(disch:=omega)only[go_sem,E,W,X,O,Y,Z];exact Dj.sub (C.new M _) (Dj.refl ⟨by rw[y],rfl⟩)
        ·rw[decide_eq_false O,Bool.not_false,Bool.true_or,jS] at y;simp(disch:=omega)only[go_sem,L,W,X,O];refine⟨k+1,_,Rn.refl _,(D _ _ _).2 ?_,by omega⟩;simp only[go_sem,E,S,J];(repeat' apply And.intro)<;>(try first|rfl|assumption|omega);all_goals exact C.new M _
      ·(have V: ¬(0:Int)<(l[k].c.length:Int):=by omega);(have e1:l[k].c.isEmpty=true:=by rw[Al];exact decide_eq_true (by omega));rw[e1,Bool.true_or,jS] at y;simp only[go_sem,L,V];refine⟨k+1,_,Rn.refl _,(D _ _ _).2 ?_,by omega⟩;simp only[go_sem,E,S,J,ag];(repeat' apply And.intro)<;>(try first|rfl|assumption|omega);all_goals exact C.new M _
     ·(have:k=l.length:=by omega);subst this;rw[List.drop_length] at y;simp(disch:=omega)only[go_sem,J,L];exact Dj.sub C (Dj.refl ⟨by rw[y];rfl,rfl⟩)
   ·(have ad: ¬(l.length:Int)=1:=by omega);simp only[go_sem,ad];obtain⟨I,D⟩: ∃I:Nat->(Nat->DVal)->Ab->Prop,∀k env heap,I k env heap↔(env 0= .vslice (l.flatMap dAs) l.length/\env 31= .vslice (l.flatMap dAs) l.length/\env 32=dI l.length/\env 33=dI k/\k<=l.length/\Fo l=Fo (l.drop k)/\Sub H1 heap):=⟨_,λ_ _ _=>Iff.rfl⟩;refine Ea9.run I (λk=>l.length-k) 0 ((D _ _ _).2 ?_) ?_
    ·simp only[go_sem];(repeat' apply And.intro)<;>(try first|rfl|assumption|omega);exact Sub.refl _
    ·intro k env heap hi;obtain⟨E,S,J,L,hk,y,C⟩:=(D _ _ _).1 hi;by_cases U:k<l.length
     ·(have ae:(k:Int)<(l.length:Int):=by omega);have af:=Bh Cm l k U;(have ag:IntKind.i64.wrap ((k:Int)+1)=((k+1:Nat):Int):=by rw[IntKind.wrap_i64];omega);(have Z:IntKind.i64.wrap ((l.length:Int)-1)=(l.length:Int)-1:=by rw[IntKind.wrap_i64];omega);have ah:=hb l[k] (List.getElem_mem U);rw[Yu U] at y;simp(disch:=omega)only[go_sem,S,J,L,ae,af,hfl,jD];intro r4 M;by_cases q1:0<l[k].c.length
      ·(have V:(0:Int)<(l[k].c.length:Int):=by omega);(have e1:l[k].c.isEmpty=false:=by rw[Al];exact decide_eq_false (by omega));rw[e1,Bool.false_or] at y;simp only[go_sem,V];refine(Ao2 G _ l[k].c ah).mono ?_;rintro _ H2 ⟨rfl,rfl⟩;cases q2:Cl l[k].c with
       |false=>
        rw[q2,jT,jT] at y;simp only[go_sem];exact Dj.sub (C.new M _) (Dj.refl ⟨by rw[y],rfl⟩)
       |true=>
        obtain⟨W,_⟩:=ch0 q1;have X:=Ak Cn l[k].c;rw[q2,jS,Pd q1] at y;by_cases O:l[k].c[0].kind=3
        ·rw[decide_eq_true O,Bool.not_true,Bool.false_or] at y;by_cases q4:k+1=l.length
         ·(have Y: ¬(k:Int)<(l.length:Int)-1:=by omega);rw[decide_eq_true q4,jS] at y;simp(disch:=omega)only[go_sem,E,L,W,X,O,Y,Z];refine⟨k+1,_,Rn.refl _,(D _ _ _).2 ?_,by omega⟩;simp only[go_sem,E,S,J];(repeat' apply And.intro)<;>(try first|rfl|assumption|omega);all_goals exact C.new M _
         ·(have Y:(k:Int)<(l.length:Int)-1:=by omega);rw[decide_eq_false q4,jT] at y;simp(disch:=omega)only[go_sem,E,W,X,O,Y,Z];exact Dj.sub (C.new M _) (Dj.refl ⟨by rw[y],rfl⟩)
        ·rw[decide_eq_false O,Bool.not_false,Bool.true_or,jS] at y;simp(disch:=omega)only[go_sem,L,W,X,O];refine⟨k+1,_,Rn.refl _,(D _ _ _).2 ?_,by omega⟩;simp only[go_sem,E,S,J];(repeat' apply And.intro)<;>(try first|rfl|assumption|omega);all_goals exact C.new M _
      ·(have V: ¬(0:Int)<(l[k].c.length:Int):=by omega);(have e1:l[k].c.isEmpty=true:=by rw[Al];exact decide_eq_true (by omega));rw[e1,Bool.true_or,jS] at y;simp only[go_sem,L,V];refine⟨k+1,_,Rn.refl _,(D _ _ _).2 ?_,by omega⟩;simp only[go_sem,E,S,J,ag];(repeat' apply And.intro)<;>(try first|rfl|assumption|omega);all_goals exact C.new M _
     ·(have:k=l.length:=by omega);subst this;rw[List.drop_length] at y;simp(disch:=omega)only[go_sem,J,L];exact Dj.sub C (Dj.refl ⟨by rw[y];rfl,rfl⟩)
end
def Dr4 {σ:Type} (R:Ex->σ->Bool->σ->Prop):List Ex->σ->Bool->σ->Prop
 | [],s,b,s'=>b=true/\s'=s
 |x::l,s,b,s'=> ∃b1 s1,R x s b1 s1/\((b1=true/\Dr4 R l s1 b s')\/(b1=false/\b=false/\s'=s1))
def Bh6 {σ:Type} (R:Ex->σ->Bool->σ->Prop) (all:List Ex) (s0:σ) (rest:List Ex) (s:σ):Prop:= ∀b s',Dr4 R rest s b s'->Dr4 R all s0 b s'
section
variable {σ:Type} {R:Ex->σ->Bool->σ->Prop} {all rest:List Ex} {s0 s s1:σ} {x:Ex}
theorem Bh6.next (h:Bh6 R all s0 (x::rest) s) (k:R x s true s1):Bh6 R all s0 rest s1:=λb s' hr=>h b s' ⟨true,s1,k,.inl ⟨rfl,hr⟩⟩
theorem Bh6.no (h:Bh6 R all s0 (x::rest) s) (k:R x s false s1):Dr4 R all s0 false s1:=h false s1 ⟨false,s1,k,.inr ⟨rfl,rfl,rfl⟩⟩
theorem Bh6.fin (h:Bh6 R all s0 [] s):Dr4 R all s0 true s:=h true s ⟨rfl,rfl⟩
end
def Ae2 (r:Nat) (H H':Ab):Prop:= ∀b o,b≠r->H b=some o->H' b=some o
theorem Ae2.refl (r:Nat) (H:Ab):Ae2 r H H:=λ_ _ _ h=>h
theorem Ae2.trans {r:Nat} {H H' y:Ab} (h:Ae2 r H H') (k:Ae2 r H' y):Ae2 r H y:=λb o hb hh=>k b o hb (h b o hb hh)
theorem Ae2.new {r:Nat} {H H':Ab} (h:Ae2 r H H') {q:Nat} (y:H' q=none) (x:Option DObj):Ae2 r H (upd H' q x):=λb o hb hh=>by
 have:=h b o hb hh;have:b≠q:=λe=>by rw[e,y] at this;cases this
 simp only[upd,if_neg this];exact h b o hb hh
theorem Ae2.set {r:Nat} {H H':Ab} (h:Ae2 r H H') (x:Option DObj):Ae2 r H (upd H' r x):=λb o hb hh=>by
 simp only[upd,if_neg hb];exact h b o hb hh
theorem Ae2.sub {r:Nat} {H H':Ab} (h:Ae2 r H H') {H0:Ab} (k:Sub H0 H) (hr:H0 r=none):Sub H0 H':=λb o hb=>h b o (λe=>by rw[e,hr] at hb;cases hb) (k b o hb)
def Wx (s:Int):DObj:= .cells [.int .i64 s] 3
section
variable {G:Nat->DVal}
def Hd9 (R:Ex->Int->Bool->Int->Prop) (all:List Ex) (s0:Int) (r:Nat) (H0:Ab) (e:DEnd) (H':Ab):Prop:=
 ∃b s',e= .ret (.bool b)/\Dr4 R all s0 b s'/\H' r=some (Wx s')/\Ae2 r H0 H'
def Gm6 (R:Ex->Int->Bool->Int->Prop) (x:Ex) (s:Int) (r:Nat) (H:Ab) (e:DEnd) (H':Ab):Prop:=
 ∃b s',e= .ret (.bool b)/\R x s b s'/\H' r=some (Wx s')/\Ae2 r H H'
theorem Er1 (G:Nat->DVal) (H0:Ab) (e:Ex) (hb:Ej e<=1099511627776) (g:FuncId) (xs ys:List DVal) (R:Ex->Int->Bool->Int->Prop) (r:Nat) (s0:Int) (hr:H0 r=some (Wx s0))
  (hf: ∀x∈parts e,∀s H,H r=some (Wx s)->Ae2 r H0 H->Ad Tryz.prog G g (xs++ [.agg (dEx x)]++ys) H (Gm6 R x s r H)):
  Ad Tryz.prog G 70 [.agg (dEx e),.func (.func g) xs ys] H0 (Hd9 R (parts e) s0 r H0):=by
 have bk:= @Ed4 e;have bl:= @Ed3 e;have hfl:=Ak Af e.l;have a3:=Ak Cm e.a;refine dci Tryz.func70 Tryz.call70 ?_;simp only[go_sem,DVal.cells];intro U ah;dsimp only at ah;have n2:r≠U:=Ac ah hr;have a4:U≠r:=n2.symm;simp only[go_sem];obtain⟨I,hI⟩: ∃I:Nat×Int->(Nat->DVal)->Ab->Prop,∀k env heap,I k env heap↔(env 1= .func (.func g) xs ys/\env 2= .optr U 0/\env 14= .vslice (e.l.flatMap dEx) e.l.length/\env 15=dI e.l.length/\env 16=dI k.1/\k.1<=e.l.length/\heap r=some (Wx k.2)/\heap U=some (.cells (dEx e) 27)/\Ae2 r H0 heap/\Bh6 R (parts e) s0 (e.l.drop k.1++e.a.flatMap Ct) k.2):=⟨_,λ_ _ _=>Iff.rfl⟩;refine Ea9.run I (λk=>e.l.length-k.1) (0,s0) ((hI _ _ _).2 ?_) ?_
 ·simp only[go_sem,n2];(repeat' apply And.intro)<;>(try first|rfl|assumption|omega)
  ·exact(Ae2.refl r H0).new ah _
  ·exact λb s' h=>h
 ·rintro⟨k,s⟩ env heap hi;obtain⟨e1,e2,aw,ai,ab,hk,hh,aj,ht,hc⟩:=(hI _ _ _).1 hi;dsimp only at ab hk hh hc;by_cases ak:k<e.l.length
  ·(have a5:(k:Int)<(e.l.length:Int):=by omega);have D:=Bh Af e.l k ak;(have a6:IntKind.i64.wrap ((k:Int)+1)=((k+1:Nat):Int):=by rw[IntKind.wrap_i64];omega);rw[List.drop_eq_getElem_cons ak,jI] at hc;simp(disch:=omega)only[go_sem,aw,ai,ab,a5,D,hfl,jD];intro r6 ac;dsimp only at ac;have n6:r≠r6:=Ac ac hh;have a7:U≠r6:=Ac ac aj;have al:=ht.new ac (some (.cells (dEx e.l[k]) 27));simp only[go_sem,e1];refine(hf e.l[k] (Ba (List.getElem_mem ak)) s _ (by simp only[upd,if_neg n6];exact hh) al).mono ?_;rintro _ H2 ⟨b,s1,rfl,O,X,y⟩;have bm:H2 U=some (.cells (dEx e) 27):=y U _ a4 (by simp only[upd,if_neg a7];exact aj);cases b with
   |false=>
    simp only[go_sem];exact Dj.refl ⟨false,s1,rfl,hc.no O,X,al.trans y⟩
   |true=>
    simp only[go_sem,ab];refine⟨(k+1,s1),_,Rn.refl _,(hI _ _ _).2 ?_,by dsimp only;omega⟩;simp only[go_sem,e1,e2,aw,ai,a6];(repeat' apply And.intro)<;>(try first|rfl|assumption|omega)
    ·exact al.trans y
    ·exact hc.next O
  ·(have:k=e.l.length:=by omega);subst this;rw[List.drop_length,jG] at hc;simp(disch:=omega)only[go_sem,e2,ai,ab,aj];obtain⟨J,hJ⟩: ∃J:Nat×Int->(Nat->DVal)->Ab->Prop,∀k env heap,J k env heap↔(env 1= .func (.func g) xs ys/\env 26= .vslice (e.a.flatMap dAs) e.a.length/\env 27=dI e.a.length/\env 28=dI k.1/\k.1<=e.a.length/\heap r=some (Wx k.2)/\Ae2 r H0 heap/\Bh6 R (parts e) s0 ((e.a.drop k.1).flatMap Ct) k.2):=⟨_,λ_ _ _=>Iff.rfl⟩;refine Ea9.run J (λk=>e.a.length-k.1) (0,s) ((hJ _ _ _).2 ?_) ?_
   ·simp only[go_sem,e1];(repeat' apply And.intro)<;>(try first|rfl|assumption|omega)
   ·rintro⟨j,s⟩ env heap hi;obtain⟨e1,S,E,C,hj,hh,ht,hc⟩:=(hJ _ _ _).1 hi;dsimp only at C hj hh hc;by_cases am:j<e.a.length
    ·(have a8:(j:Int)<(e.a.length:Int):=by omega);have D:=Bh Cm e.a j am;(have a9:IntKind.i64.wrap ((j:Int)+1)=((j+1:Nat):Int):=by rw[IntKind.wrap_i64];omega);have ad:=List.getElem_mem am;have ax:=Bs3 ad;obtain⟨a,ha⟩: ∃a,a=e.a[j]:=⟨_,rfl⟩;rw[List.drop_eq_getElem_cons am,List.flatMap_cons,Ct,jO,<-ha] at hc;rw[<-ha] at D ad ax;have bn:=Mj a.c;have ba:=Ak Cn a.c;rw[Sh] at ax;simp(disch:=omega)only[go_sem,S,E,C,a8,D,a3,jD];intro L ao;dsimp only at ao;have n8:r≠L:=Ac ao hh;have bo:=ht.new ao (some (.cells (dAs a) 44));simp only[go_sem];obtain⟨K,hK⟩: ∃K:Nat×Int->(Nat->DVal)->Ab->Prop,∀k env heap,K k env heap↔(env 1= .func (.func g) xs ys/\env 8= .optr L 0/\env 26= .vslice (e.a.flatMap dAs) e.a.length/\env 27=dI e.a.length/\env 28=dI j/\env 33= .vslice (a.c.flatMap dCh) a.c.length/\env 34=dI a.c.length/\env 35=dI k.1/\k.1<=a.c.length/\heap r=some (Wx k.2)/\heap L=some (.cells (dAs a) 44)/\Ae2 r H0 heap/\Bh6 R (parts e) s0 ((a.c.drop k.1).flatMap Ch.l++([a.e]++(e.a.drop (j+1)).flatMap Ct)) k.2):=⟨_,λ_ _ _=>Iff.rfl⟩;refine Ea9.run K (λk=>a.c.length-k.1) (0,s) ((hK _ _ _).2 ?_) ?_
     ·simp only[go_sem,e1,S,E,C,n8];(repeat' apply And.intro)<;>(try first|rfl|assumption|omega)
     ·rintro⟨m,s⟩ env heap hi;obtain⟨e1,Y,S,E,C,Z,W,V,hm,hh,aa,ht,hc⟩:=(hK _ _ _).1 hi;dsimp only at V hm hh hc;by_cases ap:m<a.c.length
      ·(have bb:(m:Int)<(a.c.length:Int):=by omega);have D:=Bh Cn a.c m ap;(have bp:IntKind.i64.wrap ((m:Int)+1)=((m+1:Nat):Int):=by rw[IntKind.wrap_i64];omega);have aq:=List.getElem_mem ap;have ay:=Mi aq;obtain⟨c,hcc⟩: ∃c,c=a.c[m]:=⟨_,rfl⟩;rw[List.drop_eq_getElem_cons ap,List.flatMap_cons,jO,<-hcc] at hc;rw[<-hcc] at D aq ay;have bq:=Lm c.l;have bc:=Ak Af c.l;rw[Nm] at ay;simp(disch:=omega)only[go_sem,Z,W,V,bb,D,ba,jD];intro a0 ae;dsimp only at ae;have bd:r≠a0:=Ac ae hh;have be:L≠a0:=Ac ae aa;have br:=ht.new ae (some (.cells (dCh c) 47));simp only[go_sem];obtain⟨M,hM⟩: ∃M:Nat×Int->(Nat->DVal)->Ab->Prop,∀k env heap,M k env heap↔(env 1= .func (.func g) xs ys/\env 8= .optr L 0/\env 26= .vslice (e.a.flatMap dAs) e.a.length/\env 27=dI e.a.length/\env 28=dI j/\env 33= .vslice (a.c.flatMap dCh) a.c.length/\env 34=dI a.c.length/\env 35=dI m/\env 40= .vslice (c.l.flatMap dEx) c.l.length/\env 41=dI c.l.length/\env 42=dI k.1/\k.1<=c.l.length/\heap r=some (Wx k.2)/\heap L=some (.cells (dAs a) 44)/\Ae2 r H0 heap/\Bh6 R (parts e) s0 (c.l.drop k.1++((a.c.drop (m+1)).flatMap Ch.l++([a.e]++(e.a.drop (j+1)).flatMap Ct))) k.2):=⟨_,λ_ _ _=>Iff.rfl⟩;refine Ea9.run M (λk=>c.l.length-k.1) (0,s) ((hM _ _ _).2 ?_) ?_
       ·simp only[go_sem,e1,Y,S,E,C,Z,W,V,bd,be];(repeat' apply And.intro)<;>(try first|rfl|assumption|omega)
       ·rintro⟨q,s⟩ env heap hi;obtain⟨e1,Y,S,E,C,Z,W,V,a1,ar,af,hq,hh,aa,ht,hc⟩:=(hM _ _ _).1 hi;dsimp only at af hq hh hc;by_cases au:q<c.l.length
        ·(have bf:(q:Int)<(c.l.length:Int):=by omega);have D:=Bh Af c.l q au;(have bg:IntKind.i64.wrap ((q:Int)+1)=((q+1:Nat):Int):=by rw[IntKind.wrap_i64];omega);rw[List.drop_eq_getElem_cons au,jI] at hc;simp(disch:=omega)only[go_sem,a1,ar,af,bf,D,bc,jD];intro a2 ag;dsimp only at ag;have bh:r≠a2:=Ac ag hh;have bi:L≠a2:=Ac ag aa;have av:=ht.new ag (some (.cells (dEx c.l[q]) 27));simp only[go_sem,e1];refine(hf c.l[q] (Lk ad (Sg aq (List.getElem_mem au))) s _ (by simp only[upd,if_neg bh];exact hh) av).mono ?_;rintro _ H2 ⟨b,s1,rfl,O,X,y⟩;have bs:H2 L=some (.cells (dAs a) 44):=y L _ n8.symm (by simp only[upd,if_neg bi];exact aa);cases b with
         |false=>
          simp only[go_sem];exact Dj.refl ⟨false,s1,rfl,hc.no O,X,av.trans y⟩
         |true=>
          simp only[go_sem,af];refine⟨(q+1,s1),_,Rn.refl _,(hM _ _ _).2 ?_,by dsimp only;omega⟩;simp only[go_sem,e1,Y,S,E,C,Z,W,V,a1,ar,bg];(repeat' apply And.intro)<;>(try first|rfl|assumption|omega)
          ·exact av.trans y
          ·exact hc.next O
        ·(have:q=c.l.length:=by omega);subst this;rw[List.drop_length,jG] at hc;simp(disch:=omega)only[go_sem,V,ar,af];refine⟨(m+1,s),_,Rn.refl _,(hK _ _ _).2 ?_,by dsimp only;omega⟩;simp(disch:=omega)only[go_sem,e1,Y,S,E,C,Z,W];(repeat' apply And.intro)<;>(try first|rfl|assumption|omega)
      ·(have:m=a.c.length:=by omega);subst this;rw[List.drop_length,List.flatMap_nil,jG,jI,jG] at hc;have bj:=Bh3 a;simp(disch:=omega)only[go_sem,e1,Y,W,V,aa,bj];refine(hf a.e (Lk ad (Mh a)) s _ hh ht).mono ?_;rintro _ H2 ⟨b,s1,rfl,O,X,y⟩;cases b with
       |false=>
        simp only[go_sem];exact Dj.refl ⟨false,s1,rfl,hc.no O,X,ht.trans y⟩
       |true=>
        simp only[go_sem,C];refine⟨(j+1,s1),_,Rn.refl _,(hJ _ _ _).2 ?_,by dsimp only;omega⟩;simp only[go_sem,e1,S,E,a9];(repeat' apply And.intro)<;>(try first|rfl|assumption|omega)
        ·exact ht.trans y
        ·exact hc.next O
    ·(have:j=e.a.length:=by omega);subst this;rw[List.drop_length,List.flatMap_nil] at hc;simp(disch:=omega)only[go_sem,E,C];exact Dj.refl ⟨true,s,rfl,hc.fin,hh,ht⟩
end
theorem Gv3 (n:Nat):((n:Int)=0)=(n=0):=by rw[eq_iff_iff];omega
theorem He0 (n:Nat):((n:Int)=1)=(n=1):=by rw[eq_iff_iff];omega
theorem He1 (n:Nat):((n:Int)=2)=(n=2):=by rw[eq_iff_iff];omega
theorem He2 (n:Nat):((n:Int)=3)=(n=3):=by rw[eq_iff_iff];omega
section
variable {G:Nat->DVal} {H:Ab}
theorem Db6 (hG:GX G) (H:Ab) (e:Ex) (hb:Ej e<=1099511627776) (hs:e.s.length<=9223372036854775807):Ad Tryz.prog G 69 [.agg (dEx e)] H (Am (.bool (Ax e)) H):=by
 have D:= @Ed4 e;have E:= @Ed3 e;have hfl:=Ak Af e.l;have y: ∀a∈e.a,a.c.length<=1099511627776:=λa ha=>by
  have h1:=Bs3 ha;have h2:=Mj a.c;rw[Sh] at h1;omega
 have s1:Di (dEx e) 0 [DVal.int .u8 0]= [DVal.int .u8 0,DVal.int .u8 e.oper,DVal.int .i64 e.n,DVal.str e.s,DVal.vslice (e.l.flatMap dEx) e.l.length,DVal.vslice (e.a.flatMap dAs) e.a.length,DVal.int .i64 e.line,DVal.int .i64 e.ent,DVal.int .i64 e.t]:=by rw[Pc];rfl
 have s2:Di [DVal.int .u8 0,DVal.int .u8 e.oper,DVal.int .i64 e.n,DVal.str e.s,DVal.vslice (e.l.flatMap dEx) e.l.length,DVal.vslice (e.a.flatMap dAs) e.a.length,DVal.int .i64 e.line,DVal.int .i64 e.ent,DVal.int .i64 e.t] 6 [DVal.int .i64 0]= [DVal.int .u8 0,DVal.int .u8 e.oper,DVal.int .i64 e.n,DVal.str e.s,DVal.vslice (e.l.flatMap dEx) e.l.length,DVal.vslice (e.a.flatMap dAs) e.a.length,DVal.int .i64 0,DVal.int .i64 e.ent,DVal.int .i64 e.t]:=rfl;have I:Di [DVal.int .u8 0,DVal.int .u8 e.oper,DVal.int .i64 e.n,DVal.str e.s,DVal.vslice (e.l.flatMap dEx) e.l.length,DVal.vslice (e.a.flatMap dAs) e.a.length,DVal.int .i64 0,DVal.int .i64 e.ent,DVal.int .i64 e.t] 7 [DVal.int .i64 0]= [DVal.int .u8 0,DVal.int .u8 e.oper,DVal.int .i64 e.n,DVal.str e.s,DVal.vslice (e.l.flatMap dEx) e.l.length,DVal.vslice (e.a.flatMap dAs) e.a.length,DVal.int .i64 0,DVal.int .i64 0,DVal.int .i64 e.t]:=rfl;have J:Di [DVal.int .u8 0,DVal.int .u8 e.oper,DVal.int .i64 e.n,DVal.str e.s,DVal.vslice (e.l.flatMap dEx) e.l.length,DVal.vslice (e.a.flatMap dAs) e.a.length,DVal.int .i64 0,DVal.int .i64 0,DVal.int .i64 e.t] 8 [DVal.int .i64 0]= (zX 0 (e.oper) (e.n) (e.s) (.vslice (e.l.flatMap dEx) e.l.length) (.vslice (e.a.flatMap dAs) e.a.length) 0):=rfl;have L:Di (zX 0 (e.oper) (e.n) (e.s) (.vslice (e.l.flatMap dEx) e.l.length) (.vslice (e.a.flatMap dAs) e.a.length) 0) 4 [DVal.nilSlice]= (zX 0 (e.oper) (e.n) (e.s) .nilSlice (.vslice (e.a.flatMap dAs) e.a.length) 0):=rfl;have M:Di (zX 0 (e.oper) (e.n) (e.s) .nilSlice (.vslice (e.a.flatMap dAs) e.a.length) 0) 1 [DVal.int .u8 0]= (zX 0 0 (e.n) (e.s) .nilSlice (.vslice (e.a.flatMap dAs) e.a.length) 0):=rfl;have O:Di (zX 0 (e.oper) (e.n) (e.s) .nilSlice (.vslice (e.a.flatMap dAs) e.a.length) 0) 2 [DVal.int .i64 0]= (zX 0 (e.oper) 0 (e.s) .nilSlice (.vslice (e.a.flatMap dAs) e.a.length) 0):=rfl;have S:Di (zX 0 (e.oper) (e.n) (e.s) .nilSlice (.vslice (e.a.flatMap dAs) e.a.length) 0) 3 [DVal.str []]= (zX 0 (e.oper) (e.n) [] .nilSlice (.vslice (e.a.flatMap dAs) e.a.length) 0):=rfl;have U:Di (zX 0 (e.oper) (e.n) (e.s) .nilSlice (.vslice (e.a.flatMap dAs) e.a.length) 0) 5 [DVal.nilSlice]= (zX 0 (e.oper) (e.n) (e.s) .nilSlice .nilSlice 0):=rfl;refine dci Tryz.func69 Tryz.call69 ?_;simp(disch:=omega)only[go_sem,DVal.cells];intro r1 V;simp(disch:=omega)only[go_sem,DVal.cells];intro r3 C;obtain⟨W,X,Y⟩:=Aq.1 C;obtain⟨x,Z,hg⟩: ∃x,e.l.getD 1 ex0=x/\(1<e.l.length->((e.l.flatMap dEx).drop 9).take 9=dEx x):=⟨_,rfl,λh=>by rw[List.getD,List.getElem?_eq_getElem h];exact Bh Af e.l 1 h⟩
 repeat' first
  |(with_reducible refine(Yn hG _ e.s hs).mono ?_;rintro _ H1 ⟨rfl,rfl⟩)
  |(with_reducible refine(Bs6 G _ e.a (by omega)).mono ?_;rintro _ H1 ⟨rfl,rfl⟩)
  |(with_reducible refine(At9 G _ e.a (by omega) y).mono ?_;rintro _ H1 ⟨rfl,rfl⟩)
  |(with_reducible refine(Vk G _ x).mono ?_;rintro _ H1 ⟨rfl,rfl⟩)
  |simp(disch:=omega)only[go_sem,jA,jB, *]
  |(with_reducible refine Kd ?_ ?_<;>intro hc<;>try simp only[decide_eq_true_eq,decide_eq_false_iff_not] at hc)
  |(with_reducible refine Iu ?_ ?_<;>intro hc<;>try simp only[decide_eq_true_eq,decide_eq_false_iff_not] at hc)
  |(refine(Bs5 G _ e 1 (by decide)).mono ?_;rintro _ H1 ⟨rfl,rfl⟩)
  |(refine(Bs5 G _ e 2 (by decide)).mono ?_;rintro _ H1 ⟨rfl,rfl⟩)
  |(refine Dj.sub (show Sub H _ from(by repeat (first|exact Sub.refl _|assumption|refine Sub.up ?_ (by assumption) _))) (Dj.refl ⟨?_,rfl⟩);clear D E hfl y hb hs s1 s2 I J L M O S U hg V C W X Y;(try simp only[Gv3,He0,He1,He2] at*);simp only[Ax,Z];simp [zO,zN,zS,zA,Al, *];done)
end
end Go.Dl
