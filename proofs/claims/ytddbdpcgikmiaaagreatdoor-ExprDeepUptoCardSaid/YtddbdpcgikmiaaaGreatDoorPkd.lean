/- The data level and the contracts of the functions that are reached (part 4). -/
import Derived.Lib.IndexMore
import Derived.Lib.IndexAny
import Derived.Lib.TrimByte
import Derived.Lib.Strings
import Derived.Lib.Repeat
import Derived.Lib.CountLaws
import Derived.Lib.ParseIntB
import Derived.Lib.Fields
import Derived.Laws.RangeString
import Derived.Laws.RangeAny
import Derived.Test.YtddbdpcgikmiaaaGreatDoorPkc
set_option linter.unusedSimpArgs false
set_option linter.unusedVariables false
set_option linter.unusedSectionVars false
-- Chapter 2: tokens: the plain laws, part 7: what the library's functions say of symbols, spaces, comments.
namespace Go.Dl
open Go
set_option maxRecDepth 10000
theorem Bb6: ∀a:List UInt8,Go.Op.bytesLess a a=false
 | []=>rfl
 | x::a=>by
  unfold Go.Op.bytesLess;simp [Bb6 a]
theorem Am1: ∀a b:List UInt8,Go.Op.bytesLess a b=true->Go.Op.bytesLess b a=false
 | [],[],h=>rfl
 | [],_::_,_=>rfl
 | _::_,[],h=>by cases h
 | x::a,y::b,h=>by
  unfold Go.Op.bytesLess at h⊢
  by_cases e:x=y
  ·subst e;simp only[UInt8.lt_irrefl] at h⊢
   simp at h⊢
   exact Am1 a b h
  ·have hn:y≠x:=fun h=>e h.symm;simp [e,hn] at h⊢
   exact UInt8.le_of_lt h
theorem Bb7:Al9.Pairwise (fun a b=>Go.Op.bytesLess a b=true):=by decide+kernel
structure halfAt (l:List (List UInt8)) (s:List UInt8) (i j:Nat):Prop where
 le:i<=j
 len:j<=l.length
 lo: ∀k w,k<i->l[k]? =some w->w≠s
 hi: ∀k w,j<k->l[k]? =some w->w≠s
theorem Bn0 (l:List (List UInt8)) (s:List UInt8):halfAt l s 0 l.length:=
 ⟨Nat.zero_le _,Nat.le_refl _,fun _ _ h=>by omega,fun k w h hk=>by rw[List.getElem?_eq_none (by omega)] at hk;cases hk⟩
theorem Bu7 {l:List (List UInt8)} {a:Nat} {b:Nat} {u v:List UInt8} (hl:l.Pairwise fun a b=>Go.Op.bytesLess a b=true) (h:a<b) (ha:l[a]? =some u) (hb:l[b]? =some v):Go.Op.bytesLess u v=true:=by
 obtain⟨h1,rfl⟩:=List.getElem?_eq_some_iff.1 ha;obtain⟨h2,rfl⟩:=List.getElem?_eq_some_iff.1 hb;exact List.pairwise_iff_getElem.1 hl a b h1 h2 h
theorem Df9 {l:List (List UInt8)} {s w:List UInt8} {i j h:Nat} (hl:l.Pairwise fun a b=>Go.Op.bytesLess a b=true) (hk:halfAt l s i j) (h2:h<j) (hw:l[h]? =some w) (hlt:Go.Op.bytesLess w s=true):halfAt l s (h+1) j:=by
 obtain⟨k1,k2,k3,k4⟩:=hk;refine⟨by omega,k2,fun k u hku hu e=> ?_,k4⟩;subst e;rcases Nat.lt_or_ge k h with hlt' | hge
 ·have:=Bu7 hl hlt' hu hw;rw[Am1 _ _ this] at hlt;cases hlt
 ·have:k=h:=by omega
  subst this;rw[hw] at hu;cases hu;rw[Bb6] at hlt;cases hlt
theorem Ce6 {l:List (List UInt8)} {s w:List UInt8} {i j h:Nat} (hl:l.Pairwise fun a b=>Go.Op.bytesLess a b=true) (hk:halfAt l s i j) (h1:i<=h) (h2:h<j) (hw:l[h]? =some w) (hlt:Go.Op.bytesLess w s=false):halfAt l s i h:=by
 obtain⟨k1,k2,k3,k4⟩:=hk;refine⟨h1,by omega,k3,fun k u hku hu e=> ?_⟩;subst e;rw[Bu7 hl hku hw hu] at hlt;cases hlt
theorem Cr6 {l:List (List UInt8)} {s:List UInt8} {i:Nat} (hk:halfAt l s i i):decide (s∈l)=decide (l[i]? =some s):=by
 obtain⟨_,_,k3,k4⟩:=hk;refine decide_eq_decide.2 ⟨fun h=> ?_,fun h=>List.mem_of_getElem? h⟩;obtain⟨k,hk⟩:=List.mem_iff_getElem?.1 h;rcases Nat.lt_trichotomy k i with h1 | h1 | h1
 ·exact absurd rfl (k3 k s h1 hk)
 ·rw[<-h1];exact hk
 ·exact absurd rfl (k4 k s h1 hk)
end Go.Dl

-- Chapter 2: tokens: the plain laws, part 8: a text read byte by byte, as the reference does.
namespace Go.Dl
open Go
set_option maxRecDepth 10000
def Gs (s:List UInt8) (line:Nat) (l:List Tok):List Tok×Int×Int:=
 match Bm8 (Oh (Ec s) line) l.length with
 | some e=>([],e.1,e.2)
 | none=>(l++(Oh (Ec s) line).map (·.1),0,0)
theorem Bb8 {s:List UInt8} (h:s.length<=65536):Bv s=Gs s 1 []:=by
 rw[Bv,if_neg (by omega),Gs,jB];cases Bm8 (Oh (Ec s) 1) 0 with
 | some e=>rfl
 | none=>rfl
theorem Cr7 (line:Nat) (l:List Tok):Gs [] line l=(l,0,0):=by
 have e:Oh (Ec []) line= []:=rfl;rw[Gs,e];show(l++ [],(0:Int),(0:Int))=_;rw[jH]
theorem Dg0 (r:List UInt8) (line:Nat) (l:List Tok):Gs (10::r) line l=Gs r (line+1) l:=by
 have e:Oh (Ec (10::r)) line=Oh (Ec r) (line+1):=by
  rw[Ec,Bw,if_pos rfl,Oh];rfl
 rw[Gs,Gs,e]
theorem Qi (c:UInt8): ∀(s cur:List UInt8),∃h t,Bw c s []=h::t/\Bw c s cur=(cur++h)::t
 | [],cur=>⟨[],[],rfl,by simp [Bw]⟩
 | x::s,cur=>by
  rw[Bw,Bw];split
  ·exact⟨[],_,rfl,by simp⟩
  ·obtain⟨h,t,e1,e2⟩:=Qi c s [x];obtain⟨h',t',e3,e4⟩:=Qi c s (cur++ [x]);rw[e1] at e3;cases e3;exact⟨x::h,t,by rw[jG,e2];rfl,by rw[e4];simp⟩
theorem Oi {c:UInt8} (r:List UInt8) (hc:c≠10): ∃h t,Ec r=h::t/\Ec (c::r)=(c::h)::t:=by
 obtain⟨h,t,e1,e2⟩:=Qi 10 r [c];exact⟨h,t,e1,by rw[Ec,Bw,if_neg hc,jG,e2];rfl⟩
theorem Qj {s h:List UInt8} {t:List (List UInt8)} (e:Ec s=h::t):(10:UInt8)∉h/\((t= []/\s=h)\/(t≠ []/\s=h++10::Ru t))/\ ∀n,n<=h.length->Ec (s.drop n)=h.drop n::t:=by
 have hm: ∀w∈Ec s,(10:UInt8)∉w:=fun w hw=>Qh 10 s [] w (by simp) hw
 have hj:Ru (Ec s)=s:=by rw[Ec,Bm7];rfl
 rw[e] at hm hj
 have h10:=hm h (by simp)
 have hd: ∀n,(10:UInt8)∉h.drop n:=fun n hx=>h10 (List.mem_of_mem_drop hx)
 match t with
 | []=>
  have hs:h=s:=hj
  subst hs
  exact⟨h10, .inl ⟨rfl,rfl⟩,fun n hn=>by rw[Ec,Ab7 10 _ (hd n)];rfl⟩
 | u::t=>
  have hs:h++10::Ru (u::t)=s:=hj
  subst hs
  refine⟨h10, .inr ⟨by simp,rfl⟩,fun n hn=> ?_⟩
  rw[List.drop_append_of_le_length hn,Ec,Ab8 10 _ _ (hd n)]
  have:=Ac0 (u::t) (by simp) fun w hw=>hm w (List.mem_cons_of_mem _ hw)
  rw[Ec] at this
  rw[this];rfl
theorem Dg1 (r:List UInt8) (line:Nat) (l:List Tok):Gs (32::r) line l=Gs r line l:=by
 obtain⟨h,t,e1,e2⟩:=Oi (c:=32) r (by decide);have ey:Kx (32::h)=Kx h:=by
  have ht:Fj (32::h)=Fj h:=rfl;rw[Og (32::h),Og h,ht]
 have e:Oh (Ec (32::r)) line=Oh (Ec r) line:=by rw[e1,e2,Oh,Oh,ey]
 rw[Gs,Gs,e]
theorem Dr7 (s r:List UInt8) (h:s≠ []):Pm (s++10::r)=Pm s:=by
 match s,h with
 | [],h=>exact absurd rfl h
 | [a],_=>
  have:(a,(10:UInt8))∉Uj:=by simp [Uj]
  simp only[jI,jG,Pm,if_neg this]
 | a::b::s,_=>rfl
theorem Cr8 (s r:List UInt8) (h:s≠ []):Cs (s++10::r)=Cs s:=by
 have hw:Cw (s++10::r)=Cw s:=Bb3 s r 10 rfl
 have hs:=Dr7 s r h
 have ht:(s++10::r).take (Pm s)=s.take (Pm s):=List.take_append_of_le_length (Bm6 s)
 match s,h with
 | [],h=>exact absurd rfl h
 | c::s,_=>
  unfold Cs
  rw[jI] at hw hs ht⊢
  dsimp only
  rw[hw,hs,ht]
theorem Ac1 {c:UInt8} {r:List UInt8} (line:Nat) (l:List Tok) (h10:c≠10) (h32:c≠32) (hcom:Jj (c::r)=false):
  Gs (c::r) line l=if(Cs (c::r)).2=0 then([],(line:Int),20) else if l.length=8192 then([],(line:Int),3)
   else Gs ((c::r).drop (Cs (c::r)).2) line (l++ [{ (Cs (c::r)).1 with line:=(line:Int) }]):=by
 obtain⟨h,t,e1,e2⟩:=Oi r h10
 obtain⟨_,hp,hdrop⟩:=Qj e2
 have hf:Cs (c::r)=Cs (c::h):=by
  rcases hp with⟨_,hs⟩ | ⟨_,hs⟩
  ·rw[hs]
  ·rw[hs,Cr8 _ _ (by simp)]
 have hc2:Jj (c::h)=false:=by
  rcases hp with⟨_,hs⟩ | ⟨_,hs⟩
  ·rwa [hs] at hcom
  ·cases hi:Jj (c::h) with
   | false=>rfl
   | true=>
    rw[hs] at hcom
    match h with
    | []=>unfold Jj at hi;split at hi<;>simp_all
    | d::h'=>
     by_cases hh:c=45/\d=45
     ·obtain⟨rfl,rfl⟩:=hh
      exact absurd hcom (by simp [Jj])
     ·unfold Jj at hi
      split at hi
      ·rename_i h45;simp at h45;exact absurd ⟨h45.1,h45.2.1⟩ hh
      ·cases hi
 have hle:(Cs (c::h)).2<=(c::h).length:=Uk _
 have hys:=Bb5 h32 hc2
 rw[hf,Gs,e2,Oh,hys]
 by_cases h0:(Cs (c::h)).2=0
 ·rw[if_pos h0,if_pos h0,jN,jI,Bm8,if_pos rfl]
 ·rw[if_neg h0,if_neg h0,jN,jI,Bm8,if_neg (by simp)]
  by_cases h8:l.length=8192
  ·rw[if_pos h8,if_pos h8]
  ·rw[if_neg h8,if_neg h8]
   have hd:=hdrop _ hle
   rw[Gs,hd,Oh,jC,jQ]
   split
   ·rfl
   ·simp
theorem Cr9 (r:List UInt8) (line:Nat) (l:List Tok): ∃h t,Ec (45::45::r)=h::t/\(Ju h=false->Gs (45::45::r) line l=([],(line:Int),20))/\
  (Ju h=true->Gs (45::45::r) line l=Gs ((45::45::r).drop h.length) line l):=by
 obtain⟨h1,t,e1,e2⟩:=Oi (c:=45) r (by decide);obtain⟨h2,t2,e3,e4⟩:=Oi (c:=45) (45::r) (by decide);rw[e2] at e3;cases e3;obtain⟨_,_,hdrop⟩:=Qj e4;have hy:Kx (45::45::h1)=if Ju (45::45::h1) then [] else [(Wd,false)]:=by
  have ht:Fj (45::45::h1)=45::45::h1:=rfl;rw[Og,ht,if_pos (.inr rfl)]
 refine⟨_,t,e4,fun hp=> ?_,fun hp=> ?_⟩
 ·rw[Gs,e4,Oh,hy,hp,if_neg (by simp),jN,jI,Bm8,if_pos rfl]
 ·have hd:=hdrop _ (Nat.le_refl _);rw[Gs,Gs,hd,e4,Oh,Oh,hy,hp,List.drop_length];rfl
end Go.Dl

-- Chapter 2: tokens: the plain laws, part 9: numbers by the library's reading; letters.
namespace Go.Dl
open Go
set_option maxRecDepth 10000
theorem Ce7 (c:UInt8):Ff c=true↔48<=c.toNat/\c.toNat<=57:=by simp [Ff]
theorem Dv3 {s:List UInt8}:(Cw s=s)↔s.all Dk=true:=by
 constructor
 ·intro h;have: ∀l:List UInt8,(l.takeWhile Dk).all Dk=true:=fun l=>by
   induction l with
   | nil=>rfl
   | cons c l ih=>
    rw[List.takeWhile_cons];split
    ·rename_i hc;rw[List.all_cons,hc,ih];rfl
    ·rfl
  rw[<-h];exact this s
 ·exact Ul s
theorem Dg2 (s:List UInt8):Pb s=(decide (s≠ [])&&(decide (s.length<=32)&&((match s with | c::_=>Et c | []=>false)&&(decide (Cw s=s)&&!So s)))):=by
 have hw:decide (Cw s=s)=s.all Dk:=by
  cases h:s.all Dk with
  | true=>exact decide_eq_true (Dv3.2 h)
  | false=>exact decide_eq_false fun e=>by rw[Dv3.1 e] at h;cases h
 rw[hw]
 unfold Pb
 match s with
 | []=>rfl
 | c::r=>
  simp only[ne_eq,reduceCtorEq,not_false_eq_true,decide_true,jS]
  cases Et c<;>cases decide ((c::r).length<=32)<;>cases (c::r).all Dk<;>cases So (c::r)<;>rfl
theorem Bu8 {s:List UInt8} {k:Nat} {c:UInt8} (h:(s.take k).all Dk=true) (hc:s[k]? =some c) (hw:Dk c=false):Cw s=s.take k:=by
 obtain⟨hk,rfl⟩:=List.getElem?_eq_some_iff.1 hc;have e:s=s.take k++s[k]::s.drop (k+1):=by rw[<-List.drop_eq_getElem_cons hk,List.take_append_drop]
 rw[show Cw s=Cw (s.take k++s[k]::s.drop (k+1)) from congrArg Cw e,Bb3 _ _ _ hw,Ul _ h]
theorem Bn1: ∀n:Fin 256,Et (UInt8.ofNat n.1)=(decide (97<=n.1 ||| 32)&&decide (n.1 ||| 32<=122)):=by decide+kernel
end Go.Dl

-- Names and reserved words (chapter 2), for the seats of chapters 3, 4, 5.
namespace Go.Dl
open Go Go.Proofs Go.RowKit
set_option maxRecDepth 100000
variable {H Hn:Ab}
attribute [go_sem] List.getElem?_toArray List.getElem?_cons_zero List.getElem?_cons_succ List.append_eq
theorem Dr8 {P:Program} {w:World} {H:Ab} {G:Nat->DVal} {g:Nat} {name:String} {k:IntKind} {zs:List Int} (hg:P.globalNamed name=some g) (h:GOk G w H) (e:G g= .vptr (zs.map fun z=> .int k z) 0):Lib.TabIs P w name k zs:=by
 have hx:=h.exact g _ e;have hr:=h.rel g;rw[e] at hr;have hc:=Ce2 hg hr rfl;unfold Lib.TabIs World.var?;rw[hg];simp only[Option.bind_some];cases ho:w.heap[g]? with
 | none=>rw[ho] at hx;cases hx
 | some o=>
  cases o with
  | cells c t fz=>
   rw[ho] at hx;simp only[Ji,Option.some.injEq,jK] at hx;simp only[Option.some.injEq];apply Array.ext_getElem?;intro i;by_cases hi:i<zs.length
   ·have:=hc i zs[i] (List.getElem?_eq_getElem hi);simp only[World.cell?,ho] at this;simp [hi];simpa using this
   ·rw[Array.getElem?_eq_none (by omega),Array.getElem?_eq_none (by simp;omega)]
  | _=>rw[ho] at hx;cases hx
section
end
section
variable {G:Nat->DVal} {H:Ab}
theorem Ce8 (hG:G 1= .vptr (Lib.asciiSpaceTab.map fun z=> .int .u8 z) 0) (s:List UInt8) (hs:s.length<4294967281) (ha: ∀(j:Nat) b,s[j]? =some b->b.toNat<128):
  Ae Tryz.prog G 307 [.str s] H (Bo (Rt (Lib.fields s)) H):=by
 refine⟨Tryz.call307,fun vs w hv hH hg=> ?_⟩;simp only[An,Rel] at hv;obtain⟨_,_,rfl,rfl,rfl⟩:=hv;refine(Tryz.strings_Fields ⟨⟨s⟩⟩ w hs ha (Dr8 (show Tryz.prog.globalNamed "strings.asciiSpace" =some 1 by kernel_rfl) hg hG)).mono fun e w' ⟨he,hw⟩=> ?_;subst he;subst hw;have hq:RowKit.Below w.heap.size w (w.alloc (.cells ((Lib.fields s).map fun l=>Value.string ⟨l.toArray⟩).toArray 9)):=RowKit.Below.alloc (RowKit.Below.refl _ _) (Nat.le_refl _) _;obtain⟨k1,k2⟩:=(Quiet.below hq).ext hH;refine⟨_,H,⟨rfl,rfl⟩, .ret _ _ ?_,k1,k2⟩;simp only[Rt,Rel];refine⟨_,_,by rfl,Nat.le_refl _, .inr ⟨w.heap.size,0,(Lib.fields s).map fun l=>Value.string ⟨l.toArray⟩,rfl, .inr ⟨?_,fun i x hx=> ?_⟩, ?_⟩⟩
 ·cases e:H w.heap.size with
  | none=>rfl
  | some o=>exact absurd (hH.lt (r:=w.heap.size) (by simp [e])) (by omega)
 ·rw[Nat.zero_add,World.cell?,World.alloc_heap_new];simpa using hx
 ·refine An.mk (by simp) fun i d x h1 h2=> ?_;simp only[List.getElem?_map,Option.map_eq_some_iff] at h1 h2;obtain⟨b1,q1,rfl⟩:=h1;obtain⟨b2,q2,rfl⟩:=h2;rw[q1] at q2;cases q2;simp [Rel]
end
structure GX (G:Nat->DVal):Prop where
 space:G 1= .vptr (Lib.asciiSpaceTab.map fun z=> .int .u8 z) 0
theorem Dy6: ∀n:Fin 256,IntKind.u8.wrap (((BitVec.ofInt 8 ((n.1:Nat):Int) ||| BitVec.ofInt 8 32).toNat:Nat):Int)=((n.1 ||| 32:Nat):Int):=by decide+kernel
section
variable {G:Nat->DVal} {H:Ab}
theorem Xy (G:Nat->DVal) (H:Ab) (b:UInt8):Ae Tryz.prog G 252 [.int .u8 b.toNat] H (Bo (.bool (Et b)) H):=by
 have hor:=Dy6 ⟨b.toNat,b.toNat_lt⟩;have hl:=Bn1 ⟨b.toNat,b.toNat_lt⟩;dsimp only at hor hl;rw[UInt8.ofNat_toNat] at hl;rw[hl];clear hl;generalize b.toNat ||| 32=m at hor⊢
 refine Ac Tryz.func252 Tryz.call252 rfl (by kernel_rfl) ?_;simp(disch:=omega)only[go_sem];generalize hm:IntKind.u8.wrap _=z;have hz:z=(m:Int):=hm.symm.trans hor;subst hz;by_cases h1:97<=m
 ·have h1':(97:Int)<=(m:Int):=by omega
  simp(disch:=omega)only[go_sem,h1'];generalize hm2:IntKind.u8.wrap _=z;have hz:z=(m:Int):=hm2.symm.trans hor;subst hz;refine Pl.refl ⟨?_,rfl⟩;rw[decide_eq_decide.2 (show(m:Int)<=122↔m<=122 by omega)]
 ·have h1': ¬(97:Int)<=(m:Int):=by omega
  simp(disch:=omega)only[go_sem,h1'];exact Pl.refl ⟨rfl,rfl⟩
theorem Bn2 (G:Nat->DVal) (H:Ab) (b:UInt8):Ae Tryz.prog G 295 [.int .u8 b.toNat] H (Bo (.bool (Ff b)) H):=by
 refine Ac Tryz.func295 Tryz.call295 rfl (by kernel_rfl) ?_;by_cases h1:48<=b.toNat
 ·have h1':(48:Int)<=(b.toNat:Int):=by omega
  simp(disch:=omega)only[go_sem,h1'];refine Pl.refl ⟨?_,rfl⟩;rw[Ff,decide_eq_decide.2 (show(b.toNat:Int)<=57↔b.toNat<=57 by omega),decide_eq_true h1,jS]
 ·have h1': ¬(48:Int)<=(b.toNat:Int):=by omega
  simp(disch:=omega)only[go_sem,h1'];refine Pl.refl ⟨?_,rfl⟩;rw[Ff,decide_eq_false h1];rfl
theorem Bn3 (G:Nat->DVal) (H:Ab) (s:List UInt8):Ae Tryz.prog G 320 [.str s] H (Bo (.bool false) H):=by
 refine Ac Tryz.func320 Tryz.call320 rfl (by kernel_rfl) ?_;simp(disch:=omega)only[go_sem];exact Pl.refl ⟨rfl,rfl⟩
theorem Bb9 (G:Nat->DVal) (H:Ab) (s:List UInt8):Ae Tryz.prog G 306 [.str s] H (Bo (.bool false) H):=by
 refine Ac Tryz.func306 Tryz.call306 rfl (by kernel_rfl) ?_;simp(disch:=omega)only[go_sem];exact Pl.refl ⟨rfl,rfl⟩
theorem Ce9 (G:Nat->DVal) (H:Ab) (s t:List UInt8):Ae Tryz.prog G 305 [.str s, .str t] H (Bo (.bool (Go.Op.bytesLess s t)) H):=by
 refine Ac Tryz.func305 Tryz.call305 rfl (by kernel_rfl) ?_;simp(disch:=omega)only[go_sem];refine(Bn3 G _ s).mono ?_;rintro _ H ⟨rfl,rfl⟩;simp(disch:=omega)only[go_sem];exact Pl.refl ⟨rfl,rfl⟩
theorem Bc0 (G:Nat->DVal) (H:Ab) (l:List (List UInt8)) (s:List UInt8) (hl:l.Pairwise fun a b=>Go.Op.bytesLess a b=true) (hn:l.length<=1000000):
  Ae Tryz.prog G 272 [Rt l, .str s] H (fun e H'=>(∃i:Nat,e= .ret (.tuple [dI i, .bool (decide (s∈l))]))/\H'=H):=by
 refine Ac Tryz.func272 Tryz.call272 rfl (by kernel_rfl) ?_;simp(disch:=omega)only[go_sem,Rt];obtain⟨I,hI⟩: ∃I:Nat×Nat->(Nat->DVal)->Ab->Prop,∀p env heap,I p env heap↔(env 0= .vslice (l.map .str) l.length/\env 1= .str s/\env 6=dI l.length/\env 7=dI p.1/\env 8=dI p.2/\halfAt l s p.1 p.2/\heap=H):=⟨_,fun _ _ _=>Iff.rfl⟩;refine Bt4.run I (fun p=>p.2-p.1) (0,l.length) ((hI _ _ _).2 ?_) ?_
 ·simp(disch:=omega)only[go_sem];(repeat' apply And.intro)<;>(try first | rfl | assumption | omega);exact Bn0 l s
 ·rintro⟨i,j⟩ env heap hi;obtain⟨e0,e1,e6,e7,e8,hh,rfl⟩:=(hI _ _ _).1 hi;dsimp only at e7 e8 hh;have hh1:=hh.le;have hh2:=hh.len;by_cases hlt:i<j
  ·have hm:(i+j)/2<l.length:=by omega
   have w1:IntKind.u64.wrap ((i:Int)+(j:Int))=((i+j:Nat):Int):=by rw[IntKind.wrap_u64];omega
   have w2:(((i+j:Nat)):Int).fdiv (2^min 1 64)=(((i+j)/2:Nat):Int):=by rw[show(2:Int)^min 1 64=2 from rfl,Int.fdiv_eq_ediv_of_nonneg _ (by omega)];omega
   have w3:IntKind.i64.wrap ((((i+j)/2:Nat)):Int)=(((i+j)/2:Nat):Int):=by rw[IntKind.wrap_i64];omega
   have hg:(l.map DVal.str)[(i+j)/2]? =some (.str l[(i+j)/2]):=by rw[List.getElem?_map,List.getElem?_eq_getElem hm];rfl
   simp(disch:=omega)only[go_sem,e0,e1,e6,e7,e8,hlt,w1,w2,w3,hg,hm];refine(Ce9 G _ l[(i+j)/2] s).mono ?_;rintro _ H1 ⟨rfl,rfl⟩;cases hb:Go.Op.bytesLess l[(i+j)/2] s with
   | true=>
    simp(disch:=omega)only[go_sem,e0,e1,e6,e7,e8];refine⟨((i+j)/2+1,j),_,Lq.refl _,(hI _ _ _).2 ?_,by dsimp only;omega⟩;simp(disch:=omega)only[go_sem,e0,e1,e6,e7,e8];(repeat' apply And.intro)<;>(try first | rfl | assumption | omega);exact Df9 hl hh (by omega) (List.getElem?_eq_getElem hm) hb
   | false=>
    simp(disch:=omega)only[go_sem,e0,e1,e6,e7,e8];refine⟨(i,(i+j)/2),_,Lq.refl _,(hI _ _ _).2 ?_,by dsimp only;omega⟩;simp(disch:=omega)only[go_sem,e0,e1,e6,e7,e8];(repeat' apply And.intro)<;>(try first | rfl | assumption | omega);exact Ce6 hl hh (by omega) (by omega) (List.getElem?_eq_getElem hm) hb
  ·have:i=j:=by omega
   subst this;have hend:=Cr6 hh;by_cases hi:i<l.length
   ·have hi':(i:Int)<(l.length:Int):=by omega
    have hg:(l.map DVal.str)[i]? =some (.str l[i]):=by rw[List.getElem?_map,List.getElem?_eq_getElem hi];rfl
    rw[List.getElem?_eq_getElem hi] at hend;by_cases hw:l[i]=s
    ·simp(disch:=omega)only[go_sem,e0,e1,e6,e7,e8,hi',hi,hg,hw];refine Pl.refl ⟨⟨i, ?_⟩,rfl⟩;rw[hend,hw];simp
    ·simp(disch:=omega)only[go_sem,e0,e1,e6,e7,e8,hi',hi,hg,hw];refine(Bb9 G _ l[i]).mono ?_;rintro _ H1 ⟨rfl,rfl⟩;simp(disch:=omega)only[go_sem,e0,e1,e6,e7,e8,hi',hi,hg,hw];refine Pl.refl ⟨⟨i, ?_⟩,rfl⟩;rw[hend];simp [hw]
   ·have hi': ¬(i:Int)<(l.length:Int):=by omega
    rw[List.getElem?_eq_none (by omega)] at hend;simp(disch:=omega)only[go_sem,e0,e1,e6,e7,e8,hi'];refine Pl.refl ⟨⟨i, ?_⟩,rfl⟩;rw[hend];simp
theorem Bc1 {s:List UInt8} {k:Nat} {c:UInt8} (h:s[k]? =some c) (hc:c.toNat<128):Ll s k=(c.toNat,1):=by
 obtain⟨hk,rfl⟩:=List.getElem?_eq_some_iff.1 h;exact Go.decode_ascii ⟨⟨s⟩⟩ k hk hc
theorem Cf0 {s:List UInt8} {k:Nat} {c:UInt8} (h:s[k]? =some c) (hc:128<=c.toNat):128<=(Ll s k).1:=by
 obtain⟨hk,rfl⟩:=List.getElem?_eq_some_iff.1 h;exact(Go.decode_high ⟨⟨s⟩⟩ k hk hc).1
theorem Cf1 {c:UInt8} (h:126<c.toNat):Dk c=false:=by
 cases hw:Dk c with
 | false=>rfl
 | true=>have:=(Ce5 hw).2;omega
set_option maxHeartbeats 1000000 in
theorem Cf2 (G:Nat->DVal) (H:Ab) (s:List UInt8) (hs:s.length<=1000000000):Ae Tryz.prog G 253 [.str s] H (Bo (.str (Cw s)) H):=by
 refine Ac Tryz.func253 Tryz.call253 rfl (by kernel_rfl) ?_;simp(disch:=omega)only[go_sem];intro r hr;obtain⟨I,hI⟩: ∃I:Nat->(Nat->DVal)->Ab->Prop,∀k env heap,I k env heap↔(env 0= .str s/\env 6= .optr r 0/\(s.take k).all Dk=true/\k<=s.length/\heap=upd H r (some (.iter s k))):=⟨_,fun _ _ _=>Iff.rfl⟩;refine Bt4.run I (fun k=>s.length-k) 0 ((hI _ _ _).2 ?_) ?_
 ·simp(disch:=omega)only[go_sem]
 ·intro k env heap hi;obtain⟨e0,e6,hw,hk,rfl⟩:=(hI _ _ _).1 hi;by_cases hlt:k<s.length
  ·have hg:s[k]? =some s[k]:=List.getElem?_eq_getElem hlt;have hend:Dk s[k]=false->Cw s=s.take k:=fun h=>Bu8 hw hg h;have hstep:Dk s[k]=true->(s.take (k+1)).all Dk=true:=fun h=>by
    rw[List.take_add_one,hg,List.all_append,hw];simpa using h
   have hki:(k:Int)<=(s.length:Int):=by omega
   by_cases h126:s[k].toNat<=126
   ·have hrn:=Bc1 hg (by omega);have h126': ¬(126:Int)<(s[k].toNat:Int):=by omega
    have hwr:IntKind.u8.wrap (s[k].toNat:Int)=(s[k].toNat:Int):=by rw[IntKind.wrap_u8];have:=s[k].toNat_lt;omega
    simp(disch:=omega)only[go_sem,e0,e6,hlt,hrn,h126',hwr];refine(Xy G _ s[k]).mono ?_;rintro _ H1 ⟨rfl,rfl⟩;cases hle:Et s[k] with
    | true=>
     simp(disch:=omega)only[go_sem,e0,e6,hlt,hrn,h126',hwr];refine⟨k+1,_,Lq.refl _,(hI _ _ _).2 ?_,by omega⟩;simp(disch:=omega)only[go_sem,e0,e6];(repeat' apply And.intro)<;>(try first | rfl | assumption | omega);exact hstep (Bb4 hle)
    | false=>
     simp(disch:=omega)only[go_sem,e0,e6,hlt,hrn,h126',hwr];refine(Bn2 G _ s[k]).mono ?_;rintro _ H1 ⟨rfl,rfl⟩;cases hdi:Ff s[k] with
     | true=>
      simp(disch:=omega)only[go_sem,e0,e6,hlt,hrn,h126',hwr];refine⟨k+1,_,Lq.refl _,(hI _ _ _).2 ?_,by omega⟩;simp(disch:=omega)only[go_sem,e0,e6];(repeat' apply And.intro)<;>(try first | rfl | assumption | omega);exact hstep (Bm9 hdi)
     | false=>
      by_cases h95:s[k]=95
      ·have h95':(s[k].toNat:Int)=95:=by rw[h95];rfl
       simp(disch:=omega)only[go_sem,e0,e6,hlt,hrn,h126',hwr,h95'];refine⟨k+1,_,Lq.refl _,(hI _ _ _).2 ?_,by omega⟩;simp(disch:=omega)only[go_sem,e0,e6];(repeat' apply And.intro)<;>(try first | rfl | assumption | omega);exact hstep (by rw[h95];rfl)
      ·have h95': ¬(s[k].toNat:Int)=95:=Lw (d:=95) h95;simp(disch:=omega)only[go_sem,e0,e6,hlt,hrn,h126',hwr,h95',hki];refine Pl.dropA r hr (Pl.refl ⟨?_,rfl⟩);rw[hend (by simp [Dk,hle,hdi,h95])];simp
   ·have hlo:126<((Ll s k).1:Int):=by
     by_cases h128:s[k].toNat<128
     ·rw[Bc1 hg h128];dsimp only;omega
     ·have:=Cf0 hg (by omega);omega
    simp(disch:=omega)only[go_sem,e0,e6,hlt,hlo,hki];refine Pl.dropA r hr (Pl.refl ⟨?_,rfl⟩);rw[hend (Cf1 (by omega))];simp
  ·have:k=s.length:=by omega
   subst this;simp(disch:=omega)only[go_sem,e0,e6,hlt];refine Pl.dropA r hr (Pl.refl ⟨?_,rfl⟩);rw[List.take_length] at hw;rw[Dv3.2 hw]
end
section
variable {G:Nat->DVal} {H:Ab}
def Zc:List UInt8:= [97,98,111,114,116,32,97,98,115,32,97,99,99,101,112,116,32,97,99,99,101,115,115,32,97,108,105,97,115,101,100,32,97,108,108,32,97,110,100,32,97,114,114,97,121,32,98,101,103,105,110,32,98,111,100,121,32,99,97,115,101,32,99,111,110,115,116,97,110,116,32,100,101,99,108,97,114,101,32,100,101,108,97,121,32,100,111,32,101,108,115,101,32,101,108,115,105,102,32,101,110,100,32,101,110,116,114,121,32,101,120,99,101,112,116,105,111,110,32,101,120,105,116,32,102,111,114,32,102,117,110,99,116,105,111,110,32,103,101,110,101,114,105,99,32,105,102,32,105,110,32,105,115,32,108,105,109,105,116,101,100,32,108,111,111,112,32,109,111,100,32,110,101,119,32,110,111,116,32,110,117,108,108,32,111,102,32,111,114,32,111,116,104,101,114,115,32,111,117,116,32,112,97,99,107,97,103,101,32,112,114,97,103,109,97,32,112,114,105,118,97,116,101,32,112,114,111,99,101,100,117,114,101,32,112,114,111,116,101,99,116,101,100,32,114,97,105,115,101,32,114,97,110,103,101,32,114,101,99,111,114,100,32,114,101,109,32,114,101,110,97,109,101,115,32,114,101,113,117,101,117,101,32,114,101,116,117,114,110,32,114,101,118,101,114,115,101,32,115,101,108,101,99,116,32,115,101,112,97,114,97,116,101,32,115,117,98,116,121,112,101,32,116,97,115,107,32,116,101,114,109,105,110,97,116,101,32,116,104,101,110,32,116,121,112,101,32,117,110,116,105,108,32,117,115,101,32,119,104,101,110,32,119,104,105,108,101,32,119,105,116,104,32,120,111,114]
theorem Bc2: ∀b∈Zc,b.toNat<128:=by decide+kernel
theorem Bn4:Lib.fields Zc=Al9:=by kernel_rfl
theorem Cf3 (hG:GX G) (H:Ab):Ae Tryz.prog G 273 [] H (Bo (Rt Al9) H):=by
 refine Ac Tryz.func273 Tryz.call273 rfl (by kernel_rfl) ?_;simp(disch:=omega)only[go_sem];show Ae _ _ _ [.str Zc] _ _;refine(Ce8 hG.space Zc (by decide+kernel) (fun j b h=>Bc2 b (List.mem_of_getElem? h))).mono ?_;rintro _ H1 ⟨rfl,rfl⟩;rw[Bn4];simp(disch:=omega)only[go_sem];exact Pl.refl ⟨rfl,rfl⟩
theorem Ac2 (hG:GX G) (H:Ab) (s:List UInt8):Ae Tryz.prog G 203 [.str s] H (Bo (.bool (So s)) H):=by
 refine Ac Tryz.func203 Tryz.call203 rfl (by kernel_rfl) ?_;simp(disch:=omega)only[go_sem];refine(Cf3 hG _).mono ?_;rintro _ H1 ⟨rfl,rfl⟩;simp(disch:=omega)only[go_sem];refine(Bc0 G _ Al9 s Bb7 (by decide)).mono ?_;rintro _ H2 ⟨⟨i,rfl⟩,rfl⟩;simp(disch:=omega)only[go_sem];exact Pl.refl ⟨rfl,rfl⟩
theorem Bn5 (hG:GX G) (H:Ab) (s:List UInt8) (hs:s.length<=9223372036854775807):Ae Tryz.prog G 178 [.str s] H (Bo (.bool (Pb s)) H):=by
 refine Ac Tryz.func178 Tryz.call178 rfl (by kernel_rfl) ?_
 match s with
 | []=>
  simp(disch:=omega)only[go_sem]
  exact Pl.refl ⟨rfl,rfl⟩
 | c::r=>
  have hne: ¬(c::r= []):=by simp
  have h0:(c::r)[0]? =some c:=rfl
  rw[Dg2]
  by_cases hl:(c::r).length<=32
  ·have hl':((c::r).length:Int)<=32:=by omega
   simp(disch:=omega)only[go_sem,hne,hl',h0]
   refine(Xy G _ c).mono ?_
   rintro _ H1 ⟨rfl,rfl⟩
   cases hle:Et c with
   | false=>
    simp(disch:=omega)only[go_sem,hne,hl',h0]
    exact Pl.refl ⟨by simp,rfl⟩
   | true=>
    simp(disch:=omega)only[go_sem,hne,hl',h0]
    refine(Cf2 G _ (c::r) (by omega)).mono ?_
    rintro _ H1 ⟨rfl,rfl⟩
    by_cases hw:Cw (c::r)=c::r
    ·simp(disch:=omega)only[go_sem,hne,hl',h0,hw]
     refine(Ac2 hG _ (c::r)).mono ?_
     rintro _ H1 ⟨rfl,rfl⟩
     simp(disch:=omega)only[go_sem,hne,hl',h0,hw]
     exact Pl.refl ⟨by first | rfl | (rw[jA] at hl;simp [hw];intro _;omega),rfl⟩
    ·simp(disch:=omega)only[go_sem,hne,hl',h0,hw]
     exact Pl.refl ⟨by first | rfl | simp [hw],rfl⟩
  ·have hl': ¬((c::r).length:Int)<=32:=by omega
   simp(disch:=omega)only[go_sem,hne,hl',h0]
   exact Pl.refl ⟨by first | rfl | (rw[jA] at hl;simp;intro h;omega),rfl⟩
theorem Am2 (a:UInt8) (r:List UInt8) (h: ∀b r',r=b::r'->(a,b)∉Uj):Pm (a::r)=if a∈Bb2 then 1 else 0:=by
 match r with
 | []=>rfl
 | b::r'=>simp only[Pm,if_neg (h b r' rfl)]
end
end Go.Dl

-- The reference of chapter 2: names, tokens that are the same; slices of tokens.
namespace Go.Dl
open Go Go.Proofs Go.RowKit
set_option maxRecDepth 100000
def Dw (t:Tok):List DVal:= [.int .u8 t.kind,dI t.line, .str t.text,dI t.n]
theorem Ca (t:Tok):(Dw t).length=4:=rfl
theorem Ib (t:Tok):(Dw t).take 4=Dw t:=rfl
theorem Ic (t:Tok):(Dw t).drop 4= []:=rfl
theorem Fv (t:Tok):(Dw t).all (fun d=>d.one)=true:=rfl
section
variable {G:Nat->DVal} {H:Ab}
theorem Lx (c:UInt8) (r:List UInt8):Cs (c::r)=if Et c then(if So (Cw (c::r)) then(⟨2,0,Cw (c::r),0⟩,(Cw (c::r)).length) else if Pb (Cw (c::r)) then(⟨1,0,Cw (c::r),0⟩,(Cw (c::r)).length) else(Wd,0))
  else if Ff c then(match Aj5 (Cw (c::r)) with | some v=>(⟨3,0,[],v⟩,(Cw (c::r)).length) | none=>(Wd,0)) else(⟨4,0,(c::r).take (Pm (c::r)),0⟩,Pm (c::r)):=rfl
def Ac3 (p:Tok×Nat):DVal:= .tuple [.agg (Dw p.1),dI p.2]
end
def Dd (l:List Tok):DVal:= .vslice (l.flatMap Dw) l.length
section
end
def Bu9 (a b:Tok):Bool:=decide ({ a with line:=b.line }=b)
def Pc:List Tok->List Tok->Bool
 | [],[]=>true
 | a::l,b::m=>Bu9 a b&&Pc l m
 | _,_=>false
section
variable {G:Nat->DVal} {H:Ab}
theorem Am3: ∀(l m:List Tok),Pc l m=true->l.length=m.length
 | [],[],_=>rfl
 | [],_::_,h=>by cases h
 | _::_,[],h=>by cases h
 | a::l,b::m,h=>by
  rw[Pc,jF] at h;rw[jA,jA,Am3 l m h.2]
theorem Bn6: ∀ {l m:List Tok} {k:Nat} (h1:k<l.length) (h2:k<m.length),Pc (l.drop k) (m.drop k)=(Bu9 l[k] m[k]&&Pc (l.drop (k+1)) (m.drop (k+1))):=fun h1 h2=>by
 rw[List.drop_eq_getElem_cons h1,List.drop_eq_getElem_cons h2,Pc]
end
theorem Ht.sub1' {H H':Ab} {v v':DVal} (h:Ht H v H' v') {pre post:List DVal} (hp:Ui.looses pre=true) (hq:Ui.looses post=true) (w:World) (hw:Av w H): ∀xs,An w H (pre++v::post) xs->An w H' (pre++v'::post) xs:=by
 intro xs hx;have e:xs=xs.take pre.length++xs.drop pre.length:=(List.take_append_drop _ _).symm;have h1:=hx.take pre.length;have h2:=hx.drop pre.length;rw[List.take_left] at h1;rw[List.drop_left] at h2;rw[e];refine(Jt _ _ hp h1).append ?_;simp only[An] at h2⊢
 obtain⟨y,ys,h3,h4,h5⟩:=h2;rw[h3];exact⟨y,ys,rfl,(h w hw).2.2 y h4,Jt _ _ hq h5⟩
theorem Ht.tuple1' {H H':Ab} {v v':DVal} (h:Ht H v H' v') {pre post:List DVal} (hp:Ui.looses pre=true) (hq:Ui.looses post=true):Ht H (.tuple (pre++v::post)) H' (.tuple (pre++v'::post)):=fun w hw=>
 ⟨(h w hw).1,(h w hw).2.1,fun x hx=>by
  simp only[Rel] at hx⊢
  obtain⟨xs,rfl,hl⟩:=hx;exact⟨xs,rfl,h.sub1' hp hq w hw _ hl⟩⟩
theorem Er.dLen {H H':Ab} {e t:TypeId} {size n:Nat} {cs:List DVal} {v:DVal} (h:Er H e size n cs v H') {dst:Option Nat} {K:DK} {s:DS}:Dl.dLen dst (some (.slice t)) v K s=Bb dst (dI n) K s:=by
 rcases h with⟨rfl,_,rfl,_⟩ | ⟨r,_,_,rfl,_,_⟩
 ·rfl
 ·rfl
section
variable {G:Nat->DVal} {H:Ab}
theorem Hj {H':Ab} (h:Sub H H') (ds:List DVal) (hd:Ui.looses ds=true):Ht H' (.tuple (.nilSlice::ds)) H (.tuple (Dd []::ds)):=
 (Ht.sub h _).trans (Ht.tuple1' (pre:= []) (Er.nil 31 4 (Sub.refl H)).ghost rfl hd)
end
section
variable {G:Nat->DVal} {H:Ab}
theorem Oj (G:Nat->DVal) (H:Ab) (b:UInt8):Ae Tryz.prog G 231 [.int .u8 b.toNat] H (Bo (.bool (Et b)) H):=by
 refine Ac Tryz.func231 Tryz.call231 rfl (by kernel_rfl) ?_;have hd:Et b=(decide ((65:Int)<=b.toNat)&&decide ((b.toNat:Int)<=90) || decide ((97:Int)<=b.toNat)&&decide ((b.toNat:Int)<=122)):=by
  rw[Et,decide_eq_decide.2 (show 65<=b.toNat↔(65:Int)<=b.toNat by omega),decide_eq_decide.2 (show b.toNat<=90↔(b.toNat:Int)<=90 by omega),decide_eq_decide.2 (show 97<=b.toNat↔(97:Int)<=b.toNat by omega),decide_eq_decide.2 (show b.toNat<=122↔(b.toNat:Int)<=122 by omega)]
 rw[hd];generalize (b.toNat:Int)=n;by_cases h1:65<=n
 ·by_cases h2:n<=90
  ·simp(disch:=omega)only[go_sem,h1,h2];exact Pl.refl ⟨by simp,rfl⟩
  ·by_cases h3:97<=n
   ·simp(disch:=omega)only[go_sem,h1,h2,h3];exact Pl.refl ⟨by simp,rfl⟩
   ·simp(disch:=omega)only[go_sem,h1,h2,h3];exact Pl.refl ⟨by simp,rfl⟩
 ·have h3: ¬97<=n:=by omega
  simp(disch:=omega)only[go_sem,h1,h3];exact Pl.refl ⟨by simp,rfl⟩
theorem Qk (G:Nat->DVal) (H:Ab) (b:UInt8):Ae Tryz.prog G 245 [.int .u8 b.toNat] H (Bo (.bool (Ff b)) H):=by
 refine Ac Tryz.func245 Tryz.call245 rfl (by kernel_rfl) ?_;by_cases h1:48<=b.toNat
 ·have h1':(48:Int)<=(b.toNat:Int):=by omega
  simp(disch:=omega)only[go_sem,h1'];refine Pl.refl ⟨?_,rfl⟩;rw[Ff,decide_eq_decide.2 (show(b.toNat:Int)<=57↔b.toNat<=57 by omega),decide_eq_true h1,jS]
 ·have h1': ¬(48:Int)<=(b.toNat:Int):=by omega
  simp(disch:=omega)only[go_sem,h1'];refine Pl.refl ⟨?_,rfl⟩;rw[Ff,decide_eq_false h1];rfl
theorem Ac4 (G:Nat->DVal) (H:Ab) (b:UInt8):Ae Tryz.prog G 233 [.int .u8 b.toNat] H (Bo (.bool (Dk b)) H):=by
 refine Ac Tryz.func233 Tryz.call233 rfl (by kernel_rfl) ?_;simp(disch:=omega)only[go_sem];refine(Oj G _ b).mono ?_;rintro _ H1 ⟨rfl,rfl⟩;cases hl:Et b with
 | true=>
  simp(disch:=omega)only[go_sem];exact Pl.refl ⟨by rw[Dk,hl];rfl,rfl⟩
 | false=>
  simp(disch:=omega)only[go_sem];refine(Qk G _ b).mono ?_;rintro _ H1 ⟨rfl,rfl⟩;cases hd:Ff b with
  | true=>
   simp(disch:=omega)only[go_sem];exact Pl.refl ⟨by rw[Dk,hl,hd];rfl,rfl⟩
  | false=>
   by_cases h95:b=95
   ·subst h95;simp(disch:=omega)only[go_sem];exact Pl.refl ⟨rfl,rfl⟩
   ·have h95': ¬(b.toNat:Int)=95:=Lw (d:=95) h95;simp(disch:=omega)only[go_sem,h95'];exact Pl.refl ⟨by rw[Dk,hl,hd,decide_eq_false h95];rfl,rfl⟩
theorem Dg3 (G:Nat->DVal) (H:Ab) (l:List (List UInt8)) (s:List UInt8) (hl:l.length<=1000000):Ae Tryz.prog G 288 [Rt l, .str s] H (Bo (.bool (decide (s∈l))) H):=by
 refine Ac Tryz.func288 Tryz.call288 rfl (by kernel_rfl) ?_;simp(disch:=omega)only[go_sem,Rt];obtain⟨I,hI⟩: ∃I:Nat->(Nat->DVal)->Ab->Prop,∀k env heap,I k env heap↔(env 0= .vslice (l.map .str) l.length/\env 1= .str s/\env 5=dI k/\k<=l.length/\(∀x∈l.take k,x≠s)/\heap=H):=⟨_,fun _ _ _=>Iff.rfl⟩;refine Bt4.run I (fun k=>l.length-k) 0 ((hI _ _ _).2 ?_) ?_
 ·simp(disch:=omega)only[go_sem];(repeat' apply And.intro)<;>(try first | rfl | assumption | omega);intro x hx;simp at hx
 ·intro k env heap hi;obtain⟨e0,e1,e5,hk,hn,rfl⟩:=(hI _ _ _).1 hi;by_cases hlt:k<l.length
  ·have hlt':(k:Int)<(l.length:Int):=by omega
   have hg:(l.map DVal.str)[k]? =some (.str l[k]):=by rw[List.getElem?_map,List.getElem?_eq_getElem hlt];rfl
   by_cases hw:l[k]=s
   ·simp(disch:=omega)only[go_sem,e0,e1,e5,hlt',hlt,hg,hw,jD];exact Pl.refl ⟨by rw[decide_eq_true (by rw[<-hw];exact List.getElem_mem hlt)],rfl⟩
   ·have hwd:IntKind.i64.wrap ((k:Int)+1)=((k+1:Nat):Int):=by rw[IntKind.wrap_i64];omega
    simp(disch:=omega)only[go_sem,e0,e1,e5,hlt',hlt,hg,hw,jD];refine⟨k+1,_,Lq.refl _,(hI _ _ _).2 ?_,by omega⟩;simp(disch:=omega)only[go_sem,e0,e1,e5,hwd];(repeat' apply And.intro)<;>(try first | rfl | assumption | omega);exact Lf (p:=fun x=>x≠s) hlt hn hw
  ·have:k=l.length:=by omega
   subst this;simp(disch:=omega)only[go_sem,e0,e1,e5];rw[List.take_length] at hn;exact Pl.refl ⟨by rw[decide_eq_false (fun h=>hn s h rfl)],rfl⟩
def Xz:List (List UInt8):= [[61,62],[46,46],[58,61],[47,61],[60,61],[62,61],[60,62],[40],[41],[44],[59],[58],[46],[39],[43],[45],[42],[47],[61],[60],[62],[124]]
theorem Bn7 (G:Nat->DVal) (H:Ab):Ae Tryz.prog G 289 [] H (Bo (Rt Al9) H):=by
 refine Ac Tryz.func289 Tryz.call289 rfl (by kernel_rfl) ?_;simp(disch:=omega)only[go_sem];change Bh4 _ _ _ _ (some (Al9.map .str)) _ _;simp(disch:=omega)only[go_sem];intro r hr;dsimp only at hr;simp(disch:=omega)only[go_sem];refine Pl.fzA r hr ?_;simp only[fz,if_pos,jJ];refine Pl.refl ⟨?_,rfl⟩;rfl
theorem Bn8 (G:Nat->DVal) (H:Ab):Ae Tryz.prog G 293 [] H (Bo (Rt Xz) H):=by
 refine Ac Tryz.func293 Tryz.call293 rfl (by kernel_rfl) ?_;simp(disch:=omega)only[go_sem];change Bh4 _ _ _ _ (some (Xz.map .str)) _ _;simp(disch:=omega)only[go_sem];intro r hr;dsimp only at hr;simp(disch:=omega)only[go_sem];refine Pl.fzA r hr ?_;simp only[fz,if_pos,jJ];refine Pl.refl ⟨?_,rfl⟩;rfl
theorem Am4 (G:Nat->DVal) (H:Ab) (s:List UInt8):Ae Tryz.prog G 232 [.str s] H (Bo (.bool (So s)) H):=by
 refine Ac Tryz.func232 Tryz.call232 rfl (by kernel_rfl) ?_;simp(disch:=omega)only[go_sem];refine(Bn7 G _).mono ?_;rintro _ H1 ⟨rfl,rfl⟩;simp(disch:=omega)only[go_sem];refine(Dg3 G _ Al9 s (by decide)).mono ?_;rintro _ H1 ⟨rfl,rfl⟩;simp(disch:=omega)only[go_sem];exact Pl.refl ⟨rfl,rfl⟩
end
section
variable {G:Nat->DVal} {H:Ab}
theorem Bn9 (G:Nat->DVal) (H:Ab) (s:List UInt8):Ae Tryz.prog G 144 [.str s] H (Bo (.bool (Pb s)) H):=by
 refine Ac Tryz.func144 Tryz.call144 rfl (by kernel_rfl) ?_
 match s with
 | []=>
  simp(disch:=omega)only[go_sem,jB]
  exact Pl.refl ⟨rfl,rfl⟩
 | c::r=>
  obtain⟨s,hs⟩: ∃s,s=c::r:=⟨_,rfl⟩
  have h0:s[0]? =some c:=by rw[hs];rfl
  have hpos:0<s.length:=by rw[hs];simp
  have hdef:Pb s=(Et c&&decide (s.length<=32)&&s.all Dk&&!So s):=by rw[hs];rfl
  rw[<-hs,hdef]
  have h1: ¬(s.length:Int)<1:=by omega
  by_cases hl:s.length<=32
  ·have hl': ¬(32:Int)<(s.length:Int):=by omega
   simp(disch:=omega)only[go_sem,h1,hl',h0]
   refine(Oj G _ c).mono ?_
   rintro _ H1 ⟨rfl,rfl⟩
   cases hle:Et c with
   | false=>
    simp(disch:=omega)only[go_sem]
    exact Pl.refl ⟨rfl,rfl⟩
   | true=>
    simp(disch:=omega)only[go_sem]
    refine(Am4 G _ s).mono ?_
    rintro _ H1 ⟨rfl,rfl⟩
    cases hk:So s with
    | true=>
     simp(disch:=omega)only[go_sem]
     exact Pl.refl ⟨by simp,rfl⟩
    | false=>
     simp(disch:=omega)only[go_sem]
     obtain⟨I,hI⟩: ∃I:Nat->(Nat->DVal)->Ab->Prop,∀k env heap,I k env heap↔(env 0= .str s/\env 3=dI k/\k<=s.length/\(s.take k).all Dk=true/\heap=H1):=⟨_,fun _ _ _=>Iff.rfl⟩
     refine Bt4.run I (fun k=>s.length-k) 0 ((hI _ _ _).2 ?_) ?_
     ·simp(disch:=omega)only[go_sem]
      (repeat' apply And.intro)<;>(try first | rfl | assumption | omega)
     ·intro k env heap hi
      obtain⟨e0,e3,hk2,hw,rfl⟩:=(hI _ _ _).1 hi
      by_cases hlt:k<s.length
      ·have hlt':(k:Int)<(s.length:Int):=by omega
       have hg:s[k]? =some s[k]:=List.getElem?_eq_getElem hlt
       have hwd:IntKind.i64.wrap ((k:Int)+1)=((k+1:Nat):Int):=by rw[IntKind.wrap_i64];omega
       simp(disch:=omega)only[go_sem,e0,e3,hlt',hg,jD]
       refine(Ac4 G _ s[k]).mono ?_
       rintro _ H2 ⟨rfl,rfl⟩
       cases hb:Dk s[k] with
       | true=>
        simp(disch:=omega)only[go_sem,e0,e3]
        refine⟨k+1,_,Lq.refl _,(hI _ _ _).2 ?_,by omega⟩
        simp(disch:=omega)only[go_sem,e0,e3,hwd]
        (repeat' apply And.intro)<;>(try first | rfl | assumption | omega)
        rw[List.take_add_one,hg,List.all_append,hw];simpa using hb
       | false=>
        simp(disch:=omega)only[go_sem,e0,e3]
        have:s.all Dk=false:=by
         rw[List.all_eq_false];exact⟨s[k],List.getElem_mem hlt,by rw[hb];simp⟩
        exact Pl.refl ⟨by rw[this],rfl⟩
      ·have:k=s.length:=by omega
       subst this
       simp(disch:=omega)only[go_sem,e0,e3]
       rw[List.take_length] at hw
       exact Pl.refl ⟨by rw[hw],rfl⟩
  ·have hl':(32:Int)<(s.length:Int):=by omega
   simp(disch:=omega)only[go_sem,h1,hl',h0]
   exact Pl.refl ⟨by simp,rfl⟩
end
theorem Cs0 (a b:Tok):Bu9 a b=(decide (a.kind=b.kind)&&(decide (a.text=b.text)&&decide (a.n=b.n))):=by
 rw[Bu9];cases a;cases b;simp only[Tok.mk.injEq,Bool.decide_and,decide_true,jS]
theorem Bc3 {l m:List Tok} (h:l.length≠m.length):Pc l m=false:=by
 cases e:Pc l m with
 | false=>rfl
 | true=>exact absurd (Am3 l m e) h
section
variable {G:Nat->DVal} {H:Ab}
theorem Sp (G:Nat->DVal) (H:Ab) (l m:List Tok) (hl:l.length<=1000000000):Ae Tryz.prog G 82 [Dd l,Dd m] H (Bo (.bool (Pc l m)) H):=by
 refine Ac Tryz.func82 Tryz.call82 rfl (by kernel_rfl) ?_;by_cases hlen:l.length=m.length
 ·have hlen':(l.length:Int)=(m.length:Int):=by omega
  simp(disch:=omega)only[go_sem,Dd,hlen'];obtain⟨I,hI⟩: ∃I:Nat->(Nat->DVal)->Ab->Prop,∀k env heap,I k env heap↔(env 0= .vslice (l.flatMap Dw) l.length/\env 1= .vslice (m.flatMap Dw) m.length/\env 5=dI k/\k<=l.length/\Pc l m=Pc (l.drop k) (m.drop k)/\heap=H):=⟨_,fun _ _ _=>Iff.rfl⟩;refine Bt4.run I (fun k=>l.length-k) 0 ((hI _ _ _).2 ?_) ?_
  ·simp(disch:=omega)only[go_sem];(repeat' apply And.intro)<;>(try first | rfl | assumption | omega)
  ·intro k env heap hi;obtain⟨e0,e1,e5,hk,hsm,rfl⟩:=(hI _ _ _).1 hi;have hfl:=Bl Ca l;have hfm:=Bl Ca m;by_cases hlt:k<l.length
   ·have hlt':(k:Int)<(m.length:Int):=by omega
    have hlt2:(k:Int)<(l.length:Int):=by omega
    have hkm:k<m.length:=by omega
    have g0:(l.flatMap Dw)[k*4]? =some (.int .u8 l[k].kind):=Hy Ca l k hlt 0 (by omega);have g2:(l.flatMap Dw)[k*4+2]? =some (.str l[k].text):=Hy Ca l k hlt 2 (by omega);have g3:(l.flatMap Dw)[k*4+3]? =some (dI l[k].n):=Hy Ca l k hlt 3 (by omega);have m0:(m.flatMap Dw)[k*4]? =some (.int .u8 m[k].kind):=Hy Ca m k hkm 0 (by omega);have m2:(m.flatMap Dw)[k*4+2]? =some (.str m[k].text):=Hy Ca m k hkm 2 (by omega);have m3:(m.flatMap Dw)[k*4+3]? =some (dI m[k].n):=Hy Ca m k hkm 3 (by omega);have hwd:IntKind.i64.wrap ((k:Int)+1)=((k+1:Nat):Int):=by rw[IntKind.wrap_i64];omega
    have hst:=Bn6 hlt hkm;rw[hst,Cs0] at hsm;simp(disch:=omega)only[go_sem,e0,e1,e5,hlt',hlt2,hfl,hfm,jD];refine Am (by kernel_rfl) (.take 0 (.take 1 (.take 2 (.take 3 (.take 4 (.take 5 (.take 6 (.take 7 (.take 8 (.take 9 (.take 10 (.take 11 (.take 12 (.take 13 (.take 14 (.take 15 (.take 16 (.take 17 (.take 18 (.take 19 (.take 20 (.take 21 (.take 22 (.take 23 (.take 24 (.take 25 (.take 26 (.take 27 (.take 28 (.take 29 (.take 30 (.take 31 (.take 32 (.take 33 (.take 34 (.take 35 (.take 36 .done))))))))))))))))))))))))))))))))))))) (by kernel_rfl) ?_;by_cases h1:l[k].kind=m[k].kind
    ·by_cases h2:l[k].text=m[k].text
     ·by_cases h3:l[k].n=m[k].n
      ·rw[decide_eq_true h1,decide_eq_true h2,decide_eq_true h3,jS,jS,jS] at hsm;simp(disch:=omega)only[go_sem,e0,e1,e5,hlt',hlt2,hfl,hfm,jD,g0,g2,g3,m0,m2,m3,h1,h2,h3];refine⟨k+1,_,Lq.refl _,(hI _ _ _).2 ?_,by omega⟩;simp(disch:=omega)only[go_sem,e0,e1,e5,hwd];(repeat' apply And.intro)<;>(try first | rfl | assumption | omega)
      ·rw[decide_eq_false h3,Bool.and_false,Bool.and_false,jT] at hsm;simp(disch:=omega)only[go_sem,e0,e1,e5,hlt',hlt2,hfl,hfm,jD,g0,g2,g3,m0,m2,m3,h1,h2,h3];exact Pl.refl ⟨by rw[hsm],rfl⟩
     ·rw[decide_eq_false h2,jT,Bool.and_false,jT] at hsm;simp(disch:=omega)only[go_sem,e0,e1,e5,hlt',hlt2,hfl,hfm,jD,g0,g2,g3,m0,m2,m3,h1,h2];exact Pl.refl ⟨by rw[hsm],rfl⟩
    ·rw[decide_eq_false h1,jT,jT] at hsm;simp(disch:=omega)only[go_sem,e0,e1,e5,hlt',hlt2,hfl,hfm,jD,g0,g2,g3,m0,m2,m3,h1];exact Pl.refl ⟨by rw[hsm],rfl⟩
   ·have:k=l.length:=by omega
    subst this;have hlt': ¬(l.length:Int)<(m.length:Int):=by omega
    simp(disch:=omega)only[go_sem,e0,e1,e5,hlt'];refine Pl.refl ⟨?_,rfl⟩;rw[hsm,List.drop_length,hlen,List.drop_length];rfl
 ·have hlen': ¬(l.length:Int)=(m.length:Int):=by omega
  simp(disch:=omega)only[go_sem,Dd,hlen'];exact Pl.refl ⟨by rw[Bc3 hlen],rfl⟩
end
end Go.Dl

-- Chapter 3: expressions: the plain laws, part 1: trees.
namespace Go.Dl
open Go
set_option maxRecDepth 10000
mutual
inductive Ex where
 | mk (kind oper n:Int) (s:List UInt8) (l:List Ex) (a:List As) (line ent t:Int)
inductive As where
 | mk (c:List Ch) (e:Ex)
inductive Ch where
 | mk (kind:Int) (l:List Ex)
end
def Ex.kind:Ex->Int | .mk k _ _ _ _ _ _ _ _=>k
def Ex.oper:Ex->Int | .mk _ o _ _ _ _ _ _ _=>o
def Ex.n:Ex->Int | .mk _ _ n _ _ _ _ _ _=>n
def Ex.s:Ex->List UInt8 | .mk _ _ _ s _ _ _ _ _=>s
def Ex.l:Ex->List Ex | .mk _ _ _ _ l _ _ _ _=>l
def Ex.a:Ex->List As | .mk _ _ _ _ _ a _ _ _=>a
def Ex.line:Ex->Int | .mk _ _ _ _ _ _ li _ _=>li
def Ex.ent:Ex->Int | .mk _ _ _ _ _ _ _ en _=>en
def Ex.t:Ex->Int | .mk _ _ _ _ _ _ _ _ t=>t
def As.c:As->List Ch | .mk c _=>c
def As.e:As->Ex | .mk _ e=>e
def Ch.kind:Ch->Int | .mk k _=>k
def Ch.l:Ch->List Ex | .mk _ l=>l
def ex0:Ex:= .mk 0 0 0 [] [] [] 0 0 0
instance:Inhabited Ex:=⟨ex0⟩
instance:Inhabited As:=⟨.mk [] ex0⟩
instance:Inhabited Ch:=⟨.mk 0 []⟩
mutual
def Ev:Ex->Nat
 | .mk _ _ _ _ l a _ _ _=>1+Ac5 l+Wf a
def Ac5:List Ex->Nat
 | []=>0
 | x::l=>Ev x+Ac5 l
def Bc4:As->Nat
 | .mk c e=>Wg c+Ev e
def Wf:List As->Nat
 | []=>0
 | x::l=>Bc4 x+Wf l
def Bv0:Ch->Nat
 | .mk _ l=>Ac5 l
def Wg:List Ch->Nat
 | []=>0
 | x::l=>Bv0 x+Wg l
end
def Ct (x:As):List Ex:=x.c.flatMap Ch.l++ [x.e]
def parts (e:Ex):List Ex:=e.l++e.a.flatMap Ct
def Hl (l:List Ex):Nat:=(l.map Ev).sum
theorem Wh: ∀l:List Ex,Ac5 l=Hl l
 | []=>rfl
 | x::l=>by rw[Ac5,Wh l,Hl,Hl,jN,List.sum_cons]
theorem Mt (l m:List Ex):Hl (l++m)=Hl l+Hl m:=by simp [Hl]
theorem Ac6: ∀l:List Ch,Wg l=Hl (l.flatMap Ch.l)
 | []=>rfl
 | .mk k x::l=>by rw[Wg,Bv0,Ac6 l,Wh,List.flatMap_cons,Mt];rfl
theorem Cf4 (x:As):Bc4 x=Hl (Ct x):=by
 cases x;rw[Bc4,Ac6,Ct,Mt];simp [Hl,As.c,As.e]
theorem Ac7: ∀l:List As,Wf l=Hl (l.flatMap Ct)
 | []=>rfl
 | x::l=>by rw[Wf,Cf4,Ac7 l,List.flatMap_cons,Mt]
theorem Lg (e:Ex):Ev e=1+Hl (parts e):=by
 cases e;rw[Ev,Wh,Ac7,parts,Mt,Nat.add_assoc];rfl
theorem Cs1 {l:List Ex} {x:Ex} (h:x∈l):Ev x<=Hl l:=by
 induction l with
 | nil=>cases h
 | cons y l ih=>
  rw[Hl,jN,List.sum_cons];rcases List.mem_cons.1 h with rfl | h
  ·omega
  ·have:=ih h;unfold Hl at this;omega
theorem Bc5 {e x:Ex} (h:x∈parts e):Ev x<Ev e:=by
 rw[Lg e];have:=Cs1 h;omega
theorem Ar {e x:Ex} (h:x∈e.l):x∈parts e:=List.mem_append_left _ h
theorem Gt {e x:Ex} {a:As} (ha:a∈e.a) (h:x∈Ct a):x∈parts e:=List.mem_append_right _ (List.mem_flatMap.2 ⟨a,ha,h⟩)
theorem Jd (a:As):a.e∈Ct a:=List.mem_append_right _ (by simp)
theorem Ky {a:As} {c:Ch} {x:Ex} (hc:c∈a.c) (h:x∈c.l):x∈Ct a:=List.mem_append_left _ (List.mem_flatMap.2 ⟨c,hc,h⟩)
theorem Ex.ind {p:Ex->Prop} (h: ∀e,(∀x∈parts e,p x)->p e) (e:Ex):p e:=by
 have key: ∀n e,Ev e<n->p e:=by
  intro n
  induction n with
  | zero=>intro e he;omega
  | succ n ih=>
   intro e he;refine h e fun x hx=>ih x ?_;have:=Bc5 hx;omega
 exact key _ e (Nat.lt_succ_self _)
def Bg (e:Ex):Bool:=decide (3<=e.kind)&&decide (e.kind<=8)
def Ge (e:Ex) (k:Nat):Bool:=decide (e.l.length=k)&&Bg (e.l.getD 0 ex0)
def Ly:List As->Bool
 | a::b::r=>(a.c.isEmpty || !b.c.isEmpty)&&Ly (b::r)
 | _=>true
def Cn:List Ch->Bool
 | [c]=>decide (c.kind=1)&&(match c.l with | [x]=>decide (x.kind=3) | _=>false)
 | _=>false
def Dp (n:Nat) (c:Ch):Bool:=
 if c.kind=1 then decide (c.l.length=1) else if c.kind=2 then decide (c.l.length=2) else decide (c.kind=3)&&decide (c.l.length=0)&&decide (n<=1)
def Ck (l:List Ch):Bool:=decide (0<l.length)&&decide (l.length<=16)&&l.all (Dp l.length)
def Ii (l:List As):Bool:=decide (0<l.length)&&decide (l.length<=8)&&Ly l&&l.all fun a=>a.c.isEmpty || Cn a.c
def Iu (l:List Ch):Bool:=match l with | c::_=>decide (c.kind=3) | []=>false
def Ew:List As->Bool
 | []=>true
 | a::r=>(a.c.isEmpty || Ck a.c&&(!Iu a.c || r.isEmpty))&&Ew r
def Mu:List As->Bool
 | [a]=>a.c.isEmpty
 | _=>false
def Fk (l:List As):Bool:=decide (0<l.length)&&decide (l.length<=32)&&Ly l&&!Mu l&&Ew l
def zO (e:Ex):Bool:=decide (e.oper=0)
def zN (e:Ex):Bool:=decide (e.n=0)
def zS (e:Ex):Bool:=decide (e.s= [])
def zA (e:Ex):Bool:=e.a.isEmpty
def Au (e:Ex):Bool:=
 if e.kind=1 then e.l.isEmpty&&decide (0<=e.n)&&decide (e.n<=2147483647)&&zO e&&zS e&&zA e
 else if e.kind=2 then e.l.isEmpty&&zO e&&zN e&&zS e&&zA e
 else if e.kind=3 then e.l.isEmpty&&Pb e.s&&zO e&&zN e&&zA e
 else if e.kind=4\/e.kind=6 then Ge e 1&&Pb e.s&&zO e&&zN e&&zA e
 else if e.kind=5 then Ge e 1&&zO e&&zN e&&zS e&&zA e
 else if e.kind=7 then Ge e 1&&Ii e.a&&zO e&&zN e&&zS e
 else if e.kind=8 then Ge e 2&&zO e&&zN e&&zS e&&zA e
 else if e.kind=9 then e.l.isEmpty&&Fk e.a&&zO e&&zN e&&zS e
 else if e.kind=10 then decide (e.l.length=3)&&zO e&&zN e&&zS e&&zA e
 else if e.kind=11 then decide (e.l.length=1)&&decide (18<=e.oper)&&decide (e.oper<=21)&&zN e&&zS e&&zA e
 else if e.kind=12 then decide (e.l.length=2)&&decide (1<=e.oper)&&decide (e.oper<=17)&&zN e&&zS e&&zA e
 else if e.kind=13\/e.kind=14 then(decide (e.l.length=3) || decide (e.l.length=2)&&Bg (e.l.getD 1 ex0))&&zO e&&zN e&&zS e&&zA e
 else false
mutual
def Ed (d:Nat):Ex->Bool
 | .mk k o n s l a li en t=>decide (d<=32)&&Au (.mk k o n s l a li en t)&&Ac8 (d+1) l&&Zd (d+1) a
def Ac8 (d:Nat):List Ex->Bool
 | []=>true
 | x::l=>Ed d x&&Ac8 d l
def Bo0 (d:Nat):As->Bool
 | .mk c e=>Ze d c&&Ed d e
def Zd (d:Nat):List As->Bool
 | []=>true
 | x::l=>Bo0 d x&&Zd d l
def Cs2 (d:Nat):Ch->Bool
 | .mk _ l=>Ac8 d l
def Ze (d:Nat):List Ch->Bool
 | []=>true
 | x::l=>Cs2 d x&&Ze d l
end
theorem Sq (d:Nat): ∀l:List Ex,Ac8 d l=l.all (Ed d)
 | []=>rfl
 | x::l=>by rw[Ac8,Sq d l,List.all_cons]
theorem Ya (d:Nat): ∀l:List Ch,Ze d l=(l.flatMap Ch.l).all (Ed d)
 | []=>rfl
 | .mk k x::l=>by rw[Ze,Cs2,Ya d l,Sq,List.flatMap_cons,List.all_append];rfl
theorem Bo1 (d:Nat) (x:As):Bo0 d x=(Ct x).all (Ed d):=by
 cases x;rw[Bo0,Ya,Ct,List.all_append];simp [As.c,As.e]
theorem Yb (d:Nat): ∀l:List As,Zd d l=(l.flatMap Ct).all (Ed d)
 | []=>rfl
 | x::l=>by rw[Zd,Bo1,Yb d l,List.flatMap_cons,List.all_append]
theorem Lh (d:Nat) (e:Ex):Ed d e=(decide (d<=32)&&Au e&&(parts e).all (Ed (d+1))):=by
 cases e;rw[Ed,Sq,Yb,parts,List.all_append,Bool.and_assoc (decide (d<=32)&&_)];rfl
def Hz (e:Ex):Bool:=Ed 1 e&&decide (Ev e<=256)
def exX:Ex:= .mk 3 0 0 [120] [] [] 0 0 0
def Dk9 (l:List As):Bool:=Hz (.mk 7 0 0 [] [exX] l 0 0 0)
def Bv1 (l:List Ch):Bool:=Ck l&&l.all fun c=>c.l.all Hz
def Ao (e:Ex):Int:=
 if e.kind=13\/e.kind=14 then 1
 else if e.kind=11 then(if e.oper=18\/e.oper=19 then 2 else if e.oper=20\/e.oper=21 then 4 else 5)
 else if e.kind=12 then(if 13<=e.oper/\e.oper<=17 then 0 else if 7<=e.oper/\e.oper<=12 then 1 else if e.oper=1\/e.oper=2 then 2 else if 3<=e.oper/\e.oper<=6 then 3 else 5)
 else 5
mutual
def Jk:Ex->Ex->Bool
 | .mk k o n s l a _ _ _,f=>decide (k=f.kind)&&decide (o=f.oper)&&decide (n=f.n)&&decide (s=f.s)&&Gu l f.l&&Ij a f.a
def Gu:List Ex->List Ex->Bool
 | [],[]=>true
 | x::l,y::m=>Jk x y&&Gu l m
 | _,_=>false
def Yc:As->As->Bool
 | .mk c e,y=>Hu c y.c&&Jk e y.e
def Ij:List As->List As->Bool
 | [],[]=>true
 | x::l,y::m=>Yc x y&&Ij l m
 | _,_=>false
def Yd:Ch->Ch->Bool
 | .mk k l,y=>decide (k=y.kind)&&Gu l y.l
def Hu:List Ch->List Ch->Bool
 | [],[]=>true
 | x::l,y::m=>Yd x y&&Hu l m
 | _,_=>false
end
theorem Cs3 (e f:Ex):Jk e f=(decide (e.kind=f.kind)&&decide (e.oper=f.oper)&&decide (e.n=f.n)&&decide (e.s=f.s)&&Gu e.l f.l&&Ij e.a f.a):=by
 cases e;rw[Jk];rfl
end Go.Dl

-- Chapter 3: expressions: the plain laws, part 2: reading.
namespace Go.Dl
open Go
set_option maxRecDepth 10000
inductive Res (α:Type) where
 | bot
 | fail (k:Nat)
 | ok (x:α) (k:Nat)
def Res.then {α β:Type}:Res α->(α->Nat->Res β)->Res β
 | .bot,_=> .bot
 | .fail k,_=> .fail k
 | .ok x k,f=>f x k
structure PS where
 expr:Nat->Res Ex
 rest:Ex->Nat->Res Ex
 restL:Nat->Ex->Nat->Res Ex
 relation:Ex->Nat->Res Ex
 simple:Nat->Res Ex
 addL:Ex->Nat->Res Ex
 term:Nat->Res Ex
 mulL:Ex->Nat->Res Ex
 factor:Nat->Res Ex
 primary:Nat->Res Ex
 paren:Nat->Res Ex
 assoc:Nat->Res As
 assocsL:List As->Nat->Res (List As)
 choice:Nat->Res Ch
 choicesL:List Ch->Nat->Res (List Ch)
 arg:Nat->Res As
 argsL:List As->Nat->Res (List As)
 name:Nat->Res Ex
 nameL:Int->Ex->Nat->Res Ex
def Dv4:PS:=⟨fun _=> .bot,fun _ _=> .bot,fun _ _ _=> .bot,fun _ _=> .bot,fun _=> .bot,fun _ _=> .bot,fun _=> .bot,fun _ _=> .bot,fun _=> .bot,fun _=> .bot,fun _=> .bot,fun _=> .bot,fun _ _=> .bot,fun _=> .bot,fun _ _=> .bot,fun _=> .bot,fun _ _=> .bot,fun _=> .bot,fun _ _ _=> .bot⟩
def Jl:List UInt8:= [116,104,101,110]
def Ki:List UInt8:= [101,108,115,101]
def wIf:List UInt8:= [105,102]
def wIn:List UInt8:= [105,110]
def Lz:List UInt8:= [110,111,116]
def Ql:List UInt8:= [97,108,108]
def Mv:List UInt8:= [110,117,108,108]
def Gn:List UInt8:= [111,116,104,101,114,115]
def Bc6:List UInt8:= [97,110,100]
def wOr:List UInt8:= [111,114]
def Dg4:List UInt8:= [120,111,114]
def Dv5:List UInt8:= [109,111,100]
def Dv6:List UInt8:= [114,101,109]
def Cf5:List UInt8:= [97,98,115]
def Br:List UInt8:= [40]
def Cb:List UInt8:= [41]
def Gv:List UInt8:= [44]
def Fl:List UInt8:= [124]
def Ik:List UInt8:= [46]
def Ee:List UInt8:= [46,46]
def Fm:List UInt8:= [39]
def Bd:List UInt8:= [61,62]
def Cs4:List (List (List UInt8)):= [[],[[43]],[[45]],[[42]],[[47]],[Dv5],[Dv6],[[61]],[[47,61]],[[60]],[[60,61]],[[62]],[[62,61]],[Bc6],[wOr],[Dg4],[Bc6,Jl],[wOr,Ki],[[43]],[[45]],[Cf5],[Lz]]
def Aq (o:Nat):List (List UInt8):=Cs4.getD o []
section
variable (l:List Tok)
def tk (k:Nat):Tok:=l.getD k Wd
def Je (s:List UInt8):Int:=if So s then 2 else 4
def isW (k:Nat):List (List UInt8)->Bool
 | []=>true
 | s::r=>decide ((tk l k).kind=Je s)&&decide ((tk l k).text=s)&&isW (k+1) r
def opF (want k:Nat):List Nat->Nat×Nat
 | []=>(0,k)
 | o::r=>if isW l k (Aq o) then(if want≠0/\o≠want then(0,k) else(o,k+(Aq o).length)) else opF want k r
def both (o:Nat) (a b:Ex):Ex:= .mk 12 o 0 [] [a,b] [] a.line 0 0
def Jv (o:Nat) (line:Int) (x:Ex):Ex:=if o=0 then x else .mk 11 o 0 [] [x] [] line 0 0
def Cx {α:Type} (s:List UInt8) (k:Nat) (f:Nat->Res α):Res α:=if isW l k [s] then f (k+1) else .fail k
def Fs {α:Type} (k:Nat) (f:List UInt8->Nat->Res α):Res α:=if(tk l k).kind=1 then f (tk l k).text (k+1) else .fail k
def Ac9 (line:Int) (a:List As):Ex:=match a with
 | [x]=>if x.c= [] then x.e else .mk 9 0 0 [] [] a line 0 0
 | _=> .mk 9 0 0 [] [] a line 0 0
def De:List Nat:= [17,16,15,14,13]
def Il:List Nat:= [12,11,10,9,8,7]
def Ek:List Nat:= [19,18]
def Ok:List Nat:= [2,1]
def Ol:List Nat:= [6,5,4,3]
def Gf:List Nat:= [21,20]
def inK (x:Ex) (kind:Int) (k:Nat) (p:PS):Res Ex:=
 (p.simple k).then fun y k=>if isW l k [Ee] then(p.simple (k+1)).then fun z k=> .ok (.mk kind 0 0 [] [x,y,z] [] x.line 0 0) k
  else if Bg y then .ok (.mk kind 0 0 [] [x,y] [] x.line 0 0) k else .fail k
def Aw (p:PS):PS where
 expr k:=(p.simple k).then fun x k=>p.rest x k
 rest x k:=(p.relation x k).then fun x k=>p.restL (opF l 0 k De).1 x k
 restL o x k:=if o=0 then .ok x k else
  let q:=opF l o k De
  if q.1=0 then .ok x k else(p.simple q.2).then fun y k=>(p.relation y k).then fun y k=>p.restL o (both o x y) k
 relation x k:=
  let q:=opF l 0 k Il
  if q.1≠0 then(p.simple q.2).then fun y k=> .ok (both q.1 x y) k
  else if isW l k [wIn] then inK l x 13 (k+1) p
  else if isW l k [Lz,wIn] then inK l x 14 (k+2) p
  else .ok x k
 simple k:=
  let q:=opF l 0 k Ek
  (p.term q.2).then fun x k'=>p.addL (Jv q.1 (tk l k).line x) k'
 addL x k:=
  let q:=opF l 0 k Ok
  if q.1=0 then .ok x k else(p.term q.2).then fun y k=>p.addL (both q.1 x y) k
 term k:=(p.factor k).then fun x k=>p.mulL x k
 mulL x k:=
  let q:=opF l 0 k Ol
  if q.1=0 then .ok x k else(p.factor q.2).then fun y k=>p.mulL (both q.1 x y) k
 factor k:=
  let q:=opF l 0 k Gf
  (p.primary q.2).then fun x k'=> .ok (Jv q.1 (tk l k).line x) k'
 primary k:=
  if(tk l k).kind=3 then .ok (.mk 1 0 (tk l k).n [] [] [] (tk l k).line 0 0) (k+1)
  else if isW l k [Mv] then .ok (.mk 2 0 0 [] [] [] (tk l k).line 0 0) (k+1)
  else if isW l k [Br] then p.paren k
  else p.name k
 paren k:=Cx l Br k fun k1=>
  if isW l k1 [wIf] then(p.expr (k1+1)).then fun a k=>Cx l Jl k fun k=>(p.expr k).then fun b k=>Cx l Ki k fun k=>(p.expr k).then fun c k'=>Cx l Cb k' fun k'=> .ok (.mk 10 0 0 [] [a,b,c] [] (tk l (k1-1)).line 0 0) k'
  else(p.assoc k1).then fun a k=>(p.assocsL [a] k).then fun az k=>Cx l Cb k fun k=> .ok (Ac9 (tk l (k1-1)).line az) k
 assoc k:=(p.choice k).then fun c k=>
  if c.kind=1/\isW l k [Fl]=false/\isW l k [Bd]=false then .ok (.mk [] (c.l.getD 0 ex0)) k
  else if c.kind=3 then Cx l Bd k fun k=>(p.expr k).then fun e k=> .ok (.mk [c] e) k
  else(p.choicesL [c] k).then fun cs k=>Cx l Bd k fun k=>(p.expr k).then fun e k=> .ok (.mk cs e) k
 assocsL az k:=if isW l k [Gv] then(p.assoc (k+1)).then fun a k=>p.assocsL (az++ [a]) k else .ok az k
 choice k:=if isW l k [Gn] then .ok (.mk 3 []) (k+1) else
  (p.simple k).then fun x k=>if isW l k [Ee] then(p.simple (k+1)).then fun y k=> .ok (.mk 2 [x,y]) k
   else(p.rest x k).then fun x k=> .ok (.mk 1 [x]) k
 choicesL cs k:=if isW l k [Fl] then(p.choice (k+1)).then fun c k=>p.choicesL (cs++ [c]) k else .ok cs k
 arg k:=if(tk l k).kind=1/\isW l (k+1) [Bd]=true then(p.expr (k+2)).then fun e k'=> .ok (.mk [.mk 1 [.mk 3 0 0 (tk l k).text [] [] (tk l k).line 0 0]] e) k'
  else(p.expr k).then fun e k=> .ok (.mk [] e) k
 argsL az k:=if isW l k [Gv] then(p.arg (k+1)).then fun a k=>p.argsL (az++ [a]) k else .ok az k
 name k:=Fs l k fun s k1=>p.nameL (tk l k).line (.mk 3 0 0 s [] [] (tk l k).line 0 0) k1
 nameL line x k:=
  if isW l k [Ik,Ql] then p.nameL line (.mk 5 0 0 [] [x] [] line 0 0) (k+2)
  else if isW l k [Ik] then Fs l (k+1) fun s k=>p.nameL line (.mk 4 0 0 s [x] [] line 0 0) k
  else if isW l k [Br] then(p.arg (k+1)).then fun a k=>(p.argsL [a] k).then fun az k=>Cx l Cb k fun k=>p.nameL line (.mk 7 0 0 [] [x] az line 0 0) k
  else if isW l k [Fm,Br] then(p.paren (k+1)).then fun y k=>p.nameL line (.mk 8 0 0 [] [x,y] [] line 0 0) k
  else if isW l k [Fm] then Fs l (k+1) fun s k=>p.nameL line (.mk 6 0 0 s [x] [] line 0 0) k
  else .ok x k
def P:Nat->PS
 | 0=>Dv4
 | n+1=>Aw l (P n)
end
end Go.Dl

-- Chapter 3: expressions: the plain laws, part 3: reading comes to an answer, the same whatever the fuel.
namespace Go.Dl
open Go
set_option maxRecDepth 10000
def Res.Le {α:Type} (r r':Res α):Prop:=r= .bot\/r=r'
theorem Res.Le.refl {α:Type} (r:Res α):r.Le r:= .inr rfl
theorem Dg5 {α β:Type} {r r':Res α} {f g:α->Nat->Res β} (h:r.Le r') (k: ∀x k,(f x k).Le (g x k)):(r.then f).Le (r'.then g):=by
 rcases h with rfl | rfl
 ·exact .inl rfl
 ·cases r with
  | bot=>exact .inl rfl
  | fail k=>exact .inr rfl
  | ok x n=>exact k x n
theorem Bo2 {α:Type} {c:Prop} [Decidable c] {a b a' b':Res α} (h:a.Le a') (k:b.Le b'):(if c then a else b).Le (if c then a' else b'):=by
 split
 ·exact h
 ·exact k
section
variable {l:List Tok}
theorem Dg6 {α:Type} {s:List UInt8} {k:Nat} {f g:Nat->Res α} (h: ∀k,(f k).Le (g k)):(Cx l s k f).Le (Cx l s k g):=Bo2 (h _) (.refl _)
theorem Cs5 {α:Type} {k:Nat} {f g:List UInt8->Nat->Res α} (h: ∀s k,(f s k).Le (g s k)):(Fs l k f).Le (Fs l k g):=Bo2 (h _ _) (.refl _)
structure PS.Le (p q:PS):Prop where
 expr: ∀k,(p.expr k).Le (q.expr k)
 rest: ∀x k,(p.rest x k).Le (q.rest x k)
 restL: ∀o x k,(p.restL o x k).Le (q.restL o x k)
 relation: ∀x k,(p.relation x k).Le (q.relation x k)
 simple: ∀k,(p.simple k).Le (q.simple k)
 addL: ∀x k,(p.addL x k).Le (q.addL x k)
 term: ∀k,(p.term k).Le (q.term k)
 mulL: ∀x k,(p.mulL x k).Le (q.mulL x k)
 factor: ∀k,(p.factor k).Le (q.factor k)
 primary: ∀k,(p.primary k).Le (q.primary k)
 paren: ∀k,(p.paren k).Le (q.paren k)
 assoc: ∀k,(p.assoc k).Le (q.assoc k)
 assocsL: ∀a k,(p.assocsL a k).Le (q.assocsL a k)
 choice: ∀k,(p.choice k).Le (q.choice k)
 choicesL: ∀a k,(p.choicesL a k).Le (q.choicesL a k)
 arg: ∀k,(p.arg k).Le (q.arg k)
 argsL: ∀a k,(p.argsL a k).Le (q.argsL a k)
 name: ∀k,(p.name k).Le (q.name k)
 nameL: ∀i x k,(p.nameL i x k).Le (q.nameL i x k)
theorem Cs6 (q:PS):Dv4.Le q:=by constructor<;>intros<;>exact .inl rfl
theorem Cs7 {p q:PS} (h:p.Le q):(Aw l p).Le (Aw l q):=by
 constructor<;>intros<;>dsimp only[Aw,inK]<;>repeat' first
  | exact Res.Le.refl _
  | exact h.expr _
  | exact h.rest _ _
  | exact h.restL _ _ _
  | exact h.relation _ _
  | exact h.simple _
  | exact h.addL _ _
  | exact h.term _
  | exact h.mulL _ _
  | exact h.factor _
  | exact h.primary _
  | exact h.paren _
  | exact h.assoc _
  | exact h.assocsL _ _
  | exact h.choice _
  | exact h.choicesL _ _
  | exact h.arg _
  | exact h.argsL _ _
  | exact h.name _
  | exact h.nameL _ _ _
  | refine Dg5 ?_ fun _ _=> ?_
  | refine Dg6 fun _=> ?_
  | refine Cs5 fun _ _=> ?_
  | refine Bo2 ?_ ?_
theorem Am5: ∀n,(P l n).Le (P l (n+1))
 | 0=>Cs6 _
 | n+1=>Cs7 (Am5 n)
def Adv (l:List Tok) {α:Type} (lb:Nat):Res α->Prop
 | .bot=>True
 | .fail k=>k<=l.length
 | .ok _ k=>lb<=k/\k<=l.length
theorem Bn {α β:Type} {a b:Nat} {r:Res α} {f:α->Nat->Res β} (h:Adv l a r) (k: ∀x n,a<=n->n<=l.length->Adv l b (f x n)):Adv l b (r.then f):=by
 cases r with
 | bot=>trivial
 | fail n=>exact h
 | ok x n=>exact k x n h.1 h.2
theorem Eo {α:Type} {a k:Nat} {x:α} (h:a<=k) (h2:k<=l.length):Adv l a (.ok x k):=⟨h,h2⟩
theorem Cy {α:Type} {a b:Nat} {r:Res α} (h:Adv l a r) (hb:b<=a):Adv l b r:=by
 cases r with
 | bot=>trivial
 | fail n=>exact h
 | ok x n=>exact⟨Nat.le_trans hb h.1,h.2⟩
theorem Bv2 {k:Nat} (h:l.length<=k):tk l k=Wd:=by rw[tk,List.getD,List.getElem?_eq_none h];rfl
theorem Ks {k:Nat} (h:(tk l k).kind≠0):k<l.length:=by
 rcases Nat.lt_or_ge k l.length with h2 | h2
 ·exact h2
 ·rw[Bv2 h2] at h;exact absurd rfl h
theorem Ad0 (s:List UInt8):Je s≠0:=by unfold Je;split<;>decide
theorem Ap: ∀ {ws:List (List UInt8)} {k:Nat},isW l k ws=true->k<=l.length->k+ws.length<=l.length
 | [],k,_,hk=>hk
 | s::r,k,h,_=>by
  rw[isW,jF,jF,decide_eq_true_eq] at h;have h1:k<l.length:=Ks (by rw[h.1.1];exact Ad0 s);have:=Ap h.2 h1;rw[jA];omega
theorem Cf6: ∀o,o<22->o≠0->0<(Aq o).length:=by decide+kernel
theorem Cl {want k:Nat}: ∀ {os:List Nat},(∀o∈os,o<22/\o≠0)->k<=l.length->((opF l want k os).1=0->(opF l want k os).2=k)/\((opF l want k os).1≠0->k+1<=(opF l want k os).2)/\(opF l want k os).2<=l.length/\k<=(opF l want k os).2
 | [],_,hk=>⟨fun _=>rfl,fun h=>absurd rfl h,hk,Nat.le_refl _⟩
 | o::r,h,hk=>by
  have ih:=Cl (want:=want) (os:=r) (fun x hx=>h x (by simp [hx])) hk;rw[opF];split
  ·rename_i hw
   split
   ·exact⟨fun _=>rfl,fun h=>absurd rfl h,hk,Nat.le_refl _⟩
   ·have h1:=Ap hw hk;have h2:=Cf6 o (h o (by simp)).1 (h o (by simp)).2;exact⟨fun e=>absurd e (h o (by simp)).2,fun _=>by dsimp only;omega,h1,by dsimp only;omega⟩
  ·exact ih
theorem Kj {α:Type} {s:List UInt8} {k a:Nat} {f:Nat->Res α} (hk:k<=l.length) (h:k+1<=l.length->Adv l a (f (k+1))):Adv l a (Cx l s k f):=by
 unfold Cx;split
 ·rename_i hw
  exact h (Ap hw hk)
 ·exact hk
theorem Wi {α:Type} {k a:Nat} {f:List UInt8->Nat->Res α} (hk:k<=l.length) (h:k+1<=l.length-> ∀s,Adv l a (f s (k+1))):Adv l a (Fs l k f):=by
 unfold Fs;split
 ·rename_i hw
  exact h (Ks (by rw[hw];decide)) _
 ·exact hk
structure PS.Adv (l:List Tok) (p:PS):Prop where
 expr: ∀k,k<=l.length->Dl.Adv l (k+1) (p.expr k)
 rest: ∀x k,k<=l.length->Dl.Adv l k (p.rest x k)
 restL: ∀o x k,k<=l.length->Dl.Adv l k (p.restL o x k)
 relation: ∀x k,k<=l.length->Dl.Adv l k (p.relation x k)
 simple: ∀k,k<=l.length->Dl.Adv l (k+1) (p.simple k)
 addL: ∀x k,k<=l.length->Dl.Adv l k (p.addL x k)
 term: ∀k,k<=l.length->Dl.Adv l (k+1) (p.term k)
 mulL: ∀x k,k<=l.length->Dl.Adv l k (p.mulL x k)
 factor: ∀k,k<=l.length->Dl.Adv l (k+1) (p.factor k)
 primary: ∀k,k<=l.length->Dl.Adv l (k+1) (p.primary k)
 paren: ∀k,k<=l.length->Dl.Adv l (k+1) (p.paren k)
 assoc: ∀k,k<=l.length->Dl.Adv l (k+1) (p.assoc k)
 assocsL: ∀a k,k<=l.length->Dl.Adv l k (p.assocsL a k)
 choice: ∀k,k<=l.length->Dl.Adv l (k+1) (p.choice k)
 choicesL: ∀a k,k<=l.length->Dl.Adv l k (p.choicesL a k)
 arg: ∀k,k<=l.length->Dl.Adv l (k+1) (p.arg k)
 argsL: ∀a k,k<=l.length->Dl.Adv l k (p.argsL a k)
 name: ∀k,k<=l.length->Dl.Adv l (k+1) (p.name k)
 nameL: ∀i x k,k<=l.length->Dl.Adv l k (p.nameL i x k)
theorem Dy7:(∀o∈De,o<22/\o≠0)/\(∀o∈Il,o<22/\o≠0)/\(∀o∈Ek,o<22/\o≠0)/\(∀o∈Ok,o<22/\o≠0)/\(∀o∈Ol,o<22/\o≠0)/\ ∀o∈Gf,o<22/\o≠0:=by decide
theorem Bv3 {p:PS} (h:p.Adv l) {x:Ex} {kind:Int} {k:Nat} (hk:k<=l.length):Dl.Adv l k (inK l x kind k p):=by
 refine Bn (h.simple k hk) fun y n h1 h2=> ?_;split
 ·rename_i hw
  have:=Ap hw h2;refine Bn (h.simple (n+1) (by simpa using this)) fun z m h3 h4=>Eo (by omega) h4
 ·split
  ·exact Eo (by omega) h2
  ·exact h2
theorem Cf7 {p:PS} (h:p.Adv l):(Aw l p).Adv l where
 expr k hk:=Bn (h.simple k hk) fun x n h1 h2=>Cy (h.rest x n h2) (by omega)
 rest x k hk:=Bn (h.relation x k hk) fun x n h1 h2=>Cy (h.restL _ x n h2) (by omega)
 restL o x k hk:=by
  dsimp only[Aw]
  split
  ·exact Eo (by omega) hk
  ·obtain⟨q1,q2,q3,q4⟩:=Cl (want:=o) Dy7.1 hk
   split
   ·exact Eo (by omega) hk
   ·rename_i hq
    have:=q2 hq
    exact Bn (h.simple _ q3) fun y n h1 h2=>Bn (h.relation y n h2) fun z m h3 h4=>Cy (h.restL _ _ m h4) (by omega)
 relation x k hk:=by
  dsimp only[Aw]
  obtain⟨q1,q2,q3,q4⟩:=Cl (want:=0) Dy7.2.1 hk
  split
  ·rename_i hq
   have:=q2 hq
   exact Bn (h.simple _ q3) fun y n h1 h2=>Eo (by omega) h2
  ·split
   ·rename_i hw
    have:=Ap hw hk
    exact Cy (Bv3 h (by simpa using this)) (by omega)
   ·split
    ·rename_i hw
     have:=Ap hw hk
     exact Cy (Bv3 h (by simpa using this)) (by omega)
    ·exact Eo (by omega) hk
 simple k hk:=by
  obtain⟨q1,q2,q3,q4⟩:=Cl (want:=0) Dy7.2.2.1 hk
  exact Bn (h.term _ q3) fun x n h1 h2=>Cy (h.addL _ n h2) (by omega)
 addL x k hk:=by
  dsimp only[Aw]
  obtain⟨q1,q2,q3,q4⟩:=Cl (want:=0) Dy7.2.2.2.1 hk
  split
  ·exact Eo (by omega) hk
  ·exact Bn (h.term _ q3) fun x n h1 h2=>Cy (h.addL _ n h2) (by omega)
 term k hk:=Bn (h.factor k hk) fun x n h1 h2=>Cy (h.mulL _ n h2) (by omega)
 mulL x k hk:=by
  dsimp only[Aw]
  obtain⟨q1,q2,q3,q4⟩:=Cl (want:=0) Dy7.2.2.2.2.1 hk
  split
  ·exact Eo (by omega) hk
  ·exact Bn (h.factor _ q3) fun x n h1 h2=>Cy (h.mulL _ n h2) (by omega)
 factor k hk:=by
  obtain⟨q1,q2,q3,q4⟩:=Cl (want:=0) Dy7.2.2.2.2.2 hk
  exact Bn (h.primary _ q3) fun x n h1 h2=>Eo (by omega) h2
 primary k hk:=by
  dsimp only[Aw]
  split
  ·rename_i hq
   have:=Ks (l:=l) (k:=k) (by rw[hq];decide)
   exact Eo (by omega) this
  ·split
   ·rename_i hw
    have:=Ap hw hk
    exact Eo (by omega) (by simpa using this)
   ·split
    ·exact h.paren k hk
    ·exact h.name k hk
 paren k hk:=by
  dsimp only[Aw]
  refine Kj hk fun hk1=> ?_
  split
  ·rename_i hw
   have:=Ap hw hk1
   refine Bn (h.expr _ (by simpa using this)) fun a n1 h1 h2=>Kj h2 fun h3=>Bn (h.expr _ h3) fun b n2 h4 h5=>Kj h5 fun h6=>Bn (h.expr _ h6) fun c n3 h7 h8=>Kj h8 fun h9=>Eo (by omega) h9
  ·exact Bn (h.assoc _ hk1) fun a n1 h1 h2=>Bn (h.assocsL _ _ h2) fun az n2 h3 h4=>Kj h4 fun h5=>Eo (by omega) h5
 assoc k hk:=by
  refine Bn (h.choice k hk) fun c n h1 h2=> ?_
  split
  ·exact Eo (by omega) h2
  ·split
   ·exact Kj h2 fun h3=>Bn (h.expr _ h3) fun e m h4 h5=>Eo (by omega) h5
   ·exact Bn (h.choicesL _ _ h2) fun cs m h3 h4=>Kj h4 fun h5=>Bn (h.expr _ h5) fun e m h6 h7=>Eo (by omega) h7
 assocsL az k hk:=by
  dsimp only[Aw]
  split
  ·rename_i hw
   have:=Ap hw hk
   exact Bn (h.assoc _ (by simpa using this)) fun a n h1 h2=>Cy (h.assocsL _ n h2) (by omega)
  ·exact Eo (by omega) hk
 choice k hk:=by
  dsimp only[Aw]
  split
  ·rename_i hw
   have:=Ap hw hk
   exact Eo (by omega) (by simpa using this)
  ·refine Bn (h.simple k hk) fun x n h1 h2=> ?_
   split
   ·rename_i hw
    have:=Ap hw h2
    exact Bn (h.simple _ (by simpa using this)) fun y m h3 h4=>Eo (by omega) h4
   ·exact Bn (h.rest x n h2) fun y m h3 h4=>Eo (by omega) h4
 choicesL az k hk:=by
  dsimp only[Aw]
  split
  ·rename_i hw
   have:=Ap hw hk
   exact Bn (h.choice _ (by simpa using this)) fun a n h1 h2=>Cy (h.choicesL _ n h2) (by omega)
  ·exact Eo (by omega) hk
 arg k hk:=by
  dsimp only[Aw]
  split
  ·rename_i hw
   have:=Ks (l:=l) (k:=k) (by rw[hw.1];decide)
   have:=Ap hw.2 this
   exact Bn (h.expr _ (by simpa using this)) fun y m h3 h4=>Eo (by omega) h4
  ·exact Bn (h.expr k hk) fun y m h3 h4=>Eo (by omega) h4
 argsL az k hk:=by
  dsimp only[Aw]
  split
  ·rename_i hw
   have:=Ap hw hk
   exact Bn (h.arg _ (by simpa using this)) fun a n h1 h2=>Cy (h.argsL _ n h2) (by omega)
  ·exact Eo (by omega) hk
 name k hk:=Wi hk fun h1 s=>h.nameL _ _ _ h1
 nameL i x k hk:=by
  dsimp only[Aw]
  split
  ·rename_i hw
   have:=Ap hw hk
   exact Cy (h.nameL _ _ _ (by simpa using this)) (by omega)
  ·split
   ·rename_i hw
    have:=Ap hw hk
    exact Wi (by simpa using this) fun h1 s=>Cy (h.nameL _ _ _ h1) (by omega)
   ·split
    ·rename_i hw
     have:=Ap hw hk
     exact Bn (h.arg _ (by simpa using this)) fun a n h1 h2=>Bn (h.argsL _ _ h2) fun az m h3 h4=>Kj h4 fun h5=>Cy (h.nameL _ _ _ h5) (by omega)
    ·split
     ·rename_i hw
      have:=Ap hw hk
      simp only[jA,jB] at this
      exact Bn (h.paren _ (by omega)) fun a n h1 h2=>Cy (h.nameL _ _ _ h2) (by omega)
     ·split
      ·rename_i hw
       have:=Ap hw hk
       exact Wi (by simpa using this) fun h1 s=>Cy (h.nameL _ _ _ h1) (by omega)
      ·exact Eo (by omega) hk
theorem Fw: ∀n,(P l n).Adv l
 | 0=>by constructor<;>intros<;>trivial
 | n+1=>Cf7 (Fw n)
end
end Go.Dl

-- Chapter 3: expressions as data.
namespace Go.Dl
open Go Go.Proofs
set_option maxRecDepth 100000
mutual
def dEx:Ex->List DVal
 | .mk k o n s l a li en t=> [.int .u8 k, .int .u8 o, .int .i64 n, .str s, .vslice (At3 l) l.length, .vslice (Bc7 a) a.length, .int .i64 li, .int .i64 en, .int .i64 t]
def At3:List Ex->List DVal
 | []=> []
 | x::l=>dEx x++At3 l
def dAs:As->List DVal
 | .mk c e=> .vslice (Bc8 c) c.length::dEx e
def Bc7:List As->List DVal
 | []=> []
 | x::l=>dAs x++Bc7 l
def dCh:Ch->List DVal
 | .mk k l=> [.int .u8 k, .vslice (At3 l) l.length]
def Bc8:List Ch->List DVal
 | []=> []
 | x::l=>dCh x++Bc8 l
end
theorem Wj: ∀l:List Ex,At3 l=l.flatMap dEx
 | []=>rfl
 | x::l=>by rw[At3,Wj l,List.flatMap_cons]
theorem Am6: ∀l:List As,Bc7 l=l.flatMap dAs
 | []=>rfl
 | x::l=>by rw[Bc7,Am6 l,List.flatMap_cons]
theorem Am7: ∀l:List Ch,Bc8 l=l.flatMap dCh
 | []=>rfl
 | x::l=>by rw[Bc8,Am7 l,List.flatMap_cons]
theorem Al (k o n:Int) (s:List UInt8) (l:List Ex) (a:List As) (li en t:Int):dEx (.mk k o n s l a li en t)= [.int .u8 k, .int .u8 o, .int .i64 n, .str s, .vslice (l.flatMap dEx) l.length, .vslice (a.flatMap dAs) a.length, .int .i64 li, .int .i64 en, .int .i64 t]:=by
 rw[dEx,Wj,Am6]
theorem Jw (e:Ex):dEx e= [.int .u8 e.kind, .int .u8 e.oper, .int .i64 e.n, .str e.s, .vslice (e.l.flatMap dEx) e.l.length, .vslice (e.a.flatMap dAs) e.a.length, .int .i64 e.line, .int .i64 e.ent, .int .i64 e.t]:=by
 cases e;rw[Al];rfl
theorem Sr (x:As):dAs x= .vslice (x.c.flatMap dCh) x.c.length::dEx x.e:=by
 cases x;rw[dAs,Am7];rfl
theorem Qm (x:Ch):dCh x= [.int .u8 x.kind, .vslice (x.l.flatMap dEx) x.l.length]:=by
 cases x;rw[dCh,Wj];rfl
theorem Ai (e:Ex):(dEx e).length=9:=by rw[Jw];rfl
theorem Dr (e:As):(dAs e).length=10:=by rw[Sr,jA,Ai]
theorem Ea (e:Ch):(dCh e).length=2:=by rw[Qm];rfl
theorem Dl0 (e:Ex):(dEx e).take 9=dEx e:=List.take_of_length_le (by rw[Ai];decide)
theorem Dv7 (e:As):(dAs e).take 10=dAs e:=List.take_of_length_le (by rw[Dr];decide)
theorem Dv8 (e:Ch):(dCh e).take 2=dCh e:=List.take_of_length_le (by rw[Ea];decide)
theorem Dv9 (e:Ex):(dEx e).drop 9= []:=List.drop_of_length_le (by rw[Ai];decide)
theorem Bh (e:Ex):(dEx e).all (fun d=>d.one)=true:=by rw[Jw];rfl
theorem Dg7 (e:As):(dAs e).all (fun d=>d.one)=true:=by rw[Sr,List.all_cons,Bh];rfl
theorem Bv4 (e:Ch):(dCh e).all (fun d=>d.one)=true:=by rw[Qm];rfl
theorem Dl1 (e:Ex):(dEx e)[0]? =some (.int .u8 e.kind):=by rw[Jw];rfl
theorem Dw0 (e:Ex):(dEx e)[1]? =some (.int .u8 e.oper):=by rw[Jw];rfl
theorem Dw1 (e:Ex):(dEx e)[2]? =some (.int .i64 e.n):=by rw[Jw];rfl
theorem Dw2 (e:Ex):(dEx e)[3]? =some (.str e.s):=by rw[Jw];rfl
theorem Dw3 (e:Ex):(dEx e)[4]? =some (.vslice (e.l.flatMap dEx) e.l.length):=by rw[Jw];rfl
theorem Dw4 (e:Ex):(dEx e)[5]? =some (.vslice (e.a.flatMap dAs) e.a.length):=by rw[Jw];rfl
theorem Dl2 (e:As):(dAs e)[0]? =some (.vslice (e.c.flatMap dCh) e.c.length):=by rw[Sr];rfl
theorem Bc9 (e:As):((dAs e).drop 1).take 9=dEx e.e:=by rw[Sr];exact Dl0 _
theorem Dl3 (e:Ch):(dCh e)[0]? =some (.int .u8 e.kind):=by rw[Qm];rfl
theorem Cs8 (e:Ch):(dCh e)[1]? =some (.vslice (e.l.flatMap dEx) e.l.length):=by rw[Qm];rfl
def dXs (l:List Ex):DVal:= .vslice (l.flatMap dEx) l.length
def dAl (l:List As):DVal:= .vslice (l.flatMap dAs) l.length
def dCl (l:List Ch):DVal:= .vslice (l.flatMap dCh) l.length
attribute [go_sem] Ai Dr Ea Dl0 Dv7 Dv8 Dv9 Bh Dg7 Bv4 Dl1 Dw0 Dw1 Dw2 Dw3 Dw4 Dl2 Bc9 Dl3 Cs8 jH
section
variable {G:Nat->DVal} {H:Ab}
theorem Ef (G:Nat->DVal) (H:Ab) (e:Ex):Ae Tryz.prog G 85 [.agg (dEx e)] H (Bo (.bool (Bg e)) H):=by
 refine Ac Tryz.func85 Tryz.call85 rfl (by kernel_rfl) ?_;simp(disch:=omega)only[go_sem,DVal.cells];intro r hr;dsimp only at hr;by_cases h1:3<=e.kind
 ·simp(disch:=omega)only[go_sem,h1];exact Pl.dropA r hr (Pl.refl ⟨by rw[Bg,decide_eq_true h1,jS],rfl⟩)
 ·simp(disch:=omega)only[go_sem,h1];exact Pl.dropA r hr (Pl.refl ⟨by rw[Bg,decide_eq_false h1,jT],rfl⟩)
end
end Go.Dl

-- Chapter 3: slices of trees: the library's functions.
namespace Go.Dl
open Go Go.Proofs
set_option maxRecDepth 100000
mutual
def Cz:Ex->Nat
 | .mk _ _ _ _ l a _ _ _=>1+Im l+Dm a
def Im:List Ex->Nat
 | []=>0
 | x::l=>Cz x+Im l
def Om:As->Nat
 | .mk c e=>Gp c+Cz e
def Dm:List As->Nat
 | []=>0
 | x::l=>Om x+Dm l
def Um:Ch->Nat
 | .mk _ l=>1+Im l
def Gp:List Ch->Nat
 | []=>0
 | x::l=>Um x+Gp l
end
theorem Bd0 (e:Ex):1<=Cz e:=by cases e;rw[Cz];omega
theorem Cs9 (a:As):1<=Om a:=by cases a;rw[Om];have:=Bd0 (‹Ex›);omega
theorem Ct0 (c:Ch):1<=Um c:=by cases c;rw[Um];omega
theorem Un (e:Ex):Cz e=1+Im e.l+Dm e.a:=by cases e;rw[Cz];rfl
theorem Uo (a:As):Om a=Gp a.c+Cz a.e:=by cases a;rw[Om];rfl
theorem On (c:Ch):Um c=1+Im c.l:=by cases c;rw[Um];rfl
theorem Up: ∀ {l:List Ex} {x:Ex},x∈l->Cz x<=Im l
 | y::l,x,h=>by
  rw[Im];rcases List.mem_cons.1 h with rfl | h
  ·omega
  ·have:=Up h;omega
theorem Wk: ∀ {l:List As} {x:As},x∈l->Om x<=Dm l
 | y::l,x,h=>by
  rw[Dm];rcases List.mem_cons.1 h with rfl | h
  ·omega
  ·have:=Wk h;omega
theorem Ng: ∀ {l:List Ch} {x:Ch},x∈l->Um x<=Gp l
 | y::l,x,h=>by
  rw[Gp];rcases List.mem_cons.1 h with rfl | h
  ·omega
  ·have:=Ng h;omega
theorem Nh: ∀l:List Ex,l.length<=Im l
 | []=>Nat.le_refl _
 | x::l=>by rw[Im,jA];have:=Nh l;have:=Bd0 x;omega
theorem Wl: ∀l:List As,l.length<=Dm l
 | []=>Nat.le_refl _
 | x::l=>by rw[Dm,jA];have:=Wl l;have:=Cs9 x;omega
theorem Ni: ∀l:List Ch,l.length<=Gp l
 | []=>Nat.le_refl _
 | x::l=>by rw[Gp,jA];have:=Ni l;have:=Ct0 x;omega
theorem Dl4 {e:Ex}:e.l.length<=Cz e:=by have:=Nh e.l;rw[Un];omega
theorem Dl5 {e:Ex}:e.a.length<=Cz e:=by have:=Wl e.a;rw[Un];omega
theorem Dr9 {e x:Ex} (h:x∈e.l):Cz x<Cz e:=by have:=Up h;rw[Un e];omega
theorem Bo3 {e:Ex} {a:As} (h:a∈e.a):Om a<Cz e:=by have:=Wk h;rw[Un e];omega
theorem Dg8 (G:Nat->DVal) (H:Ab) (p:Ex->Bool) (l:List Ex) (g:FuncId) (xs ys:List DVal) (hl:l.length<=1099511627776)
  (hp: ∀x∈l,Ae Tryz.prog G g (xs++ [.agg (dEx x)]++ys) H (Bo (.bool (p x)) H)):
  Ae Tryz.prog G 186 [.vslice (l.flatMap dEx) l.length, .func (.func g) xs ys] H (Bo (dI (At0 p l)) H):=by
 refine Ac Tryz.func186 Tryz.call186 rfl (by kernel_rfl) ?_;simp(disch:=omega)only[go_sem];refine Bt4.run (fun(i:Nat) env heap=>heap=H/\env 0= .vslice (l.flatMap dEx) l.length/\env 1= .func (.func g) xs ys/\env 7=dI l.length/\env 8=dI i/\i<=l.length/\ ∀x∈l.take i,p x=false) (fun i=>l.length-i) 0 ?_ ?_
 ·simp(disch:=omega)only[go_sem];simp
 ·rintro i env heap ⟨rfl,h0,h1,h7,h8,hi,hn⟩;by_cases hlt:i<l.length
  ·have hget:=Dc Ai l i hlt;simp(disch:=omega)only[go_sem,h0,h1,h7,h8,hget,Bl Ai];have hc:=hp l[i] (List.getElem_mem hlt)
   skip
   refine hc.mono ?_;rintro _ H ⟨rfl,rfl⟩;cases hx:p l[i] with
   | true=>
    simp(disch:=omega)only[go_sem,h0,h1,h7,h8];exact Pl.refl ⟨by rw[At1 hlt hx hn],rfl⟩
   | false=>
    simp(disch:=omega)only[go_sem,h0,h1,h7,h8];refine⟨i+1,_,Lq.refl _, ?_,by omega⟩;simp(disch:=omega)only[go_sem,h0,h1,h7,h8];(repeat' apply And.intro)<;>(try first | rfl | assumption | omega);exact Lf hlt hn hx
  ·simp(disch:=omega)only[go_sem,h0,h1,h7,h8];have:i=l.length:=by omega
   subst this;rw[List.take_length] at hn;exact Pl.refl ⟨by rw[At2 hn],rfl⟩
theorem Bo4 (G:Nat->DVal) (H:Ab) (p:Ex->Bool) (l:List Ex) (g:FuncId) (xs ys:List DVal) (hl:l.length<=1099511627776)
  (hp: ∀x∈l,Ae Tryz.prog G g (xs++ [.agg (dEx x)]++ys) H (Bo (.bool (p x)) H)):
  Ae Tryz.prog G 76 [.vslice (l.flatMap dEx) l.length, .func (.func g) xs ys] H (Bo (.bool (l.any p)) H):=by
 refine Ac Tryz.func76 Tryz.call76 rfl (by kernel_rfl) ?_;simp(disch:=omega)only[go_sem];refine(Dg8 G H p l g xs ys hl hp).mono ?_;rintro _ H ⟨rfl,rfl⟩;simp(disch:=omega)only[go_sem];exact Pl.refl ⟨by rw[Ab6],rfl⟩
theorem Dg9 (G:Nat->DVal) (H:Ab) (p:As->Bool) (l:List As) (g:FuncId) (xs ys:List DVal) (hl:l.length<=1099511627776)
  (hp: ∀x∈l,Ae Tryz.prog G g (xs++ [.agg (dAs x)]++ys) H (Bo (.bool (p x)) H)):
  Ae Tryz.prog G 298 [.vslice (l.flatMap dAs) l.length, .func (.func g) xs ys] H (Bo (dI (At0 p l)) H):=by
 refine Ac Tryz.func298 Tryz.call298 rfl (by kernel_rfl) ?_;simp(disch:=omega)only[go_sem];refine Bt4.run (fun(i:Nat) env heap=>heap=H/\env 0= .vslice (l.flatMap dAs) l.length/\env 1= .func (.func g) xs ys/\env 7=dI l.length/\env 8=dI i/\i<=l.length/\ ∀x∈l.take i,p x=false) (fun i=>l.length-i) 0 ?_ ?_
 ·simp(disch:=omega)only[go_sem];simp
 ·rintro i env heap ⟨rfl,h0,h1,h7,h8,hi,hn⟩;by_cases hlt:i<l.length
  ·have hget:=Dc Dr l i hlt;simp(disch:=omega)only[go_sem,h0,h1,h7,h8,hget,Bl Dr];have hc:=hp l[i] (List.getElem_mem hlt)
   skip
   refine hc.mono ?_;rintro _ H ⟨rfl,rfl⟩;cases hx:p l[i] with
   | true=>
    simp(disch:=omega)only[go_sem,h0,h1,h7,h8];exact Pl.refl ⟨by rw[At1 hlt hx hn],rfl⟩
   | false=>
    simp(disch:=omega)only[go_sem,h0,h1,h7,h8];refine⟨i+1,_,Lq.refl _, ?_,by omega⟩;simp(disch:=omega)only[go_sem,h0,h1,h7,h8];(repeat' apply And.intro)<;>(try first | rfl | assumption | omega);exact Lf hlt hn hx
  ·simp(disch:=omega)only[go_sem,h0,h1,h7,h8];have:i=l.length:=by omega
   subst this;rw[List.take_length] at hn;exact Pl.refl ⟨by rw[At2 hn],rfl⟩
theorem Bo5 (G:Nat->DVal) (H:Ab) (p:As->Bool) (l:List As) (g:FuncId) (xs ys:List DVal) (hl:l.length<=1099511627776)
  (hp: ∀x∈l,Ae Tryz.prog G g (xs++ [.agg (dAs x)]++ys) H (Bo (.bool (p x)) H)):
  Ae Tryz.prog G 255 [.vslice (l.flatMap dAs) l.length, .func (.func g) xs ys] H (Bo (.bool (l.any p)) H):=by
 refine Ac Tryz.func255 Tryz.call255 rfl (by kernel_rfl) ?_;simp(disch:=omega)only[go_sem];refine(Dg9 G H p l g xs ys hl hp).mono ?_;rintro _ H ⟨rfl,rfl⟩;simp(disch:=omega)only[go_sem];exact Pl.refl ⟨by rw[Ab6],rfl⟩
theorem Dh0 (G:Nat->DVal) (H:Ab) (p:Ch->Bool) (l:List Ch) (g:FuncId) (xs ys:List DVal) (hl:l.length<=1099511627776)
  (hp: ∀x∈l,Ae Tryz.prog G g (xs++ [.agg (dCh x)]++ys) H (Bo (.bool (p x)) H)):
  Ae Tryz.prog G 185 [.vslice (l.flatMap dCh) l.length, .func (.func g) xs ys] H (Bo (dI (At0 p l)) H):=by
 refine Ac Tryz.func185 Tryz.call185 rfl (by kernel_rfl) ?_;simp(disch:=omega)only[go_sem];refine Bt4.run (fun(i:Nat) env heap=>heap=H/\env 0= .vslice (l.flatMap dCh) l.length/\env 1= .func (.func g) xs ys/\env 7=dI l.length/\env 8=dI i/\i<=l.length/\ ∀x∈l.take i,p x=false) (fun i=>l.length-i) 0 ?_ ?_
 ·simp(disch:=omega)only[go_sem];simp
 ·rintro i env heap ⟨rfl,h0,h1,h7,h8,hi,hn⟩;by_cases hlt:i<l.length
  ·have hget:=Dc Ea l i hlt;simp(disch:=omega)only[go_sem,h0,h1,h7,h8,hget,Bl Ea];have hc:=hp l[i] (List.getElem_mem hlt)
   skip
   refine hc.mono ?_;rintro _ H ⟨rfl,rfl⟩;cases hx:p l[i] with
   | true=>
    simp(disch:=omega)only[go_sem,h0,h1,h7,h8];exact Pl.refl ⟨by rw[At1 hlt hx hn],rfl⟩
   | false=>
    simp(disch:=omega)only[go_sem,h0,h1,h7,h8];refine⟨i+1,_,Lq.refl _, ?_,by omega⟩;simp(disch:=omega)only[go_sem,h0,h1,h7,h8];(repeat' apply And.intro)<;>(try first | rfl | assumption | omega);exact Lf hlt hn hx
  ·simp(disch:=omega)only[go_sem,h0,h1,h7,h8];have:i=l.length:=by omega
   subst this;rw[List.take_length] at hn;exact Pl.refl ⟨by rw[At2 hn],rfl⟩
theorem Ad1 (G:Nat->DVal) (H:Ab) (p:Ch->Bool) (l:List Ch) (g:FuncId) (xs ys:List DVal) (hl:l.length<=1099511627776)
  (hp: ∀x∈l,Ae Tryz.prog G g (xs++ [.agg (dCh x)]++ys) H (Bo (.bool (p x)) H)):
  Ae Tryz.prog G 74 [.vslice (l.flatMap dCh) l.length, .func (.func g) xs ys] H (Bo (.bool (l.any p)) H):=by
 refine Ac Tryz.func74 Tryz.call74 rfl (by kernel_rfl) ?_;simp(disch:=omega)only[go_sem];refine(Dh0 G H p l g xs ys hl hp).mono ?_;rintro _ H ⟨rfl,rfl⟩;simp(disch:=omega)only[go_sem];exact Pl.refl ⟨by rw[Ab6],rfl⟩
end Go.Dl

-- Chapter 3: what is valid: arguments, choices, associations.
namespace Go.Dl
open Go Go.Proofs
set_option maxRecDepth 100000
theorem Am8: ∀ {l:List As},Ly l=true↔ ∀i (h:i+1<l.length),(l[i].c.isEmpty || !l[i+1].c.isEmpty)=true
 | []=>⟨fun _ i h=>absurd h (by simp),fun _=>rfl⟩
 | [a]=>⟨fun _ i h=>absurd h (by simp),fun _=>rfl⟩
 | a::b::r=>by
  rw[Ly,jF,Am8 (l:=b::r)];constructor
  ·rintro⟨h1,h2⟩ i h;cases i with
   | zero=>exact h1
   | succ i=>exact h2 i (by simpa using h)
  ·intro h;exact⟨h 0 (by simp),fun i hi=>h (i+1) (by simpa using hi)⟩
theorem Cm {α:Type} (l:List α):l.isEmpty=decide (l.length=0):=by cases l<;>rfl
def Am9 (a b:As):Int:=(if(a.c.length:Int)<1 then(a.c.length:Int) else 1)-(if(b.c.length:Int)<1 then(b.c.length:Int) else 1)
section
variable {G:Nat->DVal} {H:Ab}
theorem Aj6 (G:Nat->DVal) (H:Ab) (a b:As):Ae Tryz.prog G 297 [.agg (dAs a), .agg (dAs b)] H (Bo (dI (Am9 a b)) H):=by
 have hw:IntKind.i64.wrap ((if(a.c.length:Int)<1 then(a.c.length:Int) else 1)-(if(b.c.length:Int)<1 then(b.c.length:Int) else 1))=Am9 a b:=by unfold Am9;rw[IntKind.wrap_i64];split<;>split<;>omega
 refine Ac Tryz.func297 Tryz.call297 rfl (by kernel_rfl) ?_;simp(disch:=omega)only[go_sem,DVal.cells];intro r2 hr2;dsimp only at hr2;simp(disch:=omega)only[go_sem,DVal.cells];intro r3 hr3;dsimp only at hr3;obtain⟨m2,m1,hr3'⟩:=Dk7.1 hr3;simp(disch:=omega)only[go_sem,m1,m2,hw];exact Pl.sub (show Sub H _ from(by repeat (first | exact Sub.refl _ | assumption | refine Sub.up ?_ (by assumption) _))) (Pl.refl ⟨rfl,rfl⟩)
theorem Aj7 (G:Nat->DVal) (H:Ab) (l:List As) (hl:l.length<=1099511627776):
  Ae Tryz.prog G 296 [.vslice (l.flatMap dAs) l.length, .func (.func 297) [] []] H (Bo (.bool (Ly l)) H):=by
 have hw:IntKind.i64.wrap ((l.length:Int)-1)=(l.length:Int)-1:=by rw[IntKind.wrap_i64];omega
 refine Ac Tryz.func296 Tryz.call296 rfl (by kernel_rfl) ?_;simp(disch:=omega)only[go_sem,hw];refine Bt4.run (fun(j:Nat) env heap=>heap=H/\env 0= .vslice (l.flatMap dAs) l.length/\env 1= .func (.func 297) [] []/\env 5=dI ((j:Int)-1)/\j<=l.length/\ ∀i (_:j<=i+1) (h:i+1<l.length),(l[i].c.isEmpty || !l[i+1].c.isEmpty)=true) (fun j=>j) l.length ?_ ?_
 ·simp(disch:=omega)only[go_sem];(repeat' apply And.intro)<;>(try first | rfl | assumption | omega)
 ·rintro j env heap ⟨rfl,h0,h1,h5,hj,hn⟩;by_cases hlt:1<j
  ·obtain⟨i,rfl⟩: ∃i,j=i+2:=⟨j-2,by omega⟩;have e5:((i+2:Nat):Int)-1=((i+1:Nat):Int):=by omega
   have hg1:=Dc Dr l (i+1) (by omega);have hg0:=Dc Dr l i (by omega);rw[e5] at h5;have hw2:IntKind.i64.wrap (((i+1:Nat):Int)-1)=(i:Int):=by rw[IntKind.wrap_i64];omega
   simp(disch:=omega)only[go_sem,h0,h1,h5];refine Am (by kernel_rfl) (.take 0 (.take 1 (.take 2 (.take 3 (.take 4 (.take 5 (.take 6 (.take 7 (.take 8 (.take 9 (.go 10 [] (.take 11 .done)))))))))))) (by kernel_rfl) ?_;simp(disch:=omega)only[go_sem,h0,h1,h5,hg1,hg0,hw2,Bl Dr];refine(Aj6 G _ l[i+1] l[i]).mono ?_;rintro _ H ⟨rfl,rfl⟩;by_cases c:Am9 l[i+1] l[i]<0
   ·simp(disch:=omega)only[go_sem,h0,h1,h5,c];refine Pl.refl ⟨?_,rfl⟩;have:Ly l=false:=by
     rw[<-Bool.not_eq_true,Am8];intro h;have:=h i (by omega);rw[Cm,Cm,Bool.or_eq_true,Bool.not_eq_true',decide_eq_true_eq,decide_eq_false_iff_not] at this;unfold Am9 at c;split at c<;>split at c<;>omega
    rw[this]
   ·simp(disch:=omega)only[go_sem,h0,h1,h5,hw2,c];refine⟨i+1,_,Lq.refl _, ?_,by omega⟩;simp(disch:=omega)only[go_sem,h0,h1,h5,hw2];(repeat' apply And.intro)<;>(try first | rfl | assumption | omega)
    ·rw[show((i+1:Nat):Int)-1=i by omega]
    intro i' hi1 hi2;by_cases e:i'=i
    ·subst e;rw[Cm,Cm,Bool.or_eq_true,Bool.not_eq_true',decide_eq_true_eq,decide_eq_false_iff_not];unfold Am9 at c;split at c<;>split at c<;>omega
    ·exact hn i' (by omega) hi2
  ·have: ¬(0:Int)<(j:Int)-1:=by omega
   simp(disch:=omega)only[go_sem,h0,h1,h5,this];refine Pl.refl ⟨?_,rfl⟩;rw[Am8.2 fun i h=>hn i (by omega) h]
theorem Uq (G:Nat->DVal) (H:Ab) (l:List As) (hl:l.length<=1099511627776):Ae Tryz.prog G 254 [.vslice (l.flatMap dAs) l.length] H (Bo (.bool (Ly l)) H):=by
 refine Ac Tryz.func254 Tryz.call254 rfl (by kernel_rfl) ?_;simp(disch:=omega)only[go_sem];refine(Aj7 G _ l hl).mono ?_;rintro _ H1 ⟨rfl,rfl⟩;simp(disch:=omega)only[go_sem];exact Pl.refl ⟨rfl,rfl⟩
theorem Ad2 (G:Nat->DVal) (H:Ab) (e:Ex) (k:Nat) (hk:0<k):Ae Tryz.prog G 179 [.agg (dEx e), .int .i64 k] H (Bo (.bool (Ge e k)) H):=by
 refine Ac Tryz.func179 Tryz.call179 rfl (by kernel_rfl) ?_;simp(disch:=omega)only[go_sem,DVal.cells];intro r hr;dsimp only at hr;by_cases h1:e.l.length=k
 ·have h1':(e.l.length:Int)=(k:Int):=by omega
  have hp:0<e.l.length:=by omega
  have hg:=Dc Ai e.l 0 hp;have hfl:=Bl Ai e.l;have hgd:e.l.getD 0 ex0=e.l[0]:=by rw[List.getD,List.getElem?_eq_getElem hp];rfl
  rw[Nat.zero_mul,jJ] at hg;simp(disch:=omega)only[go_sem,h1',hfl,hg];refine(Ef G _ e.l[0]).mono ?_;rintro _ H1 ⟨rfl,rfl⟩;simp(disch:=omega)only[go_sem];exact Pl.dropA r hr (Pl.refl ⟨by rw[Ge,decide_eq_true h1,jS,hgd],rfl⟩)
 ·have h1': ¬(e.l.length:Int)=(k:Int):=by omega
  simp(disch:=omega)only[go_sem,h1'];exact Pl.dropA r hr (Pl.refl ⟨by rw[Ge,decide_eq_false h1,jT],rfl⟩)
end
end Go.Dl

-- Chapter 3: what is valid: choices, arguments.
namespace Go.Dl
open Go Go.Proofs
set_option maxRecDepth 100000
theorem ch0 {l:List Ch} (h:0<l.length):(l.flatMap dCh)[0]? =some (.int .u8 l[0].kind)/\(l.flatMap dCh)[1]? =some (.vslice (l[0].l.flatMap dEx) l[0].l.length):=by
 have h0:=Hy Ea l 0 h 0 (by decide);have h1:=Hy Ea l 0 h 1 (by decide);rw[Dl3] at h0;rw[Cs8] at h1;exact⟨by simpa using h0,by simpa using h1⟩
theorem Dy8 {l:List Ex} (h:0<l.length):(l.flatMap dEx)[0]? =some (.int .u8 l[0].kind):=by
 have h0:=Hy Ai l 0 h 0 (by decide);rw[Dl1] at h0;simpa using h0
section
variable {G:Nat->DVal} {H:Ab}
theorem Bd1 (G:Nat->DVal) (H:Ab) (l:List Ch):Ae Tryz.prog G 257 [.vslice (l.flatMap dCh) l.length] H (Bo (.bool (Cn l)) H):=by
 have hfl:=Bl Ea l;refine Ac Tryz.func257 Tryz.call257 rfl (by kernel_rfl) ?_;by_cases h1:l.length=1
 ·have h1':(l.length:Int)=1:=by omega
  obtain⟨g0,g1⟩:=ch0 (l:=l) (by omega);obtain⟨c,rfl⟩:=List.length_eq_one_iff.1 h1;rw[List.getElem_cons_zero] at g0 g1;by_cases h2:c.kind=1
  ·by_cases h3:c.l.length=1
   ·have h3':(c.l.length:Int)=1:=by omega
    have g2:=Dy8 (l:=c.l) (by omega);have hfe:=Bl Ai c.l;obtain⟨x,hx⟩:=List.length_eq_one_iff.1 h3;have e:c.l[0]=x:=by simp [hx]
    rw[e] at g2;have hs:Cn [c]=decide (x.kind=3):=by simp [Cn,h2,hx]
    simp(disch:=omega)only[go_sem,h1',hfl,g0,g1,h2,h3',g2,hfe];exact Pl.refl ⟨by rw[hs],rfl⟩
   ·have h3': ¬(c.l.length:Int)=1:=by omega
    have hs:Cn [c]=false:=by
     rw[Cn];split
     ·rename_i hx;rw[hx] at h3;simp at h3
     ·simp
    simp(disch:=omega)only[go_sem,h1',hfl,g0,g1,h2,h3'];exact Pl.refl ⟨by rw[hs],rfl⟩
  ·simp(disch:=omega)only[go_sem,h1',hfl,g0,g1,h2];exact Pl.refl ⟨by simp [Cn,h2],rfl⟩
 ·have h1': ¬(l.length:Int)=1:=by omega
  have hs:Cn l=false:=by
   unfold Cn;split
   ·simp at h1
   ·rfl
  simp(disch:=omega)only[go_sem,h1'];exact Pl.refl ⟨by rw[hs],rfl⟩
theorem Ys (G:Nat->DVal) (H:Ab) (a:As):Ae Tryz.prog G 256 [.agg (dAs a)] H (Bo (.bool (!(a.c.isEmpty || Cn a.c))) H):=by
 refine Ac Tryz.func256 Tryz.call256 rfl (by kernel_rfl) ?_;simp(disch:=omega)only[go_sem,DVal.cells];intro r hr;dsimp only at hr;by_cases h1:0<a.c.length
 ·have h1':(0:Int)<(a.c.length:Int):=by omega
  have he:a.c.isEmpty=false:=by rw[Cm];exact decide_eq_false (by omega)
  simp(disch:=omega)only[go_sem,h1'];refine(Bd1 G _ a.c).mono ?_;rintro _ H1 ⟨rfl,rfl⟩;simp(disch:=omega)only[go_sem];exact Pl.dropA r hr (Pl.refl ⟨by rw[he,Bool.false_or],rfl⟩)
 ·have h1': ¬(0:Int)<(a.c.length:Int):=by omega
  have he:a.c.isEmpty=true:=by rw[Cm];exact decide_eq_true (by omega)
  simp(disch:=omega)only[go_sem,h1'];exact Pl.dropA r hr (Pl.refl ⟨by rw[he];rfl,rfl⟩)
theorem Zf {α:Type} (p:α->Bool) (l:List α):l.any (fun x=>!p x)=!l.all p:=by
 induction l with
 | nil=>rfl
 | cons x l ih=>rw[List.any_cons,List.all_cons,ih,Bool.not_and]
theorem Ad3 (G:Nat->DVal) (H:Ab) (l:List As) (hl:l.length<=1099511627776):Ae Tryz.prog G 180 [.vslice (l.flatMap dAs) l.length] H (Bo (.bool (Ii l)) H):=by
 refine Ac Tryz.func180 Tryz.call180 rfl (by kernel_rfl) ?_;by_cases h1:0<l.length
 ·have h1':(0:Int)<(l.length:Int):=by omega
  by_cases h2:l.length<=8
  ·have h2':(l.length:Int)<=8:=by omega
   simp(disch:=omega)only[go_sem,h1',h2'];refine(Uq G _ l hl).mono ?_;rintro _ H1 ⟨rfl,rfl⟩;cases h3:Ly l with
   | false=>
    simp(disch:=omega)only[go_sem];exact Pl.refl ⟨by rw[Ii,h3,Bool.and_false,jT],rfl⟩
   | true=>
    simp(disch:=omega)only[go_sem];refine(Bo5 G _ (fun a=>!(a.c.isEmpty || Cn a.c)) l 256 [] [] hl fun x _=>Ys G _ x).mono ?_;rintro _ H1 ⟨rfl,rfl⟩;rw[Zf];simp(disch:=omega)only[go_sem];exact Pl.refl ⟨by rw[Ii,h3,decide_eq_true h1,decide_eq_true h2,jS,jS,jS,Bool.not_not],rfl⟩
  ·have h2': ¬(l.length:Int)<=8:=by omega
   simp(disch:=omega)only[go_sem,h1',h2'];exact Pl.refl ⟨by rw[Ii,decide_eq_false h2,Bool.and_false,jT,jT],rfl⟩
 ·have h1': ¬(0:Int)<(l.length:Int):=by omega
  simp(disch:=omega)only[go_sem,h1'];exact Pl.refl ⟨by rw[Ii,decide_eq_false h1,jT,jT,jT],rfl⟩
def Jx:List (DVal×DVal):= [(.int .u8 1, .int .i64 1),(.int .u8 2, .int .i64 2),(.int .u8 3, .int .i64 0)]
theorem Bd2 (G:Nat->DVal) (H:Ab) (n:Nat) (l:List Ch) (c:Ch) (r1 rm r3:Nat) (h1:H r1=some (.cells [.vslice (l.flatMap dCh) l.length] 41)) (hm:H rm=some (.map Jx)) (h3:H r3=some (.cells [.omap rm] 236)):
  Ae Tryz.prog G 184 ([]++ [.agg (dCh c)]++ [.optr r3 0, .optr r1 0]) H (Bo (.bool (!Dp l.length c)) H):=by
 refine Ac Tryz.func184 Tryz.call184 rfl (by kernel_rfl) ?_;simp(disch:=omega)only[go_sem,DVal.cells,jG,jI];intro r hr;dsimp only at hr;have n1:r1≠r:=Ad hr h1;have n3:r3≠r:=Ad hr h3;have nm:rm≠r:=Ad hr hm;by_cases k1:c.kind=1
 ·simp(disch:=omega)only[go_sem,n1,n3,nm,h1,hm,h3,k1,Jx];refine⟨_,rfl, ?_⟩;by_cases q:c.l.length=1
  ·have q':(c.l.length:Int)=1:=by omega
   simp(disch:=omega)only[go_sem,n1,n3,nm,h1,hm,h3,k1,Jx,q'];exact Pl.dropA r hr (Pl.refl ⟨by simp [Dp,k1,q],rfl⟩)
  ·have q': ¬(1:Int)=(c.l.length:Int):=by omega
   simp(disch:=omega)only[go_sem,n1,n3,nm,h1,hm,h3,k1,Jx,q'];exact Pl.dropA r hr (Pl.refl ⟨by simp [Dp,k1,q],rfl⟩)
 by_cases k2:c.kind=2
 ·simp(disch:=omega)only[go_sem,n1,n3,nm,h1,hm,h3,k2,Jx];refine⟨_,rfl, ?_⟩;by_cases q:c.l.length=2
  ·have q':(c.l.length:Int)=2:=by omega
   simp(disch:=omega)only[go_sem,n1,n3,nm,h1,hm,h3,k2,Jx,q'];exact Pl.dropA r hr (Pl.refl ⟨by simp [Dp,k2,q],rfl⟩)
  ·have q': ¬(2:Int)=(c.l.length:Int):=by omega
   simp(disch:=omega)only[go_sem,n1,n3,nm,h1,hm,h3,k2,Jx,q'];exact Pl.dropA r hr (Pl.refl ⟨by simp [Dp,k2,q],rfl⟩)
 by_cases k3:c.kind=3
 ·simp(disch:=omega)only[go_sem,n1,n3,nm,h1,hm,h3,k3,Jx];refine⟨_,rfl, ?_⟩;by_cases q:c.l.length=0
  ·have q':(c.l.length:Int)=0:=by omega
   simp(disch:=omega)only[go_sem,n1,n3,nm,h1,hm,h3,k3,Jx,q'];refine Pl.dropA r hr (Pl.refl ⟨?_,rfl⟩);have e:Dp l.length c=decide (l.length<=1):=by simp [Dp,k3,q]
   by_cases q2:l.length<=1
   ·rw[e,decide_eq_true q2,decide_eq_false (show¬(1:Int)<(l.length:Int) by omega)];rfl
   ·rw[e,decide_eq_false q2,decide_eq_true (show(1:Int)<(l.length:Int) by omega)];rfl
  ·have q': ¬(0:Int)=(c.l.length:Int):=by omega
   simp(disch:=omega)only[go_sem,n1,n3,nm,h1,hm,h3,k3,Jx,q'];exact Pl.dropA r hr (Pl.refl ⟨by simp [Dp,k3,q],rfl⟩)
 ·simp(disch:=omega)only[go_sem,n1,n3,nm,h1,hm,h3,k1,k2,k3,Jx];exact Pl.dropA r hr (Pl.refl ⟨by simp [Dp,k1,k2,k3],rfl⟩)
theorem Ss (G:Nat->DVal) (H:Ab) (l:List Ch) (hl:l.length<=1099511627776):Ae Tryz.prog G 73 [.vslice (l.flatMap dCh) l.length] H (Bo (.bool (Ck l)) H):=by
 refine Ac Tryz.func73 Tryz.call73 rfl (by kernel_rfl) ?_;simp(disch:=omega)only[go_sem,DVal.cells];intro r1 hr1;dsimp only at hr1;simp(disch:=omega)only[go_sem,DVal.cells];intro rm hrm;dsimp only at hrm;obtain⟨m1,m2,hrm'⟩:=Dk7.1 hrm;simp(disch:=omega)only[go_sem,DVal.cells,m1,m2];intro r3 hr3;dsimp only at hr3;obtain⟨p1,p2,hr3a⟩:=Dk7.1 hr3;obtain⟨p3,p4,hr3'⟩:=Dk7.1 hr3a;have hsub:Sub H (upd (upd (upd H r1 (some (.cells [.vslice (l.flatMap dCh) l.length] 41))) rm (some (.map Jx))) r3 (some (.cells [.omap rm] 236))):=((Sub.refl H).new hr1 _ |>.new hrm _).new hr3 _;by_cases h1:0<l.length
 ·have h1':(0:Int)<(l.length:Int):=by omega
  by_cases h2:l.length<=16
  ·have h2':(l.length:Int)<=16:=by omega
   simp(disch:=omega)only[go_sem,m1,m2,p1,p2,p3,p4,h1',h2'];refine(Ad1 G _ (fun c=>!Dp l.length c) l 184 [] [.optr r3 0, .optr r1 0] hl fun x _=>Bd2 G _ l.length l x r1 rm r3 (by simp [upd,m1,m2,p1,p2,p3,p4]) (by simp [upd,m1,m2,p1,p2,p3,p4,Jx]) (by simp [upd])).mono ?_;rintro _ H1 ⟨rfl,rfl⟩;rw[Zf];simp(disch:=omega)only[go_sem,m1,m2,p1,p2,p3,p4];exact Pl.sub hsub (Pl.refl ⟨by rw[Ck,decide_eq_true h1,decide_eq_true h2,jS,jS,Bool.not_not],rfl⟩)
  ·have h2': ¬(l.length:Int)<=16:=by omega
   simp(disch:=omega)only[go_sem,m1,m2,p1,p2,p3,p4,h1',h2'];exact Pl.sub hsub (Pl.refl ⟨by rw[Ck,decide_eq_false h2,Bool.and_false,jT],rfl⟩)
 ·have h1': ¬(0:Int)<(l.length:Int):=by omega
  simp(disch:=omega)only[go_sem,m1,m2,p1,p2,p3,p4,h1'];exact Pl.sub hsub (Pl.refl ⟨by rw[Ck,decide_eq_false h1,jT,jT],rfl⟩)
end
end Go.Dl

-- Chapter 3: what is valid: associations.
namespace Go.Dl
open Go Go.Proofs
set_option maxRecDepth 100000
theorem Qn {l:List Ch} (h:0<l.length):Iu l=decide (l[0].kind=3):=by
 cases l with
 | nil=>simp at h
 | cons c l=>rfl
theorem Ad4 {l:List As} {k:Nat} (hk:k<l.length):Ew (l.drop k)=((l[k].c.isEmpty || Ck l[k].c&&(!Iu l[k].c || decide (k+1=l.length)))&&Ew (l.drop (k+1))):=by
 rw[List.drop_eq_getElem_cons hk,Ew,Cm (l.drop (k+1)),List.length_drop];have:(l.length-(k+1)=0)↔k+1=l.length:=by omega
 simp only[this]
theorem Bd3 {l:List As}:Mu l=(decide (l.length=1)&&(l.getD 0 default).c.isEmpty):=
 match l with
 | []=>rfl
 | [a]=>by simp [Mu]
 | a::b::l=>by simp [Mu]
theorem as0 {l:List As} (h:0<l.length):(l.flatMap dAs)[0]? =some (.vslice (l[0].c.flatMap dCh) l[0].c.length):=by
 have h0:=Hy Dr l 0 h 0 (by decide);rw[Dl2] at h0;simpa using h0
section
variable {G:Nat->DVal} {H:Ab}
theorem Ur (G:Nat->DVal) (H:Ab) (l:List As) (hl:l.length<=1099511627776) (hb: ∀a∈l,a.c.length<=1099511627776):Ae Tryz.prog G 181 [.vslice (l.flatMap dAs) l.length] H (Bo (.bool (Fk l)) H):=by
 refine Ac Tryz.func181 Tryz.call181 rfl (by kernel_rfl) ?_;by_cases h1:l.length=0
 ·have h1':(l.length:Int)=0:=by omega
  simp(disch:=omega)only[go_sem,h1'];exact Pl.refl ⟨by rw[Fk,decide_eq_false (show¬0<l.length by omega),jT,jT,jT,jT],rfl⟩
 have h1': ¬(l.length:Int)=0:=by omega
 have hpos:0<l.length:=by omega
 by_cases h2:32<l.length
 ·have h2':(32:Int)<(l.length:Int):=by omega
  simp(disch:=omega)only[go_sem,h1',h2'];exact Pl.refl ⟨by rw[Fk,decide_eq_false (show¬l.length<=32 by omega),Bool.and_false,jT,jT,jT],rfl⟩
 have h2': ¬(32:Int)<(l.length:Int):=by omega
 simp(disch:=omega)only[go_sem,h1',h2'];refine(Uq G _ l hl).mono ?_;rintro _ H1 ⟨rfl,rfl⟩;have hd:Fk l=(Ly l&&(!(decide (l.length=1)&&(l.getD 0 default).c.isEmpty)&&Ew l)):=by
  rw[Fk,decide_eq_true hpos,decide_eq_true (show l.length<=32 by omega),jS,jS,Bd3,Bool.and_assoc]
 rw[hd];cases h3:Ly l with
 | false=>
  simp(disch:=omega)only[go_sem];exact Pl.refl ⟨rfl,rfl⟩
 | true=>
  have hg0:=as0 hpos;have hgd:l.getD 0 default=l[0]:=by rw[List.getD,List.getElem?_eq_getElem hpos];rfl
  have hfl:=Bl Dr l;rw[hgd];by_cases h4:l.length=1/\l[0].c.length=0
  ·have h4a:(l.length:Int)=1:=by omega
   have h4b:(l[0].c.length:Int)=0:=by omega
   have e4:l[0].c.isEmpty=true:=by rw[Cm];exact decide_eq_true h4.2
   simp(disch:=omega)only[go_sem,h4a,h4b,hg0,hfl];exact Pl.refl ⟨by simp [e4],rfl⟩
  ·have e4:(decide (l.length=1)&&l[0].c.isEmpty)=false:=by
    rw[Cm,<-Bool.decide_and];exact decide_eq_false h4
   rw[e4];by_cases h5:l.length=1
   ·have h5':((l.length:Int)=1)=True:=eq_true (by omega);have h6': ¬(l[0].c.length:Int)=0:=by omega
    simp(disch:=omega)only[go_sem,h5',h6',hg0,hfl];obtain⟨I,hI⟩: ∃I:Nat->(Nat->DVal)->Ab->Prop,∀k env heap,I k env heap↔(env 0= .vslice (l.flatMap dAs) l.length/\env 31= .vslice (l.flatMap dAs) l.length/\env 32=dI l.length/\env 33=dI k/\k<=l.length/\Ew l=Ew (l.drop k)/\Sub H1 heap):=⟨_,fun _ _ _=>Iff.rfl⟩;refine Bt4.run I (fun k=>l.length-k) 0 ((hI _ _ _).2 ?_) ?_
    ·simp(disch:=omega)only[go_sem];(repeat' apply And.intro)<;>(try first | rfl | assumption | omega);exact Sub.refl _
    ·intro k env heap hi;obtain⟨e0,e31,e32,e33,hk,hall,hsub⟩:=(hI _ _ _).1 hi;by_cases hlt:k<l.length
     ·have hlt':(k:Int)<(l.length:Int):=by omega
      have hget:=Dc Dr l k hlt;have hwd:IntKind.i64.wrap ((k:Int)+1)=((k+1:Nat):Int):=by rw[IntKind.wrap_i64];omega
      have hwl:IntKind.i64.wrap ((l.length:Int)-1)=(l.length:Int)-1:=by rw[IntKind.wrap_i64];omega
      have hba:=hb l[k] (List.getElem_mem hlt);rw[Ad4 hlt] at hall;simp(disch:=omega)only[go_sem,e0,e31,e32,e33,hlt',hget,hfl,jD];intro r4 hr4;dsimp only at hr4;by_cases q1:0<l[k].c.length
      ·have q1':(0:Int)<(l[k].c.length:Int):=by omega
       have e1:l[k].c.isEmpty=false:=by rw[Cm];exact decide_eq_false (by omega)
       rw[e1,Bool.false_or] at hall;simp(disch:=omega)only[go_sem,e0,e31,e32,e33,q1'];refine(Ss G _ l[k].c hba).mono ?_;rintro _ H2 ⟨rfl,rfl⟩;cases q2:Ck l[k].c with
       | false=>
        rw[q2,jT,jT] at hall;simp(disch:=omega)only[go_sem,e0,e31,e32,e33];exact Pl.sub (hsub.new hr4 _) (Pl.refl ⟨by rw[hall],rfl⟩)
       | true=>
        obtain⟨g0,_⟩:=ch0 q1;have hfc:=Bl Ea l[k].c;rw[q2,jS,Qn q1] at hall;by_cases q3:l[k].c[0].kind=3
        ·rw[decide_eq_true q3,Bool.not_true,Bool.false_or] at hall;by_cases q4:k+1=l.length
         ·have q4': ¬(k:Int)<(l.length:Int)-1:=by omega
          rw[decide_eq_true q4,jS] at hall;simp(disch:=omega)only[go_sem,e0,e31,e32,e33,g0,hfc,q3,q4',hwl];refine⟨k+1,_,Lq.refl _,(hI _ _ _).2 ?_,by omega⟩;simp(disch:=omega)only[go_sem,e0,e31,e32,e33,hwd];(repeat' apply And.intro)<;>(try first | rfl | assumption | omega);all_goals exact hsub.new hr4 _
         ·have q4':(k:Int)<(l.length:Int)-1:=by omega
          rw[decide_eq_false q4,jT] at hall;simp(disch:=omega)only[go_sem,e0,e31,e32,e33,g0,hfc,q3,q4',hwl];exact Pl.sub (hsub.new hr4 _) (Pl.refl ⟨by rw[hall],rfl⟩)
        ·rw[decide_eq_false q3,Bool.not_false,Bool.true_or,jS] at hall;simp(disch:=omega)only[go_sem,e0,e31,e32,e33,g0,hfc,q3];refine⟨k+1,_,Lq.refl _,(hI _ _ _).2 ?_,by omega⟩;simp(disch:=omega)only[go_sem,e0,e31,e32,e33,hwd];(repeat' apply And.intro)<;>(try first | rfl | assumption | omega);all_goals exact hsub.new hr4 _
      ·have q1': ¬(0:Int)<(l[k].c.length:Int):=by omega
       have e1:l[k].c.isEmpty=true:=by rw[Cm];exact decide_eq_true (by omega)
       rw[e1,Bool.true_or,jS] at hall;simp(disch:=omega)only[go_sem,e0,e31,e32,e33,q1'];refine⟨k+1,_,Lq.refl _,(hI _ _ _).2 ?_,by omega⟩;simp(disch:=omega)only[go_sem,e0,e31,e32,e33,hwd];(repeat' apply And.intro)<;>(try first | rfl | assumption | omega);all_goals exact hsub.new hr4 _
     ·have:k=l.length:=by omega
      subst this;rw[List.drop_length] at hall;simp(disch:=omega)only[go_sem,e0,e31,e32,e33];exact Pl.sub hsub (Pl.refl ⟨by rw[hall];rfl,rfl⟩)
   ·have h5': ¬(l.length:Int)=1:=by omega
    simp(disch:=omega)only[go_sem,h5'];obtain⟨I,hI⟩: ∃I:Nat->(Nat->DVal)->Ab->Prop,∀k env heap,I k env heap↔(env 0= .vslice (l.flatMap dAs) l.length/\env 31= .vslice (l.flatMap dAs) l.length/\env 32=dI l.length/\env 33=dI k/\k<=l.length/\Ew l=Ew (l.drop k)/\Sub H1 heap):=⟨_,fun _ _ _=>Iff.rfl⟩;refine Bt4.run I (fun k=>l.length-k) 0 ((hI _ _ _).2 ?_) ?_
    ·simp(disch:=omega)only[go_sem];(repeat' apply And.intro)<;>(try first | rfl | assumption | omega);exact Sub.refl _
    ·intro k env heap hi;obtain⟨e0,e31,e32,e33,hk,hall,hsub⟩:=(hI _ _ _).1 hi;by_cases hlt:k<l.length
     ·have hlt':(k:Int)<(l.length:Int):=by omega
      have hget:=Dc Dr l k hlt;have hwd:IntKind.i64.wrap ((k:Int)+1)=((k+1:Nat):Int):=by rw[IntKind.wrap_i64];omega
      have hwl:IntKind.i64.wrap ((l.length:Int)-1)=(l.length:Int)-1:=by rw[IntKind.wrap_i64];omega
      have hba:=hb l[k] (List.getElem_mem hlt);rw[Ad4 hlt] at hall;simp(disch:=omega)only[go_sem,e0,e31,e32,e33,hlt',hget,hfl,jD];intro r4 hr4;dsimp only at hr4;by_cases q1:0<l[k].c.length
      ·have q1':(0:Int)<(l[k].c.length:Int):=by omega
       have e1:l[k].c.isEmpty=false:=by rw[Cm];exact decide_eq_false (by omega)
       rw[e1,Bool.false_or] at hall;simp(disch:=omega)only[go_sem,e0,e31,e32,e33,q1'];refine(Ss G _ l[k].c hba).mono ?_;rintro _ H2 ⟨rfl,rfl⟩;cases q2:Ck l[k].c with
       | false=>
        rw[q2,jT,jT] at hall;simp(disch:=omega)only[go_sem,e0,e31,e32,e33];exact Pl.sub (hsub.new hr4 _) (Pl.refl ⟨by rw[hall],rfl⟩)
       | true=>
        obtain⟨g0,_⟩:=ch0 q1;have hfc:=Bl Ea l[k].c;rw[q2,jS,Qn q1] at hall;by_cases q3:l[k].c[0].kind=3
        ·rw[decide_eq_true q3,Bool.not_true,Bool.false_or] at hall;by_cases q4:k+1=l.length
         ·have q4': ¬(k:Int)<(l.length:Int)-1:=by omega
          rw[decide_eq_true q4,jS] at hall;simp(disch:=omega)only[go_sem,e0,e31,e32,e33,g0,hfc,q3,q4',hwl];refine⟨k+1,_,Lq.refl _,(hI _ _ _).2 ?_,by omega⟩;simp(disch:=omega)only[go_sem,e0,e31,e32,e33,hwd];(repeat' apply And.intro)<;>(try first | rfl | assumption | omega);all_goals exact hsub.new hr4 _
         ·have q4':(k:Int)<(l.length:Int)-1:=by omega
          rw[decide_eq_false q4,jT] at hall;simp(disch:=omega)only[go_sem,e0,e31,e32,e33,g0,hfc,q3,q4',hwl];exact Pl.sub (hsub.new hr4 _) (Pl.refl ⟨by rw[hall],rfl⟩)
        ·rw[decide_eq_false q3,Bool.not_false,Bool.true_or,jS] at hall;simp(disch:=omega)only[go_sem,e0,e31,e32,e33,g0,hfc,q3];refine⟨k+1,_,Lq.refl _,(hI _ _ _).2 ?_,by omega⟩;simp(disch:=omega)only[go_sem,e0,e31,e32,e33,hwd];(repeat' apply And.intro)<;>(try first | rfl | assumption | omega);all_goals exact hsub.new hr4 _
      ·have q1': ¬(0:Int)<(l[k].c.length:Int):=by omega
       have e1:l[k].c.isEmpty=true:=by rw[Cm];exact decide_eq_true (by omega)
       rw[e1,Bool.true_or,jS] at hall;simp(disch:=omega)only[go_sem,e0,e31,e32,e33,q1'];refine⟨k+1,_,Lq.refl _,(hI _ _ _).2 ?_,by omega⟩;simp(disch:=omega)only[go_sem,e0,e31,e32,e33,hwd];(repeat' apply And.intro)<;>(try first | rfl | assumption | omega);all_goals exact hsub.new hr4 _
     ·have:k=l.length:=by omega
      subst this;rw[List.drop_length] at hall;simp(disch:=omega)only[go_sem,e0,e31,e32,e33];exact Pl.sub hsub (Pl.refl ⟨by rw[hall];rfl,rfl⟩)
end
end Go.Dl

-- Chapter 3: each.
namespace Go.Dl
open Go Go.Proofs
set_option maxRecDepth 100000
def Bd4 {σ:Type} (R:Ex->σ->Bool->σ->Prop):List Ex->σ->Bool->σ->Prop
 | [],s,b,s'=>b=true/\s'=s
 | x::l,s,b,s'=> ∃b1 s1,R x s b1 s1/\((b1=true/\Bd4 R l s1 b s')\/(b1=false/\b=false/\s'=s1))
def Ye {σ:Type} (R:Ex->σ->Bool->σ->Prop) (all:List Ex) (s0:σ) (rest:List Ex) (s:σ):Prop:= ∀b s',Bd4 R rest s b s'->Bd4 R all s0 b s'
section
variable {σ:Type} {R:Ex->σ->Bool->σ->Prop} {all rest:List Ex} {s0 s s1:σ} {x:Ex}
theorem Ye.next (h:Ye R all s0 (x::rest) s) (k:R x s true s1):Ye R all s0 rest s1:=fun b s' hr=>h b s' ⟨true,s1,k, .inl ⟨rfl,hr⟩⟩
theorem Ye.no (h:Ye R all s0 (x::rest) s) (k:R x s false s1):Bd4 R all s0 false s1:=h false s1 ⟨false,s1,k, .inr ⟨rfl,rfl,rfl⟩⟩
theorem Ye.fin (h:Ye R all s0 [] s):Bd4 R all s0 true s:=h true s ⟨rfl,rfl⟩
end
def Pn (r:Nat) (H H':Ab):Prop:= ∀b o,b≠r->H b=some o->H' b=some o
theorem Pn.refl (r:Nat) (H:Ab):Pn r H H:=fun _ _ _ h=>h
theorem Pn.trans {r:Nat} {H H' H'':Ab} (h:Pn r H H') (k:Pn r H' H''):Pn r H H'':=fun b o hb hh=>k b o hb (h b o hb hh)
theorem Pn.new {r:Nat} {H H':Ab} (h:Pn r H H') {q:Nat} (hq:H' q=none) (x:Option DObj):Pn r H (upd H' q x):=fun b o hb hh=>by
 have:=h b o hb hh;have:b≠q:=fun e=>by rw[e,hq] at this;cases this
 simp only[upd,if_neg this];exact h b o hb hh
theorem Pn.set {r:Nat} {H H':Ab} (h:Pn r H H') (x:Option DObj):Pn r H (upd H' r x):=fun b o hb hh=>by
 simp only[upd,if_neg hb];exact h b o hb hh
theorem Pn.sub {r:Nat} {H H':Ab} (h:Pn r H H') {H0:Ab} (k:Sub H0 H) (hr:H0 r=none):Sub H0 H':=fun b o hb=>h b o (fun e=>by rw[e,hr] at hb;cases hb) (k b o hb)
def Ma (s:Int):DObj:= .cells [.int .i64 s] 3
section
variable {G:Nat->DVal}
def Dw5 (R:Ex->Int->Bool->Int->Prop) (all:List Ex) (s0:Int) (r:Nat) (H0:Ab) (e:DEnd) (H':Ab):Prop:=
 ∃b s',e= .ret (.bool b)/\Bd4 R all s0 b s'/\H' r=some (Ma s')/\Pn r H0 H'
def Dl6 (R:Ex->Int->Bool->Int->Prop) (x:Ex) (s:Int) (r:Nat) (H:Ab) (e:DEnd) (H':Ab):Prop:=
 ∃b s',e= .ret (.bool b)/\R x s b s'/\H' r=some (Ma s')/\Pn r H H'
set_option maxHeartbeats 4000000 in
theorem An0 (G:Nat->DVal) (H0:Ab) (e:Ex) (hb:Cz e<=1099511627776) (g:FuncId) (xs ys:List DVal) (R:Ex->Int->Bool->Int->Prop) (r:Nat) (s0:Int) (hr:H0 r=some (Ma s0))
  (hf: ∀x∈parts e,∀s H,H r=some (Ma s)->Pn r H0 H->Ae Tryz.prog G g (xs++ [.agg (dEx x)]++ys) H (Dl6 R x s r H)):
  Ae Tryz.prog G 70 [.agg (dEx e), .func (.func g) xs ys] H0 (Dw5 R (parts e) s0 r H0):=by
 have hal:= @Dl5 e;have hll:= @Dl4 e;have hfl:=Bl Ai e.l;have hfa:=Bl Dr e.a;refine Ac Tryz.func70 Tryz.call70 rfl (by kernel_rfl) ?_;simp(disch:=omega)only[go_sem,DVal.cells];intro r2 hr2;dsimp only at hr2;have n2:r≠r2:=Ad hr2 hr;have n2':r2≠r:=n2.symm;simp(disch:=omega)only[go_sem];obtain⟨I,hI⟩: ∃I:Nat×Int->(Nat->DVal)->Ab->Prop,∀k env heap,I k env heap↔(env 1= .func (.func g) xs ys/\env 2= .optr r2 0/\env 14= .vslice (e.l.flatMap dEx) e.l.length/\env 15=dI e.l.length/\env 16=dI k.1/\k.1<=e.l.length/\heap r=some (Ma k.2)/\heap r2=some (.cells (dEx e) 27)/\Pn r H0 heap/\Ye R (parts e) s0 (e.l.drop k.1++e.a.flatMap Ct) k.2):=⟨_,fun _ _ _=>Iff.rfl⟩;refine Bt4.run I (fun k=>e.l.length-k.1) (0,s0) ((hI _ _ _).2 ?_) ?_
 ·simp(disch:=omega)only[go_sem,n2,n2'];(repeat' apply And.intro)<;>(try first | rfl | assumption | omega)
  ·exact(Pn.refl r H0).new hr2 _
  ·exact fun b s' h=>h
 ·rintro⟨k,s⟩ env heap hi;obtain⟨e1,e2,e14,e15,e16,hk,hh,hh2,ht,hc⟩:=(hI _ _ _).1 hi;dsimp only at e16 hk hh hc;by_cases hlt:k<e.l.length
  ·have hlt':(k:Int)<(e.l.length:Int):=by omega
   have hget:=Dc Ai e.l k hlt;have hwd:IntKind.i64.wrap ((k:Int)+1)=((k+1:Nat):Int):=by rw[IntKind.wrap_i64];omega
   rw[List.drop_eq_getElem_cons hlt,jI] at hc;simp(disch:=omega)only[go_sem,e1,e2,e14,e15,e16,hlt',hget,hfl,jD];intro r6 hr6;dsimp only at hr6;have n6:r≠r6:=Ad hr6 hh;have n62:r2≠r6:=Ad hr6 hh2;have ht6:=ht.new hr6 (some (.cells (dEx e.l[k]) 27));simp(disch:=omega)only[go_sem,e1,e2,e14,e15,e16];refine(hf e.l[k] (Ar (List.getElem_mem hlt)) s _ (by simp only[upd,if_neg n6];exact hh) ht6).mono ?_;rintro _ H2 ⟨b,s1,rfl,hR,hh',ht'⟩;have hh2':H2 r2=some (.cells (dEx e) 27):=ht' r2 _ n2' (by simp only[upd,if_neg n62];exact hh2);cases b with
   | false=>
    simp(disch:=omega)only[go_sem,e1,e2,e14,e15,e16];exact Pl.refl ⟨false,s1,rfl,hc.no hR,hh',ht6.trans ht'⟩
   | true=>
    simp(disch:=omega)only[go_sem,e1,e2,e14,e15,e16];refine⟨(k+1,s1),_,Lq.refl _,(hI _ _ _).2 ?_,by dsimp only;omega⟩;simp(disch:=omega)only[go_sem,e1,e2,e14,e15,e16,hwd];(repeat' apply And.intro)<;>(try first | rfl | assumption | omega)
    ·exact ht6.trans ht'
    ·exact hc.next hR
  ·have:k=e.l.length:=by omega
   subst this;rw[List.drop_length,jG] at hc;simp(disch:=omega)only[go_sem,e1,e2,e14,e15,e16,hh2];obtain⟨J,hJ⟩: ∃J:Nat×Int->(Nat->DVal)->Ab->Prop,∀k env heap,J k env heap↔(env 1= .func (.func g) xs ys/\env 26= .vslice (e.a.flatMap dAs) e.a.length/\env 27=dI e.a.length/\env 28=dI k.1/\k.1<=e.a.length/\heap r=some (Ma k.2)/\Pn r H0 heap/\Ye R (parts e) s0 ((e.a.drop k.1).flatMap Ct) k.2):=⟨_,fun _ _ _=>Iff.rfl⟩;refine Bt4.run J (fun k=>e.a.length-k.1) (0,s) ((hJ _ _ _).2 ?_) ?_
   ·simp(disch:=omega)only[go_sem,e1,e2,hh2];(repeat' apply And.intro)<;>(try first | rfl | assumption | omega)
   ·rintro⟨j,s⟩ env heap hi;obtain⟨e1,e26,e27,e28,hj,hh,ht,hc⟩:=(hJ _ _ _).1 hi;dsimp only at e28 hj hh hc;by_cases hjl:j<e.a.length
    ·have hjl':(j:Int)<(e.a.length:Int):=by omega
     have hget:=Dc Dr e.a j hjl;have hwj:IntKind.i64.wrap ((j:Int)+1)=((j+1:Nat):Int):=by rw[IntKind.wrap_i64];omega
     have hma:=List.getElem_mem hjl;have hba:=Bo3 hma;obtain⟨a,ha⟩: ∃a,a=e.a[j]:=⟨_,rfl⟩;rw[List.drop_eq_getElem_cons hjl,List.flatMap_cons,Ct,jO,<-ha] at hc;rw[<-ha] at hget hma hba;have hbc:=Ni a.c;have hfc:=Bl Ea a.c;rw[Uo] at hba;simp(disch:=omega)only[go_sem,e1,e26,e27,e28,hjl',hget,hfa,jD];intro r8 hr8;dsimp only at hr8;have n8:r≠r8:=Ad hr8 hh;have ht8:=ht.new hr8 (some (.cells (dAs a) 44));simp(disch:=omega)only[go_sem,e1,e26,e27,e28];obtain⟨K,hK⟩: ∃K:Nat×Int->(Nat->DVal)->Ab->Prop,∀k env heap,K k env heap↔(env 1= .func (.func g) xs ys/\env 8= .optr r8 0/\env 26= .vslice (e.a.flatMap dAs) e.a.length/\env 27=dI e.a.length/\env 28=dI j/\env 33= .vslice (a.c.flatMap dCh) a.c.length/\env 34=dI a.c.length/\env 35=dI k.1/\k.1<=a.c.length/\heap r=some (Ma k.2)/\heap r8=some (.cells (dAs a) 44)/\Pn r H0 heap/\Ye R (parts e) s0 ((a.c.drop k.1).flatMap Ch.l++([a.e]++(e.a.drop (j+1)).flatMap Ct)) k.2):=⟨_,fun _ _ _=>Iff.rfl⟩;refine Bt4.run K (fun k=>a.c.length-k.1) (0,s) ((hK _ _ _).2 ?_) ?_
     ·simp(disch:=omega)only[go_sem,e1,e26,e27,e28,n8];(repeat' apply And.intro)<;>(try first | rfl | assumption | omega)
     ·rintro⟨m,s⟩ env heap hi;obtain⟨e1,e8,e26,e27,e28,e33,e34,e35,hm,hh,hh8,ht,hc⟩:=(hK _ _ _).1 hi;dsimp only at e35 hm hh hc;by_cases hml:m<a.c.length
      ·have hml':(m:Int)<(a.c.length:Int):=by omega
       have hget:=Dc Ea a.c m hml;have hwm:IntKind.i64.wrap ((m:Int)+1)=((m+1:Nat):Int):=by rw[IntKind.wrap_i64];omega
       have hmc:=List.getElem_mem hml;have hbm:=Ng hmc;obtain⟨c,hcc⟩: ∃c,c=a.c[m]:=⟨_,rfl⟩;rw[List.drop_eq_getElem_cons hml,List.flatMap_cons,jO,<-hcc] at hc;rw[<-hcc] at hget hmc hbm;have hbl:=Nh c.l;have hfx:=Bl Ai c.l;rw[On] at hbm;simp(disch:=omega)only[go_sem,e1,e8,e26,e27,e28,e33,e34,e35,hml',hget,hfc,jD];intro r10 hr10;dsimp only at hr10;have n10:r≠r10:=Ad hr10 hh;have n108:r8≠r10:=Ad hr10 hh8;have ht10:=ht.new hr10 (some (.cells (dCh c) 47));simp(disch:=omega)only[go_sem,e1,e8,e26,e27,e28,e33,e34,e35];obtain⟨M,hM⟩: ∃M:Nat×Int->(Nat->DVal)->Ab->Prop,∀k env heap,M k env heap↔(env 1= .func (.func g) xs ys/\env 8= .optr r8 0/\env 26= .vslice (e.a.flatMap dAs) e.a.length/\env 27=dI e.a.length/\env 28=dI j/\env 33= .vslice (a.c.flatMap dCh) a.c.length/\env 34=dI a.c.length/\env 35=dI m/\env 40= .vslice (c.l.flatMap dEx) c.l.length/\env 41=dI c.l.length/\env 42=dI k.1/\k.1<=c.l.length/\heap r=some (Ma k.2)/\heap r8=some (.cells (dAs a) 44)/\Pn r H0 heap/\Ye R (parts e) s0 (c.l.drop k.1++((a.c.drop (m+1)).flatMap Ch.l++([a.e]++(e.a.drop (j+1)).flatMap Ct))) k.2):=⟨_,fun _ _ _=>Iff.rfl⟩;refine Bt4.run M (fun k=>c.l.length-k.1) (0,s) ((hM _ _ _).2 ?_) ?_
       ·simp(disch:=omega)only[go_sem,e1,e8,e26,e27,e28,e33,e34,e35,n10,n108];(repeat' apply And.intro)<;>(try first | rfl | assumption | omega)
       ·rintro⟨q,s⟩ env heap hi;obtain⟨e1,e8,e26,e27,e28,e33,e34,e35,e40,e41,e42,hq,hh,hh8,ht,hc⟩:=(hM _ _ _).1 hi;dsimp only at e42 hq hh hc;by_cases hql:q<c.l.length
        ·have hql':(q:Int)<(c.l.length:Int):=by omega
         have hget:=Dc Ai c.l q hql;have hwq:IntKind.i64.wrap ((q:Int)+1)=((q+1:Nat):Int):=by rw[IntKind.wrap_i64];omega
         rw[List.drop_eq_getElem_cons hql,jI] at hc;simp(disch:=omega)only[go_sem,e1,e8,e26,e27,e28,e33,e34,e35,e40,e41,e42,hql',hget,hfx,jD];intro r12 hr12;dsimp only at hr12;have n12:r≠r12:=Ad hr12 hh;have n128:r8≠r12:=Ad hr12 hh8;have ht12:=ht.new hr12 (some (.cells (dEx c.l[q]) 27));simp(disch:=omega)only[go_sem,e1,e8,e26,e27,e28,e33,e34,e35,e40,e41,e42];refine(hf c.l[q] (Gt hma (Ky hmc (List.getElem_mem hql))) s _ (by simp only[upd,if_neg n12];exact hh) ht12).mono ?_;rintro _ H2 ⟨b,s1,rfl,hR,hh',ht'⟩;have hh8':H2 r8=some (.cells (dAs a) 44):=ht' r8 _ n8.symm (by simp only[upd,if_neg n128];exact hh8);cases b with
         | false=>
          simp(disch:=omega)only[go_sem,e1,e8,e26,e27,e28,e33,e34,e35,e40,e41,e42];exact Pl.refl ⟨false,s1,rfl,hc.no hR,hh',ht12.trans ht'⟩
         | true=>
          simp(disch:=omega)only[go_sem,e1,e8,e26,e27,e28,e33,e34,e35,e40,e41,e42];refine⟨(q+1,s1),_,Lq.refl _,(hM _ _ _).2 ?_,by dsimp only;omega⟩;simp(disch:=omega)only[go_sem,e1,e8,e26,e27,e28,e33,e34,e35,e40,e41,e42,hwq];(repeat' apply And.intro)<;>(try first | rfl | assumption | omega)
          ·exact ht12.trans ht'
          ·exact hc.next hR
        ·have:q=c.l.length:=by omega
         subst this;rw[List.drop_length,jG] at hc;simp(disch:=omega)only[go_sem,e1,e8,e26,e27,e28,e33,e34,e35,e40,e41,e42];refine⟨(m+1,s),_,Lq.refl _,(hK _ _ _).2 ?_,by dsimp only;omega⟩;simp(disch:=omega)only[go_sem,e1,e8,e26,e27,e28,e33,e34,e35,hwm];(repeat' apply And.intro)<;>(try first | rfl | assumption | omega)
      ·have:m=a.c.length:=by omega
       subst this;rw[List.drop_length,List.flatMap_nil,jG,jI,jG] at hc;have hda:=Bc9 a;simp(disch:=omega)only[go_sem,e1,e8,e26,e27,e28,e33,e34,e35,hh8,hda];refine(hf a.e (Gt hma (Jd a)) s _ hh ht).mono ?_;rintro _ H2 ⟨b,s1,rfl,hR,hh',ht'⟩;cases b with
       | false=>
        simp(disch:=omega)only[go_sem,e1,e8,e26,e27,e28,e33,e34,e35];exact Pl.refl ⟨false,s1,rfl,hc.no hR,hh',ht.trans ht'⟩
       | true=>
        simp(disch:=omega)only[go_sem,e1,e8,e26,e27,e28,e33,e34,e35];refine⟨(j+1,s1),_,Lq.refl _,(hJ _ _ _).2 ?_,by dsimp only;omega⟩;simp(disch:=omega)only[go_sem,e1,e8,e26,e27,e28,e33,e34,e35,hwj];(repeat' apply And.intro)<;>(try first | rfl | assumption | omega)
        ·exact ht.trans ht'
        ·exact hc.next hR
    ·have:j=e.a.length:=by omega
     subst this;rw[List.drop_length,List.flatMap_nil] at hc;simp(disch:=omega)only[go_sem,e1,e26,e27,e28];exact Pl.refl ⟨true,s,rfl,hc.fin,hh,ht⟩
end
end Go.Dl

-- Chapter 3: what is valid: the fields of an expression (printed by gen_u6.py).
namespace Go.Dl
open Go Go.Proofs
set_option maxRecDepth 100000
theorem Dy9 (n:Nat):((n:Int)=0)=(n=0):=by rw[eq_iff_iff];omega
theorem Dz0 (n:Nat):((n:Int)=1)=(n=1):=by rw[eq_iff_iff];omega
theorem Dz1 (n:Nat):((n:Int)=2)=(n=2):=by rw[eq_iff_iff];omega
theorem Dz2 (n:Nat):((n:Int)=3)=(n=3):=by rw[eq_iff_iff];omega
section
variable {G:Nat->DVal} {H:Ab}
set_option maxHeartbeats 4000000 in
theorem Bd5 (hG:GX G) (H:Ab) (e:Ex) (hb:Cz e<=1099511627776) (hs:e.s.length<=9223372036854775807):Ae Tryz.prog G 69 [.agg (dEx e)] H (Bo (.bool (Au e)) H):=by
 have hal:= @Dl5 e;have hll:= @Dl4 e;have hfl:=Bl Ai e.l;have hac: ∀a∈e.a,a.c.length<=1099511627776:=fun a ha=>by
  have h1:=Bo3 ha;have h2:=Ni a.c;rw[Uo] at h1;omega
 have s1:Cj (dEx e) 0 [DVal.int .u8 0]= [DVal.int .u8 0,DVal.int .u8 e.oper,DVal.int .i64 e.n,DVal.str e.s,DVal.vslice (e.l.flatMap dEx) e.l.length,DVal.vslice (e.a.flatMap dAs) e.a.length,DVal.int .i64 e.line,DVal.int .i64 e.ent,DVal.int .i64 e.t]:=by rw[Jw];rfl
 have s2:Cj [DVal.int .u8 0,DVal.int .u8 e.oper,DVal.int .i64 e.n,DVal.str e.s,DVal.vslice (e.l.flatMap dEx) e.l.length,DVal.vslice (e.a.flatMap dAs) e.a.length,DVal.int .i64 e.line,DVal.int .i64 e.ent,DVal.int .i64 e.t] 6 [DVal.int .i64 0]= [DVal.int .u8 0,DVal.int .u8 e.oper,DVal.int .i64 e.n,DVal.str e.s,DVal.vslice (e.l.flatMap dEx) e.l.length,DVal.vslice (e.a.flatMap dAs) e.a.length,DVal.int .i64 0,DVal.int .i64 e.ent,DVal.int .i64 e.t]:=rfl;have s3:Cj [DVal.int .u8 0,DVal.int .u8 e.oper,DVal.int .i64 e.n,DVal.str e.s,DVal.vslice (e.l.flatMap dEx) e.l.length,DVal.vslice (e.a.flatMap dAs) e.a.length,DVal.int .i64 0,DVal.int .i64 e.ent,DVal.int .i64 e.t] 7 [DVal.int .i64 0]= [DVal.int .u8 0,DVal.int .u8 e.oper,DVal.int .i64 e.n,DVal.str e.s,DVal.vslice (e.l.flatMap dEx) e.l.length,DVal.vslice (e.a.flatMap dAs) e.a.length,DVal.int .i64 0,DVal.int .i64 0,DVal.int .i64 e.t]:=rfl;have s4:Cj [DVal.int .u8 0,DVal.int .u8 e.oper,DVal.int .i64 e.n,DVal.str e.s,DVal.vslice (e.l.flatMap dEx) e.l.length,DVal.vslice (e.a.flatMap dAs) e.a.length,DVal.int .i64 0,DVal.int .i64 0,DVal.int .i64 e.t] 8 [DVal.int .i64 0]= [DVal.int .u8 0,DVal.int .u8 e.oper,DVal.int .i64 e.n,DVal.str e.s,DVal.vslice (e.l.flatMap dEx) e.l.length,DVal.vslice (e.a.flatMap dAs) e.a.length,DVal.int .i64 0,DVal.int .i64 0,DVal.int .i64 0]:=rfl;have s5:Cj [DVal.int .u8 0,DVal.int .u8 e.oper,DVal.int .i64 e.n,DVal.str e.s,DVal.vslice (e.l.flatMap dEx) e.l.length,DVal.vslice (e.a.flatMap dAs) e.a.length,DVal.int .i64 0,DVal.int .i64 0,DVal.int .i64 0] 4 [DVal.nilSlice]= [DVal.int .u8 0,DVal.int .u8 e.oper,DVal.int .i64 e.n,DVal.str e.s,DVal.nilSlice,DVal.vslice (e.a.flatMap dAs) e.a.length,DVal.int .i64 0,DVal.int .i64 0,DVal.int .i64 0]:=rfl;have sO:Cj [DVal.int .u8 0,DVal.int .u8 e.oper,DVal.int .i64 e.n,DVal.str e.s,DVal.nilSlice,DVal.vslice (e.a.flatMap dAs) e.a.length,DVal.int .i64 0,DVal.int .i64 0,DVal.int .i64 0] 1 [DVal.int .u8 0]= [DVal.int .u8 0,DVal.int .u8 0,DVal.int .i64 e.n,DVal.str e.s,DVal.nilSlice,DVal.vslice (e.a.flatMap dAs) e.a.length,DVal.int .i64 0,DVal.int .i64 0,DVal.int .i64 0]:=rfl;have sN:Cj [DVal.int .u8 0,DVal.int .u8 e.oper,DVal.int .i64 e.n,DVal.str e.s,DVal.nilSlice,DVal.vslice (e.a.flatMap dAs) e.a.length,DVal.int .i64 0,DVal.int .i64 0,DVal.int .i64 0] 2 [DVal.int .i64 0]= [DVal.int .u8 0,DVal.int .u8 e.oper,DVal.int .i64 0,DVal.str e.s,DVal.nilSlice,DVal.vslice (e.a.flatMap dAs) e.a.length,DVal.int .i64 0,DVal.int .i64 0,DVal.int .i64 0]:=rfl;have sS:Cj [DVal.int .u8 0,DVal.int .u8 e.oper,DVal.int .i64 e.n,DVal.str e.s,DVal.nilSlice,DVal.vslice (e.a.flatMap dAs) e.a.length,DVal.int .i64 0,DVal.int .i64 0,DVal.int .i64 0] 3 [DVal.str []]= [DVal.int .u8 0,DVal.int .u8 e.oper,DVal.int .i64 e.n,DVal.str [],DVal.nilSlice,DVal.vslice (e.a.flatMap dAs) e.a.length,DVal.int .i64 0,DVal.int .i64 0,DVal.int .i64 0]:=rfl;have sA:Cj [DVal.int .u8 0,DVal.int .u8 e.oper,DVal.int .i64 e.n,DVal.str e.s,DVal.nilSlice,DVal.vslice (e.a.flatMap dAs) e.a.length,DVal.int .i64 0,DVal.int .i64 0,DVal.int .i64 0] 5 [DVal.nilSlice]= [DVal.int .u8 0,DVal.int .u8 e.oper,DVal.int .i64 e.n,DVal.str e.s,DVal.nilSlice,DVal.nilSlice,DVal.int .i64 0,DVal.int .i64 0,DVal.int .i64 0]:=rfl;refine Ac Tryz.func69 Tryz.call69 rfl (by kernel_rfl) ?_;simp(disch:=omega)only[go_sem,DVal.cells];intro r1 hr1;dsimp only at hr1;simp(disch:=omega)only[go_sem,DVal.cells];intro r3 hr3;dsimp only at hr3;obtain⟨m1,m2,hr3'⟩:=Dk7.1 hr3;obtain⟨x,hgd,hg⟩: ∃x,e.l.getD 1 ex0=x/\(1<e.l.length->((e.l.flatMap dEx).drop 9).take 9=dEx x):=⟨_,rfl,fun h=>by rw[List.getD,List.getElem?_eq_getElem h];exact Dc Ai e.l 1 h⟩
 repeat' first
  | (with_reducible refine(Bn5 hG _ e.s hs).mono ?_;rintro _ H1 ⟨rfl,rfl⟩)
  | (with_reducible refine(Ad3 G _ e.a (by omega)).mono ?_;rintro _ H1 ⟨rfl,rfl⟩)
  | (with_reducible refine(Ur G _ e.a (by omega) hac).mono ?_;rintro _ H1 ⟨rfl,rfl⟩)
  | (with_reducible refine(Ef G _ x).mono ?_;rintro _ H1 ⟨rfl,rfl⟩)
  | simp(disch:=omega)only[go_sem,s1,s2,s3,s4,s5,sO,sN,sS,sA,jA,jB,hfl, *]
  | (with_reducible refine Aq9 ?_ ?_<;>intro hc<;>try simp only[decide_eq_true_eq,decide_eq_false_iff_not] at hc)
  | (with_reducible refine Ay8 ?_ ?_<;>intro hc<;>try simp only[decide_eq_true_eq,decide_eq_false_iff_not] at hc)
  | (refine(Ad2 G _ e 1 (by decide)).mono ?_;rintro _ H1 ⟨rfl,rfl⟩)
  | (refine(Ad2 G _ e 2 (by decide)).mono ?_;rintro _ H1 ⟨rfl,rfl⟩)
  | (refine Pl.sub (show Sub H _ from(by repeat (first | exact Sub.refl _ | assumption | refine Sub.up ?_ (by assumption) _))) (Pl.refl ⟨?_,rfl⟩);clear hal hll hfl hac hb hs s1 s2 s3 s4 s5 sO sN sS sA hg hr1 hr3 m1 m2 hr3';(try simp only[Dy9,Dz0,Dz1,Dz2] at*);simp only[Au,hgd];simp [zO,zN,zS,zA,Cm, *];done)
end
end Go.Dl
