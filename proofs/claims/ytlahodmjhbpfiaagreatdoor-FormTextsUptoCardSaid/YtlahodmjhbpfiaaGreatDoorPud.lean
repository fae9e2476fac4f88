/- The data level and the contracts of the functions that are reached (part 4). -/
import Derived.Lib.IndexMore
import Derived.Lib.IndexAny
import Derived.Lib.TrimByte
import Derived.Lib.Strings
import Derived.Lib.Repeat
import Derived.Lib.CountLaws
import Derived.Lib.ParseIntB
import Derived.Lib.Fields
import Derived.Laws.RangeString
import Derived.Laws.RangeAny
import Derived.Test.YtlahodmjhbpfiaaGreatDoorPuc
set_option linter.unusedSimpArgs false
set_option linter.unusedVariables false
set_option linter.unusedSectionVars false
-- Chapter 2: tokens: the plain laws, part 7: what the library's functions say of symbols, spaces, comments.
namespace Go.Dl
open Go
set_option maxRecDepth 10000
theorem Ce2: ∀a:List UInt8,Go.Op.bytesLess a a=false
 | []=>rfl
 | x::a=>by
  unfold Go.Op.bytesLess;simp [Ce2 a]
theorem Bk0: ∀a b:List UInt8,Go.Op.bytesLess a b=true->Go.Op.bytesLess b a=false
 | [],[],h=>rfl
 | [],_::_,_=>rfl
 | _::_,[],h=>by cases h
 | x::a,y::b,h=>by
  unfold Go.Op.bytesLess at h⊢
  by_cases e:x=y
  ·subst e;simp only[UInt8.lt_irrefl] at h⊢
   simp at h⊢
   exact Bk0 a b h
  ·have hn:y≠x:=fun h=>e h.symm;simp [e,hn] at h⊢
   exact UInt8.le_of_lt h
theorem Ce3:Bj9.Pairwise (fun a b=>Go.Op.bytesLess a b=true):=by decide+kernel
structure halfAt (l:List (List UInt8)) (s:List UInt8) (i j:Nat):Prop where
 le:i<=j
 len:j<=l.length
 lo: ∀k w,k<i->l[k]? =some w->w≠s
 hi: ∀k w,j<k->l[k]? =some w->w≠s
theorem Cr5 (l:List (List UInt8)) (s:List UInt8):halfAt l s 0 l.length:=
 ⟨Nat.zero_le _,Nat.le_refl _,fun _ _ h=>by omega,fun k w h hk=>by rw[List.getElem?_eq_none (by omega)] at hk;cases hk⟩
theorem Da8 {l:List (List UInt8)} {a:Nat} {b:Nat} {u v:List UInt8} (hl:l.Pairwise fun a b=>Go.Op.bytesLess a b=true) (h:a<b) (ha:l[a]? =some u) (hb:l[b]? =some v):Go.Op.bytesLess u v=true:=by
 obtain⟨h1,rfl⟩:=List.getElem?_eq_some_iff.1 ha;obtain⟨h2,rfl⟩:=List.getElem?_eq_some_iff.1 hb;exact List.pairwise_iff_getElem.1 hl a b h1 h2 h
theorem Er7 {l:List (List UInt8)} {s w:List UInt8} {i j h:Nat} (hl:l.Pairwise fun a b=>Go.Op.bytesLess a b=true) (hk:halfAt l s i j) (h2:h<j) (hw:l[h]? =some w) (hlt:Go.Op.bytesLess w s=true):halfAt l s (h+1) j:=by
 obtain⟨k1,k2,k3,k4⟩:=hk;refine⟨by omega,k2,fun k u hku hu e=> ?_,k4⟩;subst e;rcases Nat.lt_or_ge k h with hlt' | hge
 ·have:=Da8 hl hlt' hu hw;rw[Bk0 _ _ this] at hlt;cases hlt
 ·have:k=h:=by omega
  subst this;rw[hw] at hu;cases hu;rw[Ce2] at hlt;cases hlt
theorem Dm6 {l:List (List UInt8)} {s w:List UInt8} {i j h:Nat} (hl:l.Pairwise fun a b=>Go.Op.bytesLess a b=true) (hk:halfAt l s i j) (h1:i<=h) (h2:h<j) (hw:l[h]? =some w) (hlt:Go.Op.bytesLess w s=false):halfAt l s i h:=by
 obtain⟨k1,k2,k3,k4⟩:=hk;refine⟨h1,by omega,k3,fun k u hku hu e=> ?_⟩;subst e;rw[Da8 hl hku hw hu] at hlt;cases hlt
theorem Eb2 {l:List (List UInt8)} {s:List UInt8} {i:Nat} (hk:halfAt l s i i):decide (s∈l)=decide (l[i]? =some s):=by
 obtain⟨_,_,k3,k4⟩:=hk;refine decide_eq_decide.2 ⟨fun h=> ?_,fun h=>List.mem_of_getElem? h⟩;obtain⟨k,hk⟩:=List.mem_iff_getElem?.1 h;rcases Nat.lt_trichotomy k i with h1 | h1 | h1
 ·exact absurd rfl (k3 k s h1 hk)
 ·rw[<-h1];exact hk
 ·exact absurd rfl (k4 k s h1 hk)
end Go.Dl

-- Chapter 2: tokens: the plain laws, part 9: numbers by the library's reading; letters.
namespace Go.Dl
open Go
set_option maxRecDepth 10000
theorem Fn5 {s:List UInt8}:(Rf s=s)↔s.all Ft=true:=by
 constructor
 ·intro h;have: ∀l:List UInt8,(l.takeWhile Ft).all Ft=true:=fun l=>by
   induction l with
   | nil=>rfl
   | cons c l ih=>
    rw[List.takeWhile_cons];split
    ·rename_i hc;rw[List.all_cons,hc,ih];rfl
    ·rfl
  rw[<-h];exact this s
 ·exact Ay7 s
theorem Er8 (s:List UInt8):Lq s=(decide (s≠ [])&&(decide (s.length<=32)&&((match s with | c::_=>Io c | []=>false)&&(decide (Rf s=s)&&!As4 s)))):=by
 have hw:decide (Rf s=s)=s.all Ft:=by
  cases h:s.all Ft with
  | true=>exact decide_eq_true (Fn5.2 h)
  | false=>exact decide_eq_false fun e=>by rw[Fn5.1 e] at h;cases h
 rw[hw]
 unfold Lq
 match s with
 | []=>rfl
 | c::r=>
  simp only[ne_eq,reduceCtorEq,not_false_eq_true,decide_true,jS]
  cases Io c<;>cases decide ((c::r).length<=32)<;>cases (c::r).all Ft<;>cases As4 (c::r)<;>rfl
theorem Er9 {s:List UInt8} {k:Nat} {c:UInt8} (h:(s.take k).all Ft=true) (hc:s[k]? =some c) (hw:Ft c=false):Rf s=s.take k:=by
 obtain⟨hk,rfl⟩:=List.getElem?_eq_some_iff.1 hc;have e:s=s.take k++s[k]::s.drop (k+1):=by rw[<-List.drop_eq_getElem_cons hk,List.take_append_drop]
 rw[show Rf s=Rf (s.take k++s[k]::s.drop (k+1)) from congrArg Rf e,Eb1 _ _ _ hw,Ay7 _ h]
theorem Cr6: ∀n:Fin 256,Io (UInt8.ofNat n.1)=(decide (97<=n.1 ||| 32)&&decide (n.1 ||| 32<=122)):=by decide+kernel
end Go.Dl

-- Names and reserved words (chapter 2), for the seats of chapters 3, 4, 5.
namespace Go.Dl
open Go Go.Proofs Go.RowKit
set_option maxRecDepth 100000
variable {H Hn:Ab}
theorem Eb3 {P:Program} {s:DS} {t:TypeId} {c:Bool} {dst:Option Nat} {xs ys:List DVal} {K:DK} {b:Bool} (h1:Du P t=some true) (h2:P.eqGuardType P.depth t=false) (h3:Qu P 6 t xs ys=some b):Ll P t c .neq dst (.agg xs) (.agg ys) K s=Bz dst (.bool (!b)) K s:=by
 simp only[Ll,h1,h2,h3,Od,Pb,true_and]
attribute [go_sem] List.getElem?_toArray List.getElem?_cons_zero List.getElem?_cons_succ List.append_eq
theorem Ff9 {P:Program} {w:World} {H:Ab} {G:Nat->DVal} {g:Nat} {name:String} {k:IntKind} {zs:List Int} (hg:P.globalNamed name=some g) (h:GOk G w H) (e:G g= .vptr (zs.map fun z=> .int k z) 0):Lib.TabIs P w name k zs:=by
 have hx:=h.exact g _ e;have hr:=h.rel g;rw[e] at hr;have hc:=Dm4 hg hr rfl;unfold Lib.TabIs World.var?;rw[hg];simp only[Option.bind_some];cases ho:w.heap[g]? with
 | none=>rw[ho] at hx;cases hx
 | some o=>
  cases o with
  | cells c t fz=>
   rw[ho] at hx;simp only[Ny,Option.some.injEq,jK] at hx;simp only[Option.some.injEq];apply Array.ext_getElem?;intro i;by_cases hi:i<zs.length
   ·have:=hc i zs[i] (List.getElem?_eq_getElem hi);simp only[World.cell?,ho] at this;simp [hi];simpa using this
   ·rw[Array.getElem?_eq_none (by omega),Array.getElem?_eq_none (by simp;omega)]
  | _=>rw[ho] at hx;cases hx
section
end
section
variable {G:Nat->DVal} {H:Ab}
theorem Dm7 (hG:G 1= .vptr (Lib.asciiSpaceTab.map fun z=> .int .u8 z) 0) (s:List UInt8) (hs:s.length<4294967281) (ha: ∀(j:Nat) b,s[j]? =some b->b.toNat<128):
  Ae Tryz.prog G 383 [.str s] H (Ba (Ao7 (Lib.fields s)) H):=by
 refine⟨Tryz.call383,fun vs w hv hH hg=> ?_⟩;simp only[Be,Rel] at hv;obtain⟨_,_,rfl,rfl,rfl⟩:=hv;refine(Tryz.strings_Fields ⟨⟨s⟩⟩ w hs ha (Ff9 (show Tryz.prog.globalNamed "strings.asciiSpace" =some 1 by kernel_rfl) hg hG)).mono fun e w' ⟨he,hw⟩=> ?_;subst he;subst hw;have hq:RowKit.Below w.heap.size w (w.alloc (.cells ((Lib.fields s).map fun l=>Value.string ⟨l.toArray⟩).toArray 9)):=RowKit.Below.alloc (RowKit.Below.refl _ _) (Nat.le_refl _) _;obtain⟨k1,k2⟩:=(Quiet.below hq).ext hH;refine⟨_,H,⟨rfl,rfl⟩, .ret _ _ ?_,k1,k2⟩;simp only[Ao7,Rel];refine⟨_,_,by rfl,Nat.le_refl _, .inr ⟨w.heap.size,0,(Lib.fields s).map fun l=>Value.string ⟨l.toArray⟩,rfl, .inr ⟨?_,fun i x hx=> ?_⟩, ?_⟩⟩
 ·cases e:H w.heap.size with
  | none=>rfl
  | some o=>exact absurd (hH.lt (r:=w.heap.size) (by simp [e])) (by omega)
 ·rw[Nat.zero_add,World.cell?,World.alloc_heap_new];simpa using hx
 ·refine Be.mk (by simp) fun i d x h1 h2=> ?_;simp only[List.getElem?_map,Option.map_eq_some_iff] at h1 h2;obtain⟨b1,q1,rfl⟩:=h1;obtain⟨b2,q2,rfl⟩:=h2;rw[q1] at q2;cases q2;simp [Rel]
end
structure GX (G:Nat->DVal):Prop where
 space:G 1= .vptr (Lib.asciiSpaceTab.map fun z=> .int .u8 z) 0
theorem Fw2: ∀n:Fin 256,IntKind.u8.wrap (((BitVec.ofInt 8 ((n.1:Nat):Int) ||| BitVec.ofInt 8 32).toNat:Nat):Int)=((n.1 ||| 32:Nat):Int):=by decide+kernel
section
variable {G:Nat->DVal} {H:Ab}
theorem Ao8 (G:Nat->DVal) (H:Ab) (b:UInt8):Ae Tryz.prog G 318 [.int .u8 b.toNat] H (Ba (.bool (Io b)) H):=by
 have hor:=Fw2 ⟨b.toNat,b.toNat_lt⟩;have hl:=Cr6 ⟨b.toNat,b.toNat_lt⟩;dsimp only at hor hl;rw[UInt8.ofNat_toNat] at hl;rw[hl];clear hl;generalize b.toNat ||| 32=m at hor⊢
 refine Aa Tryz.func318 Tryz.call318 rfl (by kernel_rfl) ?_;simp(disch:=omega)only[go_sem];generalize hm:IntKind.u8.wrap _=z;have hz:z=(m:Int):=hm.symm.trans hor;subst hz;by_cases h1:97<=m
 ·have h1':(97:Int)<=(m:Int):=by omega
  simp(disch:=omega)only[go_sem,h1'];generalize hm2:IntKind.u8.wrap _=z;have hz:z=(m:Int):=hm2.symm.trans hor;subst hz;refine Wj.refl ⟨?_,rfl⟩;rw[decide_eq_decide.2 (show(m:Int)<=122↔m<=122 by omega)]
 ·have h1': ¬(97:Int)<=(m:Int):=by omega
  simp(disch:=omega)only[go_sem,h1'];exact Wj.refl ⟨rfl,rfl⟩
theorem Cr7 (G:Nat->DVal) (H:Ab) (b:UInt8):Ae Tryz.prog G 371 [.int .u8 b.toNat] H (Ba (.bool (Re b)) H):=by
 refine Aa Tryz.func371 Tryz.call371 rfl (by kernel_rfl) ?_;by_cases h1:48<=b.toNat
 ·have h1':(48:Int)<=(b.toNat:Int):=by omega
  simp(disch:=omega)only[go_sem,h1'];refine Wj.refl ⟨?_,rfl⟩;rw[Re,decide_eq_decide.2 (show(b.toNat:Int)<=57↔b.toNat<=57 by omega),decide_eq_true h1,jS]
 ·have h1': ¬(48:Int)<=(b.toNat:Int):=by omega
  simp(disch:=omega)only[go_sem,h1'];refine Wj.refl ⟨?_,rfl⟩;rw[Re,decide_eq_false h1];rfl
theorem Cr8 (G:Nat->DVal) (H:Ab) (s:List UInt8):Ae Tryz.prog G 406 [.str s] H (Ba (.bool false) H):=by
 refine Aa Tryz.func406 Tryz.call406 rfl (by kernel_rfl) ?_;simp(disch:=omega)only[go_sem];exact Wj.refl ⟨rfl,rfl⟩
theorem Ce4 (G:Nat->DVal) (H:Ab) (s:List UInt8):Ae Tryz.prog G 382 [.str s] H (Ba (.bool false) H):=by
 refine Aa Tryz.func382 Tryz.call382 rfl (by kernel_rfl) ?_;simp(disch:=omega)only[go_sem];exact Wj.refl ⟨rfl,rfl⟩
theorem Dm8 (G:Nat->DVal) (H:Ab) (s t:List UInt8):Ae Tryz.prog G 381 [.str s, .str t] H (Ba (.bool (Go.Op.bytesLess s t)) H):=by
 refine Aa Tryz.func381 Tryz.call381 rfl (by kernel_rfl) ?_;simp(disch:=omega)only[go_sem];refine(Cr8 G _ s).mono ?_;rintro _ H ⟨rfl,rfl⟩;simp(disch:=omega)only[go_sem];exact Wj.refl ⟨rfl,rfl⟩
theorem Ce5 (G:Nat->DVal) (H:Ab) (l:List (List UInt8)) (s:List UInt8) (hl:l.Pairwise fun a b=>Go.Op.bytesLess a b=true) (hn:l.length<=1000000):
  Ae Tryz.prog G 338 [Ao7 l, .str s] H (fun e H'=>(∃i:Nat,e= .ret (.tuple [dI i, .bool (decide (s∈l))]))/\H'=H):=by
 refine Aa Tryz.func338 Tryz.call338 rfl (by kernel_rfl) ?_;simp(disch:=omega)only[go_sem,Ao7];obtain⟨I,hI⟩: ∃I:Nat×Nat->(Nat->DVal)->Ab->Prop,∀p env heap,I p env heap↔(env 0= .vslice (l.map .str) l.length/\env 1= .str s/\env 6=dI l.length/\env 7=dI p.1/\env 8=dI p.2/\halfAt l s p.1 p.2/\heap=H):=⟨_,fun _ _ _=>Iff.rfl⟩;refine Dt1.run I (fun p=>p.2-p.1) (0,l.length) ((hI _ _ _).2 ?_) ?_
 ·simp(disch:=omega)only[go_sem];(repeat' apply And.intro)<;>(try first | rfl | assumption | omega);exact Cr5 l s
 ·rintro⟨i,j⟩ env heap hi;obtain⟨e0,e1,e6,e7,e8,hh,rfl⟩:=(hI _ _ _).1 hi;dsimp only at e7 e8 hh;have hh1:=hh.le;have hh2:=hh.len;by_cases hlt:i<j
  ·have hm:(i+j)/2<l.length:=by omega
   have w1:IntKind.u64.wrap ((i:Int)+(j:Int))=((i+j:Nat):Int):=by rw[IntKind.wrap_u64];omega
   have w2:(((i+j:Nat)):Int).fdiv (2^min 1 64)=(((i+j)/2:Nat):Int):=by rw[show(2:Int)^min 1 64=2 from rfl,Int.fdiv_eq_ediv_of_nonneg _ (by omega)];omega
   have w3:IntKind.i64.wrap ((((i+j)/2:Nat)):Int)=(((i+j)/2:Nat):Int):=by rw[IntKind.wrap_i64];omega
   have hg:(l.map DVal.str)[(i+j)/2]? =some (.str l[(i+j)/2]):=by rw[List.getElem?_map,List.getElem?_eq_getElem hm];rfl
   simp(disch:=omega)only[go_sem,e0,e1,e6,e7,e8,hlt,w1,w2,w3,hg,hm];refine(Dm8 G _ l[(i+j)/2] s).mono ?_;rintro _ H1 ⟨rfl,rfl⟩;cases hb:Go.Op.bytesLess l[(i+j)/2] s with
   | true=>
    simp(disch:=omega)only[go_sem,e0,e1,e6,e7,e8];refine⟨((i+j)/2+1,j),_,Ws.refl _,(hI _ _ _).2 ?_,by dsimp only;omega⟩;simp(disch:=omega)only[go_sem,e0,e1,e6,e7,e8];(repeat' apply And.intro)<;>(try first | rfl | assumption | omega);exact Er7 hl hh (by omega) (List.getElem?_eq_getElem hm) hb
   | false=>
    simp(disch:=omega)only[go_sem,e0,e1,e6,e7,e8];refine⟨(i,(i+j)/2),_,Ws.refl _,(hI _ _ _).2 ?_,by dsimp only;omega⟩;simp(disch:=omega)only[go_sem,e0,e1,e6,e7,e8];(repeat' apply And.intro)<;>(try first | rfl | assumption | omega);exact Dm6 hl hh (by omega) (by omega) (List.getElem?_eq_getElem hm) hb
  ·have:i=j:=by omega
   subst this;have hend:=Eb2 hh;by_cases hi:i<l.length
   ·have hi':(i:Int)<(l.length:Int):=by omega
    have hg:(l.map DVal.str)[i]? =some (.str l[i]):=by rw[List.getElem?_map,List.getElem?_eq_getElem hi];rfl
    rw[List.getElem?_eq_getElem hi] at hend;by_cases hw:l[i]=s
    ·simp(disch:=omega)only[go_sem,e0,e1,e6,e7,e8,hi',hi,hg,hw];refine Wj.refl ⟨⟨i, ?_⟩,rfl⟩;rw[hend,hw];simp
    ·simp(disch:=omega)only[go_sem,e0,e1,e6,e7,e8,hi',hi,hg,hw];refine(Ce4 G _ l[i]).mono ?_;rintro _ H1 ⟨rfl,rfl⟩;simp(disch:=omega)only[go_sem,e0,e1,e6,e7,e8,hi',hi,hg,hw];refine Wj.refl ⟨⟨i, ?_⟩,rfl⟩;rw[hend];simp [hw]
   ·have hi': ¬(i:Int)<(l.length:Int):=by omega
    rw[List.getElem?_eq_none (by omega)] at hend;simp(disch:=omega)only[go_sem,e0,e1,e6,e7,e8,hi'];refine Wj.refl ⟨⟨i, ?_⟩,rfl⟩;rw[hend];simp
theorem Ce6 {s:List UInt8} {k:Nat} {c:UInt8} (h:s[k]? =some c) (hc:c.toNat<128):Nh s k=(c.toNat,1):=by
 obtain⟨hk,rfl⟩:=List.getElem?_eq_some_iff.1 h;exact Go.decode_ascii ⟨⟨s⟩⟩ k hk hc
theorem Dm9 {s:List UInt8} {k:Nat} {c:UInt8} (h:s[k]? =some c) (hc:128<=c.toNat):128<=(Nh s k).1:=by
 obtain⟨hk,rfl⟩:=List.getElem?_eq_some_iff.1 h;exact(Go.decode_high ⟨⟨s⟩⟩ k hk hc).1
theorem Dn0 {c:UInt8} (h:126<c.toNat):Ft c=false:=by
 cases hw:Ft c with
 | false=>rfl
 | true=>have:=(Dm5 hw).2;omega
set_option maxHeartbeats 1000000 in
theorem Dn1 (G:Nat->DVal) (H:Ab) (s:List UInt8) (hs:s.length<=1000000000):Ae Tryz.prog G 319 [.str s] H (Ba (.str (Rf s)) H):=by
 refine Aa Tryz.func319 Tryz.call319 rfl (by kernel_rfl) ?_;simp(disch:=omega)only[go_sem];intro r hr;obtain⟨I,hI⟩: ∃I:Nat->(Nat->DVal)->Ab->Prop,∀k env heap,I k env heap↔(env 0= .str s/\env 6= .optr r 0/\(s.take k).all Ft=true/\k<=s.length/\heap=upd H r (some (.iter s k))):=⟨_,fun _ _ _=>Iff.rfl⟩;refine Dt1.run I (fun k=>s.length-k) 0 ((hI _ _ _).2 ?_) ?_
 ·simp(disch:=omega)only[go_sem]
 ·intro k env heap hi;obtain⟨e0,e6,hw,hk,rfl⟩:=(hI _ _ _).1 hi;by_cases hlt:k<s.length
  ·have hg:s[k]? =some s[k]:=List.getElem?_eq_getElem hlt;have hend:Ft s[k]=false->Rf s=s.take k:=fun h=>Er9 hw hg h;have hstep:Ft s[k]=true->(s.take (k+1)).all Ft=true:=fun h=>by
    rw[List.take_add_one,hg,List.all_append,hw];simpa using h
   have hki:(k:Int)<=(s.length:Int):=by omega
   by_cases h126:s[k].toNat<=126
   ·have hrn:=Ce6 hg (by omega);have h126': ¬(126:Int)<(s[k].toNat:Int):=by omega
    have hwr:IntKind.u8.wrap (s[k].toNat:Int)=(s[k].toNat:Int):=by rw[IntKind.wrap_u8];have:=s[k].toNat_lt;omega
    simp(disch:=omega)only[go_sem,e0,e6,hlt,hrn,h126',hwr];refine(Ao8 G _ s[k]).mono ?_;rintro _ H1 ⟨rfl,rfl⟩;cases hle:Io s[k] with
    | true=>
     simp(disch:=omega)only[go_sem,e0,e6,hlt,hrn,h126',hwr];refine⟨k+1,_,Ws.refl _,(hI _ _ _).2 ?_,by omega⟩;simp(disch:=omega)only[go_sem,e0,e6];(repeat' apply And.intro)<;>(try first | rfl | assumption | omega);exact hstep (Ce1 hle)
    | false=>
     simp(disch:=omega)only[go_sem,e0,e6,hlt,hrn,h126',hwr];refine(Cr7 G _ s[k]).mono ?_;rintro _ H1 ⟨rfl,rfl⟩;cases hdi:Re s[k] with
     | true=>
      simp(disch:=omega)only[go_sem,e0,e6,hlt,hrn,h126',hwr];refine⟨k+1,_,Ws.refl _,(hI _ _ _).2 ?_,by omega⟩;simp(disch:=omega)only[go_sem,e0,e6];(repeat' apply And.intro)<;>(try first | rfl | assumption | omega);exact hstep (Cr4 hdi)
     | false=>
      by_cases h95:s[k]=95
      ·have h95':(s[k].toNat:Int)=95:=by rw[h95];rfl
       simp(disch:=omega)only[go_sem,e0,e6,hlt,hrn,h126',hwr,h95'];refine⟨k+1,_,Ws.refl _,(hI _ _ _).2 ?_,by omega⟩;simp(disch:=omega)only[go_sem,e0,e6];(repeat' apply And.intro)<;>(try first | rfl | assumption | omega);exact hstep (by rw[h95];rfl)
      ·have h95': ¬(s[k].toNat:Int)=95:=Cd8 (d:=95) h95;simp(disch:=omega)only[go_sem,e0,e6,hlt,hrn,h126',hwr,h95',hki];refine Wj.dropA r hr (Wj.refl ⟨?_,rfl⟩);rw[hend (by simp [Ft,hle,hdi,h95])];simp
   ·have hlo:126<((Nh s k).1:Int):=by
     by_cases h128:s[k].toNat<128
     ·rw[Ce6 hg h128];dsimp only;omega
     ·have:=Dm9 hg (by omega);omega
    simp(disch:=omega)only[go_sem,e0,e6,hlt,hlo,hki];refine Wj.dropA r hr (Wj.refl ⟨?_,rfl⟩);rw[hend (Dn0 (by omega))];simp
  ·have:k=s.length:=by omega
   subst this;simp(disch:=omega)only[go_sem,e0,e6,hlt];refine Wj.dropA r hr (Wj.refl ⟨?_,rfl⟩);rw[List.take_length] at hw;rw[Fn5.2 hw]
end
section
variable {G:Nat->DVal} {H:Ab}
def Au0:List UInt8:= [97,98,111,114,116,32,97,98,115,32,97,99,99,101,112,116,32,97,99,99,101,115,115,32,97,108,105,97,115,101,100,32,97,108,108,32,97,110,100,32,97,114,114,97,121,32,98,101,103,105,110,32,98,111,100,121,32,99,97,115,101,32,99,111,110,115,116,97,110,116,32,100,101,99,108,97,114,101,32,100,101,108,97,121,32,100,111,32,101,108,115,101,32,101,108,115,105,102,32,101,110,100,32,101,110,116,114,121,32,101,120,99,101,112,116,105,111,110,32,101,120,105,116,32,102,111,114,32,102,117,110,99,116,105,111,110,32,103,101,110,101,114,105,99,32,105,102,32,105,110,32,105,115,32,108,105,109,105,116,101,100,32,108,111,111,112,32,109,111,100,32,110,101,119,32,110,111,116,32,110,117,108,108,32,111,102,32,111,114,32,111,116,104,101,114,115,32,111,117,116,32,112,97,99,107,97,103,101,32,112,114,97,103,109,97,32,112,114,105,118,97,116,101,32,112,114,111,99,101,100,117,114,101,32,112,114,111,116,101,99,116,101,100,32,114,97,105,115,101,32,114,97,110,103,101,32,114,101,99,111,114,100,32,114,101,109,32,114,101,110,97,109,101,115,32,114,101,113,117,101,117,101,32,114,101,116,117,114,110,32,114,101,118,101,114,115,101,32,115,101,108,101,99,116,32,115,101,112,97,114,97,116,101,32,115,117,98,116,121,112,101,32,116,97,115,107,32,116,101,114,109,105,110,97,116,101,32,116,104,101,110,32,116,121,112,101,32,117,110,116,105,108,32,117,115,101,32,119,104,101,110,32,119,104,105,108,101,32,119,105,116,104,32,120,111,114]
theorem Ce7: ∀b∈Au0,b.toNat<128:=by decide+kernel
theorem Cr9:Lib.fields Au0=Bj9:=by kernel_rfl
theorem Dn2 (hG:GX G) (H:Ab):Ae Tryz.prog G 339 [] H (Ba (Ao7 Bj9) H):=by
 refine Aa Tryz.func339 Tryz.call339 rfl (by kernel_rfl) ?_;simp(disch:=omega)only[go_sem];show Ae _ _ _ [.str Au0] _ _;refine(Dm7 hG.space Au0 (by decide+kernel) (fun j b h=>Ce7 b (List.mem_of_getElem? h))).mono ?_;rintro _ H1 ⟨rfl,rfl⟩;rw[Cr9];simp(disch:=omega)only[go_sem];exact Wj.refl ⟨rfl,rfl⟩
theorem Ae3 (hG:GX G) (H:Ab) (s:List UInt8):Ae Tryz.prog G 243 [.str s] H (Ba (.bool (As4 s)) H):=by
 refine Aa Tryz.func243 Tryz.call243 rfl (by kernel_rfl) ?_;simp(disch:=omega)only[go_sem];refine(Dn2 hG _).mono ?_;rintro _ H1 ⟨rfl,rfl⟩;simp(disch:=omega)only[go_sem];refine(Ce5 G _ Bj9 s Ce3 (by decide)).mono ?_;rintro _ H2 ⟨⟨i,rfl⟩,rfl⟩;simp(disch:=omega)only[go_sem];exact Wj.refl ⟨rfl,rfl⟩
theorem Vd (hG:GX G) (H:Ab) (s:List UInt8) (hs:s.length<=9223372036854775807):Ae Tryz.prog G 218 [.str s] H (Ba (.bool (Lq s)) H):=by
 refine Aa Tryz.func218 Tryz.call218 rfl (by kernel_rfl) ?_
 match s with
 | []=>
  simp(disch:=omega)only[go_sem]
  exact Wj.refl ⟨rfl,rfl⟩
 | c::r=>
  have hne: ¬(c::r= []):=by simp
  have h0:(c::r)[0]? =some c:=rfl
  rw[Er8]
  by_cases hl:(c::r).length<=32
  ·have hl':((c::r).length:Int)<=32:=by omega
   simp(disch:=omega)only[go_sem,hne,hl',h0]
   refine(Ao8 G _ c).mono ?_
   rintro _ H1 ⟨rfl,rfl⟩
   cases hle:Io c with
   | false=>
    simp(disch:=omega)only[go_sem,hne,hl',h0]
    exact Wj.refl ⟨by simp,rfl⟩
   | true=>
    simp(disch:=omega)only[go_sem,hne,hl',h0]
    refine(Dn1 G _ (c::r) (by omega)).mono ?_
    rintro _ H1 ⟨rfl,rfl⟩
    by_cases hw:Rf (c::r)=c::r
    ·simp(disch:=omega)only[go_sem,hne,hl',h0,hw]
     refine(Ae3 hG _ (c::r)).mono ?_
     rintro _ H1 ⟨rfl,rfl⟩
     simp(disch:=omega)only[go_sem,hne,hl',h0,hw]
     exact Wj.refl ⟨by first | rfl | (rw[jA] at hl;simp [hw];intro _;omega),rfl⟩
    ·simp(disch:=omega)only[go_sem,hne,hl',h0,hw]
     exact Wj.refl ⟨by first | rfl | simp [hw],rfl⟩
  ·have hl': ¬((c::r).length:Int)<=32:=by omega
   simp(disch:=omega)only[go_sem,hne,hl',h0]
   exact Wj.refl ⟨by first | rfl | (rw[jA] at hl;simp;intro h;omega),rfl⟩
end
end Go.Dl

-- The reference of chapter 2: names, tokens that are the same; slices of tokens.
namespace Go.Dl
open Go Go.Proofs Go.RowKit
set_option maxRecDepth 100000
def Af (t:Tok):List DVal:= [.int .u8 t.kind,dI t.line, .str t.text,dI t.n]
theorem Gc (t:Tok):(Af t).length=4:=rfl
theorem Ce8 (t:Tok):(Af t).all (fun d=>d.one)=true:=rfl
section
end
def Aq (l:List Tok):DVal:= .vslice (l.flatMap Af) l.length
section
end
theorem Eb4 (a b:Bool):Bz7 (some a) (some b)=some (a&&b):=by cases a<;>rfl
theorem Eb5 (a b:Tok):Qu Tryz.prog 6 31 (Af a) (Af b)=some (decide (a=b)):=by
 have e:(decide (a=b))=(decide (a.kind=b.kind)&&(decide (a.line=b.line)&&(decide (a.text=b.text)&&decide (a.n=b.n)))):=by
  cases a;cases b;simp only[Tok.mk.injEq,Bool.decide_and]
 rw[e];simp(disch:=omega)only[go_sem,Af,Qu,Wb,Cz0,An7,Bi5,Fq,jE,jJ,jM,jR];simp only[Eb4,Bool.and_true]
theorem Da9:Du Tryz.prog 31=some true:=by kernel_rfl
theorem Bk1:Tryz.prog.eqGuardType Tryz.prog.depth 31=false:=by kernel_rfl
section
end
section
end
section
variable {G:Nat->DVal} {H:Ab}
theorem Ae4 (G:Nat->DVal) (H:Ab) (b:UInt8):Ae Tryz.prog G 301 [.int .u8 b.toNat] H (Ba (.bool (Io b)) H):=by
 refine Aa Tryz.func301 Tryz.call301 rfl (by kernel_rfl) ?_;have hd:Io b=(decide ((65:Int)<=b.toNat)&&decide ((b.toNat:Int)<=90) || decide ((97:Int)<=b.toNat)&&decide ((b.toNat:Int)<=122)):=by
  rw[Io,decide_eq_decide.2 (show 65<=b.toNat↔(65:Int)<=b.toNat by omega),decide_eq_decide.2 (show b.toNat<=90↔(b.toNat:Int)<=90 by omega),decide_eq_decide.2 (show 97<=b.toNat↔(97:Int)<=b.toNat by omega),decide_eq_decide.2 (show b.toNat<=122↔(b.toNat:Int)<=122 by omega)]
 rw[hd];generalize (b.toNat:Int)=n;by_cases h1:65<=n
 ·by_cases h2:n<=90
  ·simp(disch:=omega)only[go_sem,h1,h2];exact Wj.refl ⟨by simp,rfl⟩
  ·by_cases h3:97<=n
   ·simp(disch:=omega)only[go_sem,h1,h2,h3];exact Wj.refl ⟨by simp,rfl⟩
   ·simp(disch:=omega)only[go_sem,h1,h2,h3];exact Wj.refl ⟨by simp,rfl⟩
 ·have h3: ¬97<=n:=by omega
  simp(disch:=omega)only[go_sem,h1,h3];exact Wj.refl ⟨by simp,rfl⟩
theorem Ce9 (G:Nat->DVal) (H:Ab) (b:UInt8):Ae Tryz.prog G 311 [.int .u8 b.toNat] H (Ba (.bool (Re b)) H):=by
 refine Aa Tryz.func311 Tryz.call311 rfl (by kernel_rfl) ?_;by_cases h1:48<=b.toNat
 ·have h1':(48:Int)<=(b.toNat:Int):=by omega
  simp(disch:=omega)only[go_sem,h1'];refine Wj.refl ⟨?_,rfl⟩;rw[Re,decide_eq_decide.2 (show(b.toNat:Int)<=57↔b.toNat<=57 by omega),decide_eq_true h1,jS]
 ·have h1': ¬(48:Int)<=(b.toNat:Int):=by omega
  simp(disch:=omega)only[go_sem,h1'];refine Wj.refl ⟨?_,rfl⟩;rw[Re,decide_eq_false h1];rfl
theorem Cs0 (G:Nat->DVal) (H:Ab) (b:UInt8):Ae Tryz.prog G 303 [.int .u8 b.toNat] H (Ba (.bool (Ft b)) H):=by
 refine Aa Tryz.func303 Tryz.call303 rfl (by kernel_rfl) ?_;simp(disch:=omega)only[go_sem];refine(Ae4 G _ b).mono ?_;rintro _ H1 ⟨rfl,rfl⟩;cases hl:Io b with
 | true=>
  simp(disch:=omega)only[go_sem];exact Wj.refl ⟨by rw[Ft,hl];rfl,rfl⟩
 | false=>
  simp(disch:=omega)only[go_sem];refine(Ce9 G _ b).mono ?_;rintro _ H1 ⟨rfl,rfl⟩;cases hd:Re b with
  | true=>
   simp(disch:=omega)only[go_sem];exact Wj.refl ⟨by rw[Ft,hl,hd];rfl,rfl⟩
  | false=>
   by_cases h95:b=95
   ·subst h95;simp(disch:=omega)only[go_sem];exact Wj.refl ⟨rfl,rfl⟩
   ·have h95': ¬(b.toNat:Int)=95:=Cd8 (d:=95) h95;simp(disch:=omega)only[go_sem,h95'];exact Wj.refl ⟨by rw[Ft,hl,hd,decide_eq_false h95];rfl,rfl⟩
theorem Es0 (G:Nat->DVal) (H:Ab) (l:List (List UInt8)) (s:List UInt8) (hl:l.length<=1000000):Ae Tryz.prog G 364 [Ao7 l, .str s] H (Ba (.bool (decide (s∈l))) H):=by
 refine Aa Tryz.func364 Tryz.call364 rfl (by kernel_rfl) ?_;simp(disch:=omega)only[go_sem,Ao7];obtain⟨I,hI⟩: ∃I:Nat->(Nat->DVal)->Ab->Prop,∀k env heap,I k env heap↔(env 0= .vslice (l.map .str) l.length/\env 1= .str s/\env 5=dI k/\k<=l.length/\(∀x∈l.take k,x≠s)/\heap=H):=⟨_,fun _ _ _=>Iff.rfl⟩;refine Dt1.run I (fun k=>l.length-k) 0 ((hI _ _ _).2 ?_) ?_
 ·simp(disch:=omega)only[go_sem];(repeat' apply And.intro)<;>(try first | rfl | assumption | omega);intro x hx;simp at hx
 ·intro k env heap hi;obtain⟨e0,e1,e5,hk,hn,rfl⟩:=(hI _ _ _).1 hi;by_cases hlt:k<l.length
  ·have hlt':(k:Int)<(l.length:Int):=by omega
   have hg:(l.map DVal.str)[k]? =some (.str l[k]):=by rw[List.getElem?_map,List.getElem?_eq_getElem hlt];rfl
   by_cases hw:l[k]=s
   ·simp(disch:=omega)only[go_sem,e0,e1,e5,hlt',hlt,hg,hw,jD];exact Wj.refl ⟨by rw[decide_eq_true (by rw[<-hw];exact List.getElem_mem hlt)],rfl⟩
   ·have hwd:IntKind.i64.wrap ((k:Int)+1)=((k+1:Nat):Int):=by rw[IntKind.wrap_i64];omega
    simp(disch:=omega)only[go_sem,e0,e1,e5,hlt',hlt,hg,hw,jD];refine⟨k+1,_,Ws.refl _,(hI _ _ _).2 ?_,by omega⟩;simp(disch:=omega)only[go_sem,e0,e1,e5,hwd];(repeat' apply And.intro)<;>(try first | rfl | assumption | omega);exact Kv (p:=fun x=>x≠s) hlt hn hw
  ·have:k=l.length:=by omega
   subst this;simp(disch:=omega)only[go_sem,e0,e1,e5];rw[List.take_length] at hn;exact Wj.refl ⟨by rw[decide_eq_false (fun h=>hn s h rfl)],rfl⟩
theorem Cs1 (G:Nat->DVal) (H:Ab):Ae Tryz.prog G 365 [] H (Ba (Ao7 Bj9) H):=by
 refine Aa Tryz.func365 Tryz.call365 rfl (by kernel_rfl) ?_;simp(disch:=omega)only[go_sem];change Cm6 _ _ _ _ (some (Bj9.map .str)) _ _;simp(disch:=omega)only[go_sem];intro r hr;dsimp only at hr;simp(disch:=omega)only[go_sem];refine Wj.fzA r hr ?_;simp only[fz,if_pos,jJ];refine Wj.refl ⟨?_,rfl⟩;rfl
theorem Bk2 (G:Nat->DVal) (H:Ab) (s:List UInt8):Ae Tryz.prog G 302 [.str s] H (Ba (.bool (As4 s)) H):=by
 refine Aa Tryz.func302 Tryz.call302 rfl (by kernel_rfl) ?_;simp(disch:=omega)only[go_sem];refine(Cs1 G _).mono ?_;rintro _ H1 ⟨rfl,rfl⟩;simp(disch:=omega)only[go_sem];refine(Es0 G _ Bj9 s (by decide)).mono ?_;rintro _ H1 ⟨rfl,rfl⟩;simp(disch:=omega)only[go_sem];exact Wj.refl ⟨rfl,rfl⟩
end
section
variable {G:Nat->DVal} {H:Ab}
theorem Ve (G:Nat->DVal) (H:Ab) (s:List UInt8):Ae Tryz.prog G 188 [.str s] H (Ba (.bool (Lq s)) H):=by
 refine Aa Tryz.func188 Tryz.call188 rfl (by kernel_rfl) ?_
 match s with
 | []=>
  simp(disch:=omega)only[go_sem,jB]
  exact Wj.refl ⟨rfl,rfl⟩
 | c::r=>
  obtain⟨s,hs⟩: ∃s,s=c::r:=⟨_,rfl⟩
  have h0:s[0]? =some c:=by rw[hs];rfl
  have hpos:0<s.length:=by rw[hs];simp
  have hdef:Lq s=(Io c&&decide (s.length<=32)&&s.all Ft&&!As4 s):=by rw[hs];rfl
  rw[<-hs,hdef]
  have h1: ¬(s.length:Int)<1:=by omega
  by_cases hl:s.length<=32
  ·have hl': ¬(32:Int)<(s.length:Int):=by omega
   simp(disch:=omega)only[go_sem,h1,hl',h0]
   refine(Ae4 G _ c).mono ?_
   rintro _ H1 ⟨rfl,rfl⟩
   cases hle:Io c with
   | false=>
    simp(disch:=omega)only[go_sem]
    exact Wj.refl ⟨rfl,rfl⟩
   | true=>
    simp(disch:=omega)only[go_sem]
    refine(Bk2 G _ s).mono ?_
    rintro _ H1 ⟨rfl,rfl⟩
    cases hk:As4 s with
    | true=>
     simp(disch:=omega)only[go_sem]
     exact Wj.refl ⟨by simp,rfl⟩
    | false=>
     simp(disch:=omega)only[go_sem]
     obtain⟨I,hI⟩: ∃I:Nat->(Nat->DVal)->Ab->Prop,∀k env heap,I k env heap↔(env 0= .str s/\env 3=dI k/\k<=s.length/\(s.take k).all Ft=true/\heap=H1):=⟨_,fun _ _ _=>Iff.rfl⟩
     refine Dt1.run I (fun k=>s.length-k) 0 ((hI _ _ _).2 ?_) ?_
     ·simp(disch:=omega)only[go_sem]
      (repeat' apply And.intro)<;>(try first | rfl | assumption | omega)
     ·intro k env heap hi
      obtain⟨e0,e3,hk2,hw,rfl⟩:=(hI _ _ _).1 hi
      by_cases hlt:k<s.length
      ·have hlt':(k:Int)<(s.length:Int):=by omega
       have hg:s[k]? =some s[k]:=List.getElem?_eq_getElem hlt
       have hwd:IntKind.i64.wrap ((k:Int)+1)=((k+1:Nat):Int):=by rw[IntKind.wrap_i64];omega
       simp(disch:=omega)only[go_sem,e0,e3,hlt',hg,jD]
       refine(Cs0 G _ s[k]).mono ?_
       rintro _ H2 ⟨rfl,rfl⟩
       cases hb:Ft s[k] with
       | true=>
        simp(disch:=omega)only[go_sem,e0,e3]
        refine⟨k+1,_,Ws.refl _,(hI _ _ _).2 ?_,by omega⟩
        simp(disch:=omega)only[go_sem,e0,e3,hwd]
        (repeat' apply And.intro)<;>(try first | rfl | assumption | omega)
        rw[List.take_add_one,hg,List.all_append,hw];simpa using hb
       | false=>
        simp(disch:=omega)only[go_sem,e0,e3]
        have:s.all Ft=false:=by
         rw[List.all_eq_false];exact⟨s[k],List.getElem_mem hlt,by rw[hb];simp⟩
        exact Wj.refl ⟨by rw[this],rfl⟩
      ·have:k=s.length:=by omega
       subst this
       simp(disch:=omega)only[go_sem,e0,e3]
       rw[List.take_length] at hw
       exact Wj.refl ⟨by rw[hw],rfl⟩
  ·have hl':(32:Int)<(s.length:Int):=by omega
   simp(disch:=omega)only[go_sem,h1,hl',h0]
   exact Wj.refl ⟨by simp,rfl⟩
end
section
end
end Go.Dl

-- Chapter 3: expressions: the plain laws, part 1: trees.
namespace Go.Dl
open Go
set_option maxRecDepth 10000
mutual
inductive Ex where
 | mk (kind oper n:Int) (s:List UInt8) (l:List Ex) (a:List As) (line ent t:Int)
inductive As where
 | mk (c:List Ch) (e:Ex)
inductive Ch where
 | mk (kind:Int) (l:List Ex)
end
def Ex.kind:Ex->Int | .mk k _ _ _ _ _ _ _ _=>k
def Ex.oper:Ex->Int | .mk _ o _ _ _ _ _ _ _=>o
def Ex.n:Ex->Int | .mk _ _ n _ _ _ _ _ _=>n
def Ex.s:Ex->List UInt8 | .mk _ _ _ s _ _ _ _ _=>s
def Ex.l:Ex->List Ex | .mk _ _ _ _ l _ _ _ _=>l
def Ex.a:Ex->List As | .mk _ _ _ _ _ a _ _ _=>a
def Ex.line:Ex->Int | .mk _ _ _ _ _ _ li _ _=>li
def Ex.ent:Ex->Int | .mk _ _ _ _ _ _ _ en _=>en
def Ex.t:Ex->Int | .mk _ _ _ _ _ _ _ _ t=>t
def As.c:As->List Ch | .mk c _=>c
def As.e:As->Ex | .mk _ e=>e
def Ch.kind:Ch->Int | .mk k _=>k
def Ch.l:Ch->List Ex | .mk _ l=>l
def ex0:Ex:= .mk 0 0 0 [] [] [] 0 0 0
instance:Inhabited Ex:=⟨ex0⟩
instance:Inhabited As:=⟨.mk [] ex0⟩
instance:Inhabited Ch:=⟨.mk 0 []⟩
mutual
def Ez:Ex->Nat
 | .mk _ _ _ _ l a _ _ _=>1+Ay8 l+Ak6 a
def Ay8:List Ex->Nat
 | []=>0
 | x::l=>Ez x+Ay8 l
def Cf0:As->Nat
 | .mk c e=>Ak7 c+Ez e
def Ak6:List As->Nat
 | []=>0
 | x::l=>Cf0 x+Ak6 l
def Db0:Ch->Nat
 | .mk _ l=>Ay8 l
def Ak7:List Ch->Nat
 | []=>0
 | x::l=>Db0 x+Ak7 l
end
def Dj (x:As):List Ex:=x.c.flatMap Ch.l++ [x.e]
def parts (e:Ex):List Ex:=e.l++e.a.flatMap Dj
def Kx (l:List Ex):Nat:=(l.map Ez).sum
theorem Ak8: ∀l:List Ex,Ay8 l=Kx l
 | []=>rfl
 | x::l=>by rw[Ay8,Ak8 l,Kx,Kx,jN,List.sum_cons]
theorem Sg (l m:List Ex):Kx (l++m)=Kx l+Kx m:=by simp [Kx]
theorem Ay9: ∀l:List Ch,Ak7 l=Kx (l.flatMap Ch.l)
 | []=>rfl
 | .mk k x::l=>by rw[Ak7,Db0,Ay9 l,Ak8,List.flatMap_cons,Sg];rfl
theorem Dn3 (x:As):Cf0 x=Kx (Dj x):=by
 cases x;rw[Cf0,Ay9,Dj,Sg];simp [Kx,As.c,As.e]
theorem Az0: ∀l:List As,Ak6 l=Kx (l.flatMap Dj)
 | []=>rfl
 | x::l=>by rw[Ak6,Dn3,Az0 l,List.flatMap_cons,Sg]
theorem Qs (e:Ex):Ez e=1+Kx (parts e):=by
 cases e;rw[Ez,Ak8,Az0,parts,Sg,Nat.add_assoc];rfl
theorem Eb6 {l:List Ex} {x:Ex} (h:x∈l):Ez x<=Kx l:=by
 induction l with
 | nil=>cases h
 | cons y l ih=>
  rw[Kx,jN,List.sum_cons];rcases List.mem_cons.1 h with rfl | h
  ·omega
  ·have:=ih h;unfold Kx at this;omega
theorem Sh {e x:Ex} (h:x∈parts e):Ez x<Ez e:=by
 rw[Qs e];have:=Eb6 h;omega
theorem Bd {e x:Ex} (h:x∈e.l):x∈parts e:=List.mem_append_left _ h
theorem Jg {e x:Ex} {a:As} (ha:a∈e.a) (h:x∈Dj a):x∈parts e:=List.mem_append_right _ (List.mem_flatMap.2 ⟨a,ha,h⟩)
theorem Ky (a:As):a.e∈Dj a:=List.mem_append_right _ (by simp)
theorem Qe {a:As} {c:Ch} {x:Ex} (hc:c∈a.c) (h:x∈c.l):x∈Dj a:=List.mem_append_left _ (List.mem_flatMap.2 ⟨c,hc,h⟩)
theorem Ex.ind {p:Ex->Prop} (h: ∀e,(∀x∈parts e,p x)->p e) (e:Ex):p e:=by
 have key: ∀n e,Ez e<n->p e:=by
  intro n
  induction n with
  | zero=>intro e he;omega
  | succ n ih=>
   intro e he;refine h e fun x hx=>ih x ?_;have:=Sh hx;omega
 exact key _ e (Nat.lt_succ_self _)
def Cq (e:Ex):Bool:=decide (3<=e.kind)&&decide (e.kind<=8)
def Ke (e:Ex) (k:Nat):Bool:=decide (e.l.length=k)&&Cq (e.l.getD 0 ex0)
def Pf:List As->Bool
 | a::b::r=>(a.c.isEmpty || !b.c.isEmpty)&&Pf (b::r)
 | _=>true
def Cy:List Ch->Bool
 | [c]=>decide (c.kind=1)&&(match c.l with | [x]=>decide (x.kind=3) | _=>false)
 | _=>false
def Cs (n:Nat) (c:Ch):Bool:=
 if c.kind=1 then decide (c.l.length=1) else if c.kind=2 then decide (c.l.length=2) else decide (c.kind=3)&&decide (c.l.length=0)&&decide (n<=1)
def Ct (l:List Ch):Bool:=decide (0<l.length)&&decide (l.length<=16)&&l.all (Cs l.length)
def Kf (l:List As):Bool:=decide (0<l.length)&&decide (l.length<=8)&&Pf l&&l.all fun a=>a.c.isEmpty || Cy a.c
def Xc (l:List Ch):Bool:=match l with | c::_=>decide (c.kind=3) | []=>false
def Gd:List As->Bool
 | []=>true
 | a::r=>(a.c.isEmpty || Ct a.c&&(!Xc a.c || r.isEmpty))&&Gd r
def Au1:List As->Bool
 | [a]=>a.c.isEmpty
 | _=>false
def Gs (l:List As):Bool:=decide (0<l.length)&&decide (l.length<=32)&&Pf l&&!Au1 l&&Gd l
def zO (e:Ex):Bool:=decide (e.oper=0)
def zN (e:Ex):Bool:=decide (e.n=0)
def zS (e:Ex):Bool:=decide (e.s= [])
def zA (e:Ex):Bool:=e.a.isEmpty
def Ca (e:Ex):Bool:=
 if e.kind=1 then e.l.isEmpty&&decide (0<=e.n)&&decide (e.n<=2147483647)&&zO e&&zS e&&zA e
 else if e.kind=2 then e.l.isEmpty&&zO e&&zN e&&zS e&&zA e
 else if e.kind=3 then e.l.isEmpty&&Lq e.s&&zO e&&zN e&&zA e
 else if e.kind=4\/e.kind=6 then Ke e 1&&Lq e.s&&zO e&&zN e&&zA e
 else if e.kind=5 then Ke e 1&&zO e&&zN e&&zS e&&zA e
 else if e.kind=7 then Ke e 1&&Kf e.a&&zO e&&zN e&&zS e
 else if e.kind=8 then Ke e 2&&zO e&&zN e&&zS e&&zA e
 else if e.kind=9 then e.l.isEmpty&&Gs e.a&&zO e&&zN e&&zS e
 else if e.kind=10 then decide (e.l.length=3)&&zO e&&zN e&&zS e&&zA e
 else if e.kind=11 then decide (e.l.length=1)&&decide (18<=e.oper)&&decide (e.oper<=21)&&zN e&&zS e&&zA e
 else if e.kind=12 then decide (e.l.length=2)&&decide (1<=e.oper)&&decide (e.oper<=17)&&zN e&&zS e&&zA e
 else if e.kind=13\/e.kind=14 then(decide (e.l.length=3) || decide (e.l.length=2)&&Cq (e.l.getD 1 ex0))&&zO e&&zN e&&zS e&&zA e
 else false
mutual
def En (d:Nat):Ex->Bool
 | .mk k o n s l a li en t=>decide (d<=32)&&Ca (.mk k o n s l a li en t)&&Az1 (d+1) l&&Au2 (d+1) a
def Az1 (d:Nat):List Ex->Bool
 | []=>true
 | x::l=>En d x&&Az1 d l
def Cs2 (d:Nat):As->Bool
 | .mk c e=>Au3 d c&&En d e
def Au2 (d:Nat):List As->Bool
 | []=>true
 | x::l=>Cs2 d x&&Au2 d l
def Eb7 (d:Nat):Ch->Bool
 | .mk _ l=>Az1 d l
def Au3 (d:Nat):List Ch->Bool
 | []=>true
 | x::l=>Eb7 d x&&Au3 d l
end
theorem Aa0 (d:Nat): ∀l:List Ex,Az1 d l=l.all (En d)
 | []=>rfl
 | x::l=>by rw[Az1,Aa0 d l,List.all_cons]
theorem Ao9 (d:Nat): ∀l:List Ch,Au3 d l=(l.flatMap Ch.l).all (En d)
 | []=>rfl
 | .mk k x::l=>by rw[Au3,Eb7,Ao9 d l,Aa0,List.flatMap_cons,List.all_append];rfl
theorem Cs3 (d:Nat) (x:As):Cs2 d x=(Dj x).all (En d):=by
 cases x;rw[Cs2,Ao9,Dj,List.all_append];simp [As.c,As.e]
theorem Ap0 (d:Nat): ∀l:List As,Au2 d l=(l.flatMap Dj).all (En d)
 | []=>rfl
 | x::l=>by rw[Au2,Cs3,Ap0 d l,List.flatMap_cons,List.all_append]
theorem Tu (d:Nat) (e:Ex):En d e=(decide (d<=32)&&Ca e&&(parts e).all (En (d+1))):=by
 cases e;rw[En,Aa0,Ap0,parts,List.all_append,Bool.and_assoc (decide (d<=32)&&_)];rfl
def Cl (e:Ex):Bool:=En 1 e&&decide (Ez e<=256)
def Kg (l:List Ch):Bool:=Ct l&&l.all fun c=>c.l.all Cl
def Bo (e:Ex):Int:=
 if e.kind=13\/e.kind=14 then 1
 else if e.kind=11 then(if e.oper=18\/e.oper=19 then 2 else if e.oper=20\/e.oper=21 then 4 else 5)
 else if e.kind=12 then(if 13<=e.oper/\e.oper<=17 then 0 else if 7<=e.oper/\e.oper<=12 then 1 else if e.oper=1\/e.oper=2 then 2 else if 3<=e.oper/\e.oper<=6 then 3 else 5)
 else 5
mutual
def Lf:Ex->Ex->Bool
 | .mk k o n s l a _ _ _,f=>decide (k=f.kind)&&decide (o=f.oper)&&decide (n=f.n)&&decide (s=f.s)&&Kh l f.l&&Ma a f.a
def Kh:List Ex->List Ex->Bool
 | [],[]=>true
 | x::l,y::m=>Lf x y&&Kh l m
 | _,_=>false
def Tv:As->As->Bool
 | .mk c e,y=>Lh c y.c&&Lf e y.e
def Ma:List As->List As->Bool
 | [],[]=>true
 | x::l,y::m=>Tv x y&&Ma l m
 | _,_=>false
def Si:Ch->Ch->Bool
 | .mk k l,y=>decide (k=y.kind)&&Kh l y.l
def Lh:List Ch->List Ch->Bool
 | [],[]=>true
 | x::l,y::m=>Si x y&&Lh l m
 | _,_=>false
end
theorem Cf1 (e f:Ex):Lf e f=(decide (e.kind=f.kind)&&decide (e.oper=f.oper)&&decide (e.n=f.n)&&decide (e.s=f.s)&&Kh e.l f.l&&Ma e.a f.a):=by
 cases e;rw[Lf];rfl
end Go.Dl

-- Chapter 3: expressions: the plain laws, part 2: reading.
namespace Go.Dl
open Go
set_option maxRecDepth 10000
inductive Res (α:Type) where
 | bot
 | fail (k:Nat)
 | ok (x:α) (k:Nat)
def Res.then {α β:Type}:Res α->(α->Nat->Res β)->Res β
 | .bot,_=> .bot
 | .fail k,_=> .fail k
 | .ok x k,f=>f x k
structure PS where
 expr:Nat->Res Ex
 rest:Ex->Nat->Res Ex
 restL:Nat->Ex->Nat->Res Ex
 relation:Ex->Nat->Res Ex
 simple:Nat->Res Ex
 addL:Ex->Nat->Res Ex
 term:Nat->Res Ex
 mulL:Ex->Nat->Res Ex
 factor:Nat->Res Ex
 primary:Nat->Res Ex
 paren:Nat->Res Ex
 assoc:Nat->Res As
 assocsL:List As->Nat->Res (List As)
 choice:Nat->Res Ch
 choicesL:List Ch->Nat->Res (List Ch)
 arg:Nat->Res As
 argsL:List As->Nat->Res (List As)
 name:Nat->Res Ex
 nameL:Int->Ex->Nat->Res Ex
def Fn6:PS:=⟨fun _=> .bot,fun _ _=> .bot,fun _ _ _=> .bot,fun _ _=> .bot,fun _=> .bot,fun _ _=> .bot,fun _=> .bot,fun _ _=> .bot,fun _=> .bot,fun _=> .bot,fun _=> .bot,fun _=> .bot,fun _ _=> .bot,fun _=> .bot,fun _ _=> .bot,fun _=> .bot,fun _ _=> .bot,fun _=> .bot,fun _ _ _=> .bot⟩
def Rg:List UInt8:= [116,104,101,110]
def Sj:List UInt8:= [101,108,115,101]
def wIf:List UInt8:= [105,102]
def wIn:List UInt8:= [105,110]
def Tw:List UInt8:= [110,111,116]
def Ak9:List UInt8:= [97,108,108]
def Hu:List UInt8:= [110,117,108,108]
def Kz:List UInt8:= [111,116,104,101,114,115]
def Fg0:List UInt8:= [97,110,100]
def wOr:List UInt8:= [111,114]
def Fn7:List UInt8:= [120,111,114]
def Fn8:List UInt8:= [109,111,100]
def Fn9:List UInt8:= [114,101,109]
def Fw3:List UInt8:= [97,98,115]
def By:List UInt8:= [40]
def Cb:List UInt8:= [41]
def Cx:List UInt8:= [44]
def Mb:List UInt8:= [124]
def Qf:List UInt8:= [46]
def Ep:List UInt8:= [46,46]
def Fu:List UInt8:= [39]
def Cc:List UInt8:= [61,62]
def Eb8:List (List (List UInt8)):= [[],[[43]],[[45]],[[42]],[[47]],[Fn8],[Fn9],[[61]],[[47,61]],[[60]],[[60,61]],[[62]],[[62,61]],[Fg0],[wOr],[Fn7],[Fg0,Rg],[wOr,Sj],[[43]],[[45]],[Fw3],[Tw]]
def Eh (o:Nat):List (List UInt8):=Eb8.getD o []
section
variable (l:List Tok)
def tk (k:Nat):Tok:=l.getD k Fw1
def Dz (s:List UInt8):Int:=if As4 s then 2 else 4
def isW (k:Nat):List (List UInt8)->Bool
 | []=>true
 | s::r=>decide ((tk l k).kind=Dz s)&&decide ((tk l k).text=s)&&isW (k+1) r
def opF (want k:Nat):List Nat->Nat×Nat
 | []=>(0,k)
 | o::r=>if isW l k (Eh o) then(if want≠0/\o≠want then(0,k) else(o,k+(Eh o).length)) else opF want k r
def both (o:Nat) (a b:Ex):Ex:= .mk 12 o 0 [] [a,b] [] a.line 0 0
def Fo0 (o:Nat) (line:Int) (x:Ex):Ex:=if o=0 then x else .mk 11 o 0 [] [x] [] line 0 0
def Cf2 {α:Type} (s:List UInt8) (k:Nat) (f:Nat->Res α):Res α:=if isW l k [s] then f (k+1) else .fail k
def Eb9 {α:Type} (k:Nat) (f:List UInt8->Nat->Res α):Res α:=if(tk l k).kind=1 then f (tk l k).text (k+1) else .fail k
def Fw4 (line:Int) (a:List As):Ex:=match a with
 | [x]=>if x.c= [] then x.e else .mk 9 0 0 [] [] a line 0 0
 | _=> .mk 9 0 0 [] [] a line 0 0
def Ec0:List Nat:= [17,16,15,14,13]
def Fg1:List Nat:= [12,11,10,9,8,7]
def Es1:List Nat:= [19,18]
def Fg2:List Nat:= [2,1]
def Fg3:List Nat:= [6,5,4,3]
def Fg4:List Nat:= [21,20]
def inK (x:Ex) (kind:Int) (k:Nat) (p:PS):Res Ex:=
 (p.simple k).then fun y k=>if isW l k [Ep] then(p.simple (k+1)).then fun z k=> .ok (.mk kind 0 0 [] [x,y,z] [] x.line 0 0) k
  else if Cq y then .ok (.mk kind 0 0 [] [x,y] [] x.line 0 0) k else .fail k
def Fo1 (p:PS):PS where
 expr k:=(p.simple k).then fun x k=>p.rest x k
 rest x k:=(p.relation x k).then fun x k=>p.restL (opF l 0 k Ec0).1 x k
 restL o x k:=if o=0 then .ok x k else
  let q:=opF l o k Ec0
  if q.1=0 then .ok x k else(p.simple q.2).then fun y k=>(p.relation y k).then fun y k=>p.restL o (both o x y) k
 relation x k:=
  let q:=opF l 0 k Fg1
  if q.1≠0 then(p.simple q.2).then fun y k=> .ok (both q.1 x y) k
  else if isW l k [wIn] then inK l x 13 (k+1) p
  else if isW l k [Tw,wIn] then inK l x 14 (k+2) p
  else .ok x k
 simple k:=
  let q:=opF l 0 k Es1
  (p.term q.2).then fun x k'=>p.addL (Fo0 q.1 (tk l k).line x) k'
 addL x k:=
  let q:=opF l 0 k Fg2
  if q.1=0 then .ok x k else(p.term q.2).then fun y k=>p.addL (both q.1 x y) k
 term k:=(p.factor k).then fun x k=>p.mulL x k
 mulL x k:=
  let q:=opF l 0 k Fg3
  if q.1=0 then .ok x k else(p.factor q.2).then fun y k=>p.mulL (both q.1 x y) k
 factor k:=
  let q:=opF l 0 k Fg4
  (p.primary q.2).then fun x k'=> .ok (Fo0 q.1 (tk l k).line x) k'
 primary k:=
  if(tk l k).kind=3 then .ok (.mk 1 0 (tk l k).n [] [] [] (tk l k).line 0 0) (k+1)
  else if isW l k [Hu] then .ok (.mk 2 0 0 [] [] [] (tk l k).line 0 0) (k+1)
  else if isW l k [By] then p.paren k
  else p.name k
 paren k:=Cf2 l By k fun k1=>
  if isW l k1 [wIf] then(p.expr (k1+1)).then fun a k=>Cf2 l Rg k fun k=>(p.expr k).then fun b k=>Cf2 l Sj k fun k=>(p.expr k).then fun c k'=>Cf2 l Cb k' fun k'=> .ok (.mk 10 0 0 [] [a,b,c] [] (tk l (k1-1)).line 0 0) k'
  else(p.assoc k1).then fun a k=>(p.assocsL [a] k).then fun az k=>Cf2 l Cb k fun k=> .ok (Fw4 (tk l (k1-1)).line az) k
 assoc k:=(p.choice k).then fun c k=>
  if c.kind=1/\isW l k [Mb]=false/\isW l k [Cc]=false then .ok (.mk [] (c.l.getD 0 ex0)) k
  else if c.kind=3 then Cf2 l Cc k fun k=>(p.expr k).then fun e k=> .ok (.mk [c] e) k
  else(p.choicesL [c] k).then fun cs k=>Cf2 l Cc k fun k=>(p.expr k).then fun e k=> .ok (.mk cs e) k
 assocsL az k:=if isW l k [Cx] then(p.assoc (k+1)).then fun a k=>p.assocsL (az++ [a]) k else .ok az k
 choice k:=if isW l k [Kz] then .ok (.mk 3 []) (k+1) else
  (p.simple k).then fun x k=>if isW l k [Ep] then(p.simple (k+1)).then fun y k=> .ok (.mk 2 [x,y]) k
   else(p.rest x k).then fun x k=> .ok (.mk 1 [x]) k
 choicesL cs k:=if isW l k [Mb] then(p.choice (k+1)).then fun c k=>p.choicesL (cs++ [c]) k else .ok cs k
 arg k:=if(tk l k).kind=1/\isW l (k+1) [Cc]=true then(p.expr (k+2)).then fun e k'=> .ok (.mk [.mk 1 [.mk 3 0 0 (tk l k).text [] [] (tk l k).line 0 0]] e) k'
  else(p.expr k).then fun e k=> .ok (.mk [] e) k
 argsL az k:=if isW l k [Cx] then(p.arg (k+1)).then fun a k=>p.argsL (az++ [a]) k else .ok az k
 name k:=Eb9 l k fun s k1=>p.nameL (tk l k).line (.mk 3 0 0 s [] [] (tk l k).line 0 0) k1
 nameL line x k:=
  if isW l k [Qf,Ak9] then p.nameL line (.mk 5 0 0 [] [x] [] line 0 0) (k+2)
  else if isW l k [Qf] then Eb9 l (k+1) fun s k=>p.nameL line (.mk 4 0 0 s [x] [] line 0 0) k
  else if isW l k [By] then(p.arg (k+1)).then fun a k=>(p.argsL [a] k).then fun az k=>Cf2 l Cb k fun k=>p.nameL line (.mk 7 0 0 [] [x] az line 0 0) k
  else if isW l k [Fu,By] then(p.paren (k+1)).then fun y k=>p.nameL line (.mk 8 0 0 [] [x,y] [] line 0 0) k
  else if isW l k [Fu] then Eb9 l (k+1) fun s k=>p.nameL line (.mk 6 0 0 s [x] [] line 0 0) k
  else .ok x k
def P:Nat->PS
 | 0=>Fn6
 | n+1=>Fo1 l (P n)
end
end Go.Dl

-- Chapter 3: expressions as data.
namespace Go.Dl
open Go Go.Proofs
set_option maxRecDepth 100000
mutual
def dEx:Ex->List DVal
 | .mk k o n s l a li en t=> [.int .u8 k, .int .u8 o, .int .i64 n, .str s, .vslice (Bs7 l) l.length, .vslice (Cf3 a) a.length, .int .i64 li, .int .i64 en, .int .i64 t]
def Bs7:List Ex->List DVal
 | []=> []
 | x::l=>dEx x++Bs7 l
def dAs:As->List DVal
 | .mk c e=> .vslice (Cf4 c) c.length::dEx e
def Cf3:List As->List DVal
 | []=> []
 | x::l=>dAs x++Cf3 l
def dCh:Ch->List DVal
 | .mk k l=> [.int .u8 k, .vslice (Bs7 l) l.length]
def Cf4:List Ch->List DVal
 | []=> []
 | x::l=>dCh x++Cf4 l
end
theorem Al0: ∀l:List Ex,Bs7 l=l.flatMap dEx
 | []=>rfl
 | x::l=>by rw[Bs7,Al0 l,List.flatMap_cons]
theorem Bk3: ∀l:List As,Cf3 l=l.flatMap dAs
 | []=>rfl
 | x::l=>by rw[Cf3,Bk3 l,List.flatMap_cons]
theorem Bk4: ∀l:List Ch,Cf4 l=l.flatMap dCh
 | []=>rfl
 | x::l=>by rw[Cf4,Bk4 l,List.flatMap_cons]
theorem Bs8 (k o n:Int) (s:List UInt8) (l:List Ex) (a:List As) (li en t:Int):dEx (.mk k o n s l a li en t)= [.int .u8 k, .int .u8 o, .int .i64 n, .str s, .vslice (l.flatMap dEx) l.length, .vslice (a.flatMap dAs) a.length, .int .i64 li, .int .i64 en, .int .i64 t]:=by
 rw[dEx,Al0,Bk3]
theorem Ki (e:Ex):dEx e= [.int .u8 e.kind, .int .u8 e.oper, .int .i64 e.n, .str e.s, .vslice (e.l.flatMap dEx) e.l.length, .vslice (e.a.flatMap dAs) e.a.length, .int .i64 e.line, .int .i64 e.ent, .int .i64 e.t]:=by
 cases e;rw[Bs8];rfl
theorem Xd (x:As):dAs x= .vslice (x.c.flatMap dCh) x.c.length::dEx x.e:=by
 cases x;rw[dAs,Bk4];rfl
theorem Aa1 (x:Ch):dCh x= [.int .u8 x.kind, .vslice (x.l.flatMap dEx) x.l.length]:=by
 cases x;rw[dCh,Al0];rfl
theorem Ad (e:Ex):(dEx e).length=9:=by rw[Ki];rfl
theorem Cr (e:As):(dAs e).length=10:=by rw[Xd,jA,Ad]
theorem Cu (e:Ch):(dCh e).length=2:=by rw[Aa1];rfl
theorem Ex9 (e:Ex):(dEx e).take 9=dEx e:=List.take_of_length_le (by rw[Ad];decide)
theorem Fo2 (e:As):(dAs e).take 10=dAs e:=List.take_of_length_le (by rw[Cr];decide)
theorem Fo3 (e:Ch):(dCh e).take 2=dCh e:=List.take_of_length_le (by rw[Cu];decide)
theorem Fo4 (e:Ex):(dEx e).drop 9= []:=List.drop_of_length_le (by rw[Ad];decide)
theorem Lt (e:Ex):(dEx e).all (fun d=>d.one)=true:=by rw[Ki];rfl
theorem Es2 (e:As):(dAs e).all (fun d=>d.one)=true:=by rw[Xd,List.all_cons,Lt];rfl
theorem Es3 (e:Ch):(dCh e).all (fun d=>d.one)=true:=by rw[Aa1];rfl
theorem Ey0 (e:Ex):(dEx e)[0]? =some (.int .u8 e.kind):=by rw[Ki];rfl
theorem Fo5 (e:Ex):(dEx e)[1]? =some (.int .u8 e.oper):=by rw[Ki];rfl
theorem Fo6 (e:Ex):(dEx e)[2]? =some (.int .i64 e.n):=by rw[Ki];rfl
theorem Fo7 (e:Ex):(dEx e)[3]? =some (.str e.s):=by rw[Ki];rfl
theorem Fo8 (e:Ex):(dEx e)[4]? =some (.vslice (e.l.flatMap dEx) e.l.length):=by rw[Ki];rfl
theorem Fo9 (e:Ex):(dEx e)[5]? =some (.vslice (e.a.flatMap dAs) e.a.length):=by rw[Ki];rfl
theorem Ap1 (e:As):(dAs e)[0]? =some (.vslice (e.c.flatMap dCh) e.c.length):=by rw[Xd];rfl
theorem Az2 (e:As):((dAs e).drop 1).take 9=dEx e.e:=by rw[Xd];exact Ex9 _
theorem Db1 (e:Ch):(dCh e)[0]? =some (.int .u8 e.kind):=by rw[Aa1];rfl
theorem Bk5 (e:Ch):(dCh e)[1]? =some (.vslice (e.l.flatMap dEx) e.l.length):=by rw[Aa1];rfl
def dXs (l:List Ex):DVal:= .vslice (l.flatMap dEx) l.length
def dAl (l:List As):DVal:= .vslice (l.flatMap dAs) l.length
def dCl (l:List Ch):DVal:= .vslice (l.flatMap dCh) l.length
attribute [go_sem] Ad Cr Cu Ex9 Fo2 Fo3 Fo4 Lt Es2 Es3 Ey0 Fo5 Fo6 Fo7 Fo8 Fo9 Ap1 Az2 Db1 Bk5 jH
section
variable {G:Nat->DVal} {H:Ab}
theorem Xe (G:Nat->DVal) (H:Ab) (e:Ex):Ae Tryz.prog G 107 [.agg (dEx e)] H (Ba (.bool (Cq e)) H):=by
 refine Aa Tryz.func107 Tryz.call107 rfl (by kernel_rfl) ?_;simp(disch:=omega)only[go_sem,DVal.cells];intro r hr;dsimp only at hr;by_cases h1:3<=e.kind
 ·simp(disch:=omega)only[go_sem,h1];exact Wj.dropA r hr (Wj.refl ⟨by rw[Cq,decide_eq_true h1,jS],rfl⟩)
 ·simp(disch:=omega)only[go_sem,h1];exact Wj.dropA r hr (Wj.refl ⟨by rw[Cq,decide_eq_false h1,jT],rfl⟩)
theorem Ap2 (G:Nat->DVal) (H:Ab) (e:Ex):Ae Tryz.prog G 395 [.agg (dEx e)] H (Ba (.bool (Cq e)) H):=by
 refine Aa Tryz.func395 Tryz.call395 rfl (by kernel_rfl) ?_;simp(disch:=omega)only[go_sem,DVal.cells];intro r hr;dsimp only at hr;by_cases h3:e.kind=3
 ·simp(disch:=omega)only[go_sem,h3];exact Wj.dropA r hr (Wj.refl ⟨by rw[Cq,h3];rfl,rfl⟩)
 by_cases h4:e.kind=4
 ·simp(disch:=omega)only[go_sem,h3,h4];exact Wj.dropA r hr (Wj.refl ⟨by rw[Cq,h4];rfl,rfl⟩)
 by_cases h5:e.kind=5
 ·simp(disch:=omega)only[go_sem,h3,h4,h5];exact Wj.dropA r hr (Wj.refl ⟨by rw[Cq,h5];rfl,rfl⟩)
 by_cases h6:e.kind=6
 ·simp(disch:=omega)only[go_sem,h3,h4,h5,h6];exact Wj.dropA r hr (Wj.refl ⟨by rw[Cq,h6];rfl,rfl⟩)
 by_cases h7:e.kind=7
 ·simp(disch:=omega)only[go_sem,h3,h4,h5,h6,h7];exact Wj.dropA r hr (Wj.refl ⟨by rw[Cq,h7];rfl,rfl⟩)
 by_cases h8:e.kind=8
 ·simp(disch:=omega)only[go_sem,h3,h4,h5,h6,h7,h8];exact Wj.dropA r hr (Wj.refl ⟨by rw[Cq,h8];rfl,rfl⟩)
 ·simp(disch:=omega)only[go_sem,h3,h4,h5,h6,h7,h8];refine Wj.dropA r hr (Wj.refl ⟨?_,rfl⟩);rw[Cq,<-Bool.decide_and,decide_eq_false (by omega)]
end
end Go.Dl

-- Chapter 3: slices of trees: the library's functions.
namespace Go.Dl
open Go Go.Proofs
set_option maxRecDepth 100000
mutual
def Kj:Ex->Nat
 | .mk _ _ _ _ l a _ _ _=>1+Nx l+Pg a
def Nx:List Ex->Nat
 | []=>0
 | x::l=>Kj x+Nx l
def Ae5:As->Nat
 | .mk c e=>Lg c+Kj e
def Pg:List As->Nat
 | []=>0
 | x::l=>Ae5 x+Pg l
def Bg8:Ch->Nat
 | .mk _ l=>1+Nx l
def Lg:List Ch->Nat
 | []=>0
 | x::l=>Bg8 x+Lg l
end
theorem Cf5 (e:Ex):1<=Kj e:=by cases e;rw[Kj];omega
theorem Ec1 (a:As):1<=Ae5 a:=by cases a;rw[Ae5];have:=Cf5 (‹Ex›);omega
theorem Ec2 (c:Ch):1<=Bg8 c:=by cases c;rw[Bg8];omega
theorem Vf (e:Ex):Kj e=1+Nx e.l+Pg e.a:=by cases e;rw[Kj];rfl
theorem Sk (a:As):Ae5 a=Lg a.c+Kj a.e:=by cases a;rw[Ae5];rfl
theorem Sl (c:Ch):Bg8 c=1+Nx c.l:=by cases c;rw[Bg8];rfl
theorem Xf: ∀ {l:List Ex} {x:Ex},x∈l->Kj x<=Nx l
 | y::l,x,h=>by
  rw[Nx];rcases List.mem_cons.1 h with rfl | h
  ·omega
  ·have:=Xf h;omega
theorem Yo: ∀ {l:List As} {x:As},x∈l->Ae5 x<=Pg l
 | y::l,x,h=>by
  rw[Pg];rcases List.mem_cons.1 h with rfl | h
  ·omega
  ·have:=Yo h;omega
theorem Mq: ∀ {l:List Ch} {x:Ch},x∈l->Bg8 x<=Lg l
 | y::l,x,h=>by
  rw[Lg];rcases List.mem_cons.1 h with rfl | h
  ·omega
  ·have:=Mq h;omega
theorem Kk: ∀l:List Ex,l.length<=Nx l
 | []=>Nat.le_refl _
 | x::l=>by rw[Nx,jA];have:=Kk l;have:=Cf5 x;omega
theorem Yp: ∀l:List As,l.length<=Pg l
 | []=>Nat.le_refl _
 | x::l=>by rw[Pg,jA];have:=Yp l;have:=Ec1 x;omega
theorem La: ∀l:List Ch,l.length<=Lg l
 | []=>Nat.le_refl _
 | x::l=>by rw[Lg,jA];have:=La l;have:=Ec2 x;omega
theorem Db2 {e:Ex}:e.l.length<=Kj e:=by have:=Kk e.l;rw[Vf];omega
theorem Db3 {e:Ex}:e.a.length<=Kj e:=by have:=Yp e.a;rw[Vf];omega
theorem Fg5 {e x:Ex} (h:x∈e.l):Kj x<Kj e:=by have:=Xf h;rw[Vf e];omega
theorem Az3 {e:Ex} {a:As} (h:a∈e.a):Ae5 a<Kj e:=by have:=Yo h;rw[Vf e];omega
theorem Es4 (G:Nat->DVal) (H:Ab) (p:Ex->Bool) (l:List Ex) (g:FuncId) (xs ys:List DVal) (hl:l.length<=1099511627776)
  (hp: ∀x∈l,Ae Tryz.prog G g (xs++ [.agg (dEx x)]++ys) H (Ba (.bool (p x)) H)):
  Ae Tryz.prog G 226 [.vslice (l.flatMap dEx) l.length, .func (.func g) xs ys] H (Ba (dI (As3 p l)) H):=by
 refine Aa Tryz.func226 Tryz.call226 rfl (by kernel_rfl) ?_;simp(disch:=omega)only[go_sem];refine Dt1.run (fun(i:Nat) env heap=>heap=H/\env 0= .vslice (l.flatMap dEx) l.length/\env 1= .func (.func g) xs ys/\env 7=dI l.length/\env 8=dI i/\i<=l.length/\ ∀x∈l.take i,p x=false) (fun i=>l.length-i) 0 ?_ ?_
 ·simp(disch:=omega)only[go_sem];simp
 ·rintro i env heap ⟨rfl,h0,h1,h7,h8,hi,hn⟩;by_cases hlt:i<l.length
  ·have Aw:=Bu Ad l i hlt;simp(disch:=omega)only[go_sem,h0,h1,h7,h8,Aw,Al Ad];have hc:=hp l[i] (List.getElem_mem hlt)
   skip
   refine hc.mono ?_;rintro _ H ⟨rfl,rfl⟩;cases hx:p l[i] with
   | true=>
    simp(disch:=omega)only[go_sem,h0,h1,h7,h8];exact Wj.refl ⟨by rw[Yl hlt hx hn],rfl⟩
   | false=>
    simp(disch:=omega)only[go_sem,h0,h1,h7,h8];refine⟨i+1,_,Ws.refl _, ?_,by omega⟩;simp(disch:=omega)only[go_sem,h0,h1,h7,h8];(repeat' apply And.intro)<;>(try first | rfl | assumption | omega);exact Kv hlt hn hx
  ·simp(disch:=omega)only[go_sem,h0,h1,h7,h8];have:i=l.length:=by omega
   subst this;rw[List.take_length] at hn;exact Wj.refl ⟨by rw[Ym hn],rfl⟩
theorem Aa2 (G:Nat->DVal) (H:Ab) (p:Ex->Bool) (l:List Ex) (g:FuncId) (xs ys:List DVal) (hl:l.length<=1099511627776)
  (hp: ∀x∈l,Ae Tryz.prog G g (xs++ [.agg (dEx x)]++ys) H (Ba (.bool (p x)) H)):
  Ae Tryz.prog G 98 [.vslice (l.flatMap dEx) l.length, .func (.func g) xs ys] H (Ba (.bool (l.any p)) H):=by
 refine Aa Tryz.func98 Tryz.call98 rfl (by kernel_rfl) ?_;simp(disch:=omega)only[go_sem];refine(Es4 G H p l g xs ys hl hp).mono ?_;rintro _ H ⟨rfl,rfl⟩;simp(disch:=omega)only[go_sem];exact Wj.refl ⟨by rw[Tt],rfl⟩
theorem Es5 (G:Nat->DVal) (H:Ab) (p:As->Bool) (l:List As) (g:FuncId) (xs ys:List DVal) (hl:l.length<=1099511627776)
  (hp: ∀x∈l,Ae Tryz.prog G g (xs++ [.agg (dAs x)]++ys) H (Ba (.bool (p x)) H)):
  Ae Tryz.prog G 374 [.vslice (l.flatMap dAs) l.length, .func (.func g) xs ys] H (Ba (dI (As3 p l)) H):=by
 refine Aa Tryz.func374 Tryz.call374 rfl (by kernel_rfl) ?_;simp(disch:=omega)only[go_sem];refine Dt1.run (fun(i:Nat) env heap=>heap=H/\env 0= .vslice (l.flatMap dAs) l.length/\env 1= .func (.func g) xs ys/\env 7=dI l.length/\env 8=dI i/\i<=l.length/\ ∀x∈l.take i,p x=false) (fun i=>l.length-i) 0 ?_ ?_
 ·simp(disch:=omega)only[go_sem];simp
 ·rintro i env heap ⟨rfl,h0,h1,h7,h8,hi,hn⟩;by_cases hlt:i<l.length
  ·have Aw:=Bu Cr l i hlt;simp(disch:=omega)only[go_sem,h0,h1,h7,h8,Aw,Al Cr];have hc:=hp l[i] (List.getElem_mem hlt)
   skip
   refine hc.mono ?_;rintro _ H ⟨rfl,rfl⟩;cases hx:p l[i] with
   | true=>
    simp(disch:=omega)only[go_sem,h0,h1,h7,h8];exact Wj.refl ⟨by rw[Yl hlt hx hn],rfl⟩
   | false=>
    simp(disch:=omega)only[go_sem,h0,h1,h7,h8];refine⟨i+1,_,Ws.refl _, ?_,by omega⟩;simp(disch:=omega)only[go_sem,h0,h1,h7,h8];(repeat' apply And.intro)<;>(try first | rfl | assumption | omega);exact Kv hlt hn hx
  ·simp(disch:=omega)only[go_sem,h0,h1,h7,h8];have:i=l.length:=by omega
   subst this;rw[List.take_length] at hn;exact Wj.refl ⟨by rw[Ym hn],rfl⟩
theorem Cs4 (G:Nat->DVal) (H:Ab) (p:As->Bool) (l:List As) (g:FuncId) (xs ys:List DVal) (hl:l.length<=1099511627776)
  (hp: ∀x∈l,Ae Tryz.prog G g (xs++ [.agg (dAs x)]++ys) H (Ba (.bool (p x)) H)):
  Ae Tryz.prog G 321 [.vslice (l.flatMap dAs) l.length, .func (.func g) xs ys] H (Ba (.bool (l.any p)) H):=by
 refine Aa Tryz.func321 Tryz.call321 rfl (by kernel_rfl) ?_;simp(disch:=omega)only[go_sem];refine(Es5 G H p l g xs ys hl hp).mono ?_;rintro _ H ⟨rfl,rfl⟩;simp(disch:=omega)only[go_sem];exact Wj.refl ⟨by rw[Tt],rfl⟩
theorem Es6 (G:Nat->DVal) (H:Ab) (p:Ch->Bool) (l:List Ch) (g:FuncId) (xs ys:List DVal) (hl:l.length<=1099511627776)
  (hp: ∀x∈l,Ae Tryz.prog G g (xs++ [.agg (dCh x)]++ys) H (Ba (.bool (p x)) H)):
  Ae Tryz.prog G 225 [.vslice (l.flatMap dCh) l.length, .func (.func g) xs ys] H (Ba (dI (As3 p l)) H):=by
 refine Aa Tryz.func225 Tryz.call225 rfl (by kernel_rfl) ?_;simp(disch:=omega)only[go_sem];refine Dt1.run (fun(i:Nat) env heap=>heap=H/\env 0= .vslice (l.flatMap dCh) l.length/\env 1= .func (.func g) xs ys/\env 7=dI l.length/\env 8=dI i/\i<=l.length/\ ∀x∈l.take i,p x=false) (fun i=>l.length-i) 0 ?_ ?_
 ·simp(disch:=omega)only[go_sem];simp
 ·rintro i env heap ⟨rfl,h0,h1,h7,h8,hi,hn⟩;by_cases hlt:i<l.length
  ·have Aw:=Bu Cu l i hlt;simp(disch:=omega)only[go_sem,h0,h1,h7,h8,Aw,Al Cu];have hc:=hp l[i] (List.getElem_mem hlt)
   skip
   refine hc.mono ?_;rintro _ H ⟨rfl,rfl⟩;cases hx:p l[i] with
   | true=>
    simp(disch:=omega)only[go_sem,h0,h1,h7,h8];exact Wj.refl ⟨by rw[Yl hlt hx hn],rfl⟩
   | false=>
    simp(disch:=omega)only[go_sem,h0,h1,h7,h8];refine⟨i+1,_,Ws.refl _, ?_,by omega⟩;simp(disch:=omega)only[go_sem,h0,h1,h7,h8];(repeat' apply And.intro)<;>(try first | rfl | assumption | omega);exact Kv hlt hn hx
  ·simp(disch:=omega)only[go_sem,h0,h1,h7,h8];have:i=l.length:=by omega
   subst this;rw[List.take_length] at hn;exact Wj.refl ⟨by rw[Ym hn],rfl⟩
theorem Az4 (G:Nat->DVal) (H:Ab) (p:Ch->Bool) (l:List Ch) (g:FuncId) (xs ys:List DVal) (hl:l.length<=1099511627776)
  (hp: ∀x∈l,Ae Tryz.prog G g (xs++ [.agg (dCh x)]++ys) H (Ba (.bool (p x)) H)):
  Ae Tryz.prog G 96 [.vslice (l.flatMap dCh) l.length, .func (.func g) xs ys] H (Ba (.bool (l.any p)) H):=by
 refine Aa Tryz.func96 Tryz.call96 rfl (by kernel_rfl) ?_;simp(disch:=omega)only[go_sem];refine(Es6 G H p l g xs ys hl hp).mono ?_;rintro _ H ⟨rfl,rfl⟩;simp(disch:=omega)only[go_sem];exact Wj.refl ⟨by rw[Tt],rfl⟩
end Go.Dl

-- Chapter 3: what is valid: arguments, choices, associations.
namespace Go.Dl
open Go Go.Proofs
set_option maxRecDepth 100000
theorem Al1: ∀ {l:List As},Pf l=true↔ ∀i (h:i+1<l.length),(l[i].c.isEmpty || !l[i+1].c.isEmpty)=true
 | []=>⟨fun _ i h=>absurd h (by simp),fun _=>rfl⟩
 | [a]=>⟨fun _ i h=>absurd h (by simp),fun _=>rfl⟩
 | a::b::r=>by
  rw[Pf,jF,Al1 (l:=b::r)];constructor
  ·rintro⟨h1,h2⟩ i h;cases i with
   | zero=>exact h1
   | succ i=>exact h2 i (by simpa using h)
  ·intro h;exact⟨h 0 (by simp),fun i hi=>h (i+1) (by simpa using hi)⟩
theorem Ao {α:Type} (l:List α):l.isEmpty=decide (l.length=0):=by cases l<;>rfl
def Bk6 (a b:As):Int:=(if(a.c.length:Int)<1 then(a.c.length:Int) else 1)-(if(b.c.length:Int)<1 then(b.c.length:Int) else 1)
section
variable {G:Nat->DVal} {H:Ab}
theorem Bg9 (G:Nat->DVal) (H:Ab) (a b:As):Ae Tryz.prog G 373 [.agg (dAs a), .agg (dAs b)] H (Ba (dI (Bk6 a b)) H):=by
 have hw:IntKind.i64.wrap ((if(a.c.length:Int)<1 then(a.c.length:Int) else 1)-(if(b.c.length:Int)<1 then(b.c.length:Int) else 1))=Bk6 a b:=by unfold Bk6;rw[IntKind.wrap_i64];split<;>split<;>omega
 refine Aa Tryz.func373 Tryz.call373 rfl (by kernel_rfl) ?_;simp(disch:=omega)only[go_sem,DVal.cells];intro r2 hr2;dsimp only at hr2;simp(disch:=omega)only[go_sem,DVal.cells];intro r3 hr3;dsimp only at hr3;obtain⟨m2,m1,hr3'⟩:=Ex8.1 hr3;simp(disch:=omega)only[go_sem,m1,m2,hw];exact Wj.sub (show Sub H _ from(by repeat (first | exact Sub.refl _ | assumption | refine Sub.up ?_ (by assumption) _))) (Wj.refl ⟨rfl,rfl⟩)
theorem Bh0 (G:Nat->DVal) (H:Ab) (l:List As) (hl:l.length<=1099511627776):
  Ae Tryz.prog G 372 [.vslice (l.flatMap dAs) l.length, .func (.func 373) [] []] H (Ba (.bool (Pf l)) H):=by
 have hw:IntKind.i64.wrap ((l.length:Int)-1)=(l.length:Int)-1:=by rw[IntKind.wrap_i64];omega
 refine Aa Tryz.func372 Tryz.call372 rfl (by kernel_rfl) ?_;simp(disch:=omega)only[go_sem,hw];refine Dt1.run (fun(j:Nat) env heap=>heap=H/\env 0= .vslice (l.flatMap dAs) l.length/\env 1= .func (.func 373) [] []/\env 5=dI ((j:Int)-1)/\j<=l.length/\ ∀i (_:j<=i+1) (h:i+1<l.length),(l[i].c.isEmpty || !l[i+1].c.isEmpty)=true) (fun j=>j) l.length ?_ ?_
 ·simp(disch:=omega)only[go_sem];(repeat' apply And.intro)<;>(try first | rfl | assumption | omega)
 ·rintro j env heap ⟨rfl,h0,h1,h5,hj,hn⟩;by_cases hlt:1<j
  ·obtain⟨i,rfl⟩: ∃i,j=i+2:=⟨j-2,by omega⟩;have e5:((i+2:Nat):Int)-1=((i+1:Nat):Int):=by omega
   have hg1:=Bu Cr l (i+1) (by omega);have hg0:=Bu Cr l i (by omega);rw[e5] at h5;have hw2:IntKind.i64.wrap (((i+1:Nat):Int)-1)=(i:Int):=by rw[IntKind.wrap_i64];omega
   simp(disch:=omega)only[go_sem,h0,h1,h5];refine Ak (by kernel_rfl) pL52 (by kernel_rfl) ?_;simp(disch:=omega)only[go_sem,h0,h1,h5,hg1,hg0,hw2,Al Cr];refine(Bg9 G _ l[i+1] l[i]).mono ?_;rintro _ H ⟨rfl,rfl⟩;by_cases c:Bk6 l[i+1] l[i]<0
   ·simp(disch:=omega)only[go_sem,h0,h1,h5,c];refine Wj.refl ⟨?_,rfl⟩;have:Pf l=false:=by
     rw[<-Bool.not_eq_true,Al1];intro h;have:=h i (by omega);rw[Ao,Ao,Bool.or_eq_true,Bool.not_eq_true',decide_eq_true_eq,decide_eq_false_iff_not] at this;unfold Bk6 at c;split at c<;>split at c<;>omega
    rw[this]
   ·simp(disch:=omega)only[go_sem,h0,h1,h5,hw2,c];refine⟨i+1,_,Ws.refl _, ?_,by omega⟩;simp(disch:=omega)only[go_sem,h0,h1,h5,hw2];(repeat' apply And.intro)<;>(try first | rfl | assumption | omega)
    ·rw[show((i+1:Nat):Int)-1=i by omega]
    intro i' hi1 hi2;by_cases e:i'=i
    ·subst e;rw[Ao,Ao,Bool.or_eq_true,Bool.not_eq_true',decide_eq_true_eq,decide_eq_false_iff_not];unfold Bk6 at c;split at c<;>split at c<;>omega
    ·exact hn i' (by omega) hi2
  ·have: ¬(0:Int)<(j:Int)-1:=by omega
   simp(disch:=omega)only[go_sem,h0,h1,h5,this];refine Wj.refl ⟨?_,rfl⟩;rw[Al1.2 fun i h=>hn i (by omega) h]
theorem Ae6 (G:Nat->DVal) (H:Ab) (l:List As) (hl:l.length<=1099511627776):Ae Tryz.prog G 320 [.vslice (l.flatMap dAs) l.length] H (Ba (.bool (Pf l)) H):=by
 refine Aa Tryz.func320 Tryz.call320 rfl (by kernel_rfl) ?_;simp(disch:=omega)only[go_sem];refine(Bh0 G _ l hl).mono ?_;rintro _ H1 ⟨rfl,rfl⟩;simp(disch:=omega)only[go_sem];exact Wj.refl ⟨rfl,rfl⟩
theorem Az5 (G:Nat->DVal) (H:Ab) (e:Ex) (k:Nat) (hk:0<k):Ae Tryz.prog G 219 [.agg (dEx e), .int .i64 k] H (Ba (.bool (Ke e k)) H):=by
 refine Aa Tryz.func219 Tryz.call219 rfl (by kernel_rfl) ?_;simp(disch:=omega)only[go_sem,DVal.cells];intro r hr;dsimp only at hr;by_cases h1:e.l.length=k
 ·have h1':(e.l.length:Int)=(k:Int):=by omega
  have hp:0<e.l.length:=by omega
  have hg:=Bu Ad e.l 0 hp;have hfl:=Al Ad e.l;have hgd:e.l.getD 0 ex0=e.l[0]:=by rw[List.getD,List.getElem?_eq_getElem hp];rfl
  rw[Nat.zero_mul,jJ] at hg;simp(disch:=omega)only[go_sem,h1',hfl,hg];refine(Xe G _ e.l[0]).mono ?_;rintro _ H1 ⟨rfl,rfl⟩;simp(disch:=omega)only[go_sem];exact Wj.dropA r hr (Wj.refl ⟨by rw[Ke,decide_eq_true h1,jS,hgd],rfl⟩)
 ·have h1': ¬(e.l.length:Int)=(k:Int):=by omega
  simp(disch:=omega)only[go_sem,h1'];exact Wj.dropA r hr (Wj.refl ⟨by rw[Ke,decide_eq_false h1,jT],rfl⟩)
end
end Go.Dl

-- Chapter 3: what is valid: choices, arguments.
namespace Go.Dl
open Go Go.Proofs
set_option maxRecDepth 100000
theorem ch0 {l:List Ch} (h:0<l.length):(l.flatMap dCh)[0]? =some (.int .u8 l[0].kind)/\(l.flatMap dCh)[1]? =some (.vslice (l[0].l.flatMap dEx) l[0].l.length):=by
 have h0:=Ck Cu l 0 h 0 (by decide);have h1:=Ck Cu l 0 h 1 (by decide);rw[Db1] at h0;rw[Bk5] at h1;exact⟨by simpa using h0,by simpa using h1⟩
theorem Fp0 {l:List Ex} (h:0<l.length):(l.flatMap dEx)[0]? =some (.int .u8 l[0].kind):=by
 have h0:=Ck Ad l 0 h 0 (by decide);rw[Ey0] at h0;simpa using h0
section
variable {G:Nat->DVal} {H:Ab}
theorem Cf6 (G:Nat->DVal) (H:Ab) (l:List Ch):Ae Tryz.prog G 323 [.vslice (l.flatMap dCh) l.length] H (Ba (.bool (Cy l)) H):=by
 have hfl:=Al Cu l;refine Aa Tryz.func323 Tryz.call323 rfl (by kernel_rfl) ?_;by_cases h1:l.length=1
 ·have h1':(l.length:Int)=1:=by omega
  obtain⟨g0,g1⟩:=ch0 (l:=l) (by omega);obtain⟨c,rfl⟩:=List.length_eq_one_iff.1 h1;rw[List.getElem_cons_zero] at g0 g1;by_cases h2:c.kind=1
  ·by_cases h3:c.l.length=1
   ·have h3':(c.l.length:Int)=1:=by omega
    have g2:=Fp0 (l:=c.l) (by omega);have hfe:=Al Ad c.l;obtain⟨x,hx⟩:=List.length_eq_one_iff.1 h3;have e:c.l[0]=x:=by simp [hx]
    rw[e] at g2;have hs:Cy [c]=decide (x.kind=3):=by simp [Cy,h2,hx]
    simp(disch:=omega)only[go_sem,h1',hfl,g0,g1,h2,h3',g2,hfe];exact Wj.refl ⟨by rw[hs],rfl⟩
   ·have h3': ¬(c.l.length:Int)=1:=by omega
    have hs:Cy [c]=false:=by
     rw[Cy];split
     ·rename_i hx;rw[hx] at h3;simp at h3
     ·simp
    simp(disch:=omega)only[go_sem,h1',hfl,g0,g1,h2,h3'];exact Wj.refl ⟨by rw[hs],rfl⟩
  ·simp(disch:=omega)only[go_sem,h1',hfl,g0,g1,h2];exact Wj.refl ⟨by simp [Cy,h2],rfl⟩
 ·have h1': ¬(l.length:Int)=1:=by omega
  have hs:Cy l=false:=by
   unfold Cy;split
   ·simp at h1
   ·rfl
  simp(disch:=omega)only[go_sem,h1'];exact Wj.refl ⟨by rw[hs],rfl⟩
theorem As5 (G:Nat->DVal) (H:Ab) (a:As):Ae Tryz.prog G 322 [.agg (dAs a)] H (Ba (.bool (!(a.c.isEmpty || Cy a.c))) H):=by
 refine Aa Tryz.func322 Tryz.call322 rfl (by kernel_rfl) ?_;simp(disch:=omega)only[go_sem,DVal.cells];intro r hr;dsimp only at hr;by_cases h1:0<a.c.length
 ·have h1':(0:Int)<(a.c.length:Int):=by omega
  have he:a.c.isEmpty=false:=by rw[Ao];exact decide_eq_false (by omega)
  simp(disch:=omega)only[go_sem,h1'];refine(Cf6 G _ a.c).mono ?_;rintro _ H1 ⟨rfl,rfl⟩;simp(disch:=omega)only[go_sem];exact Wj.dropA r hr (Wj.refl ⟨by rw[he,Bool.false_or],rfl⟩)
 ·have h1': ¬(0:Int)<(a.c.length:Int):=by omega
  have he:a.c.isEmpty=true:=by rw[Ao];exact decide_eq_true (by omega)
  simp(disch:=omega)only[go_sem,h1'];exact Wj.dropA r hr (Wj.refl ⟨by rw[he];rfl,rfl⟩)
theorem Sm {α:Type} (p:α->Bool) (l:List α):l.any (fun x=>!p x)=!l.all p:=by
 induction l with
 | nil=>rfl
 | cons x l ih=>rw[List.any_cons,List.all_cons,ih,Bool.not_and]
theorem Az6 (G:Nat->DVal) (H:Ab) (l:List As) (hl:l.length<=1099511627776):Ae Tryz.prog G 220 [.vslice (l.flatMap dAs) l.length] H (Ba (.bool (Kf l)) H):=by
 refine Aa Tryz.func220 Tryz.call220 rfl (by kernel_rfl) ?_;by_cases h1:0<l.length
 ·have h1':(0:Int)<(l.length:Int):=by omega
  by_cases h2:l.length<=8
  ·have h2':(l.length:Int)<=8:=by omega
   simp(disch:=omega)only[go_sem,h1',h2'];refine(Ae6 G _ l hl).mono ?_;rintro _ H1 ⟨rfl,rfl⟩;cases h3:Pf l with
   | false=>
    simp(disch:=omega)only[go_sem];exact Wj.refl ⟨by rw[Kf,h3,Bool.and_false,jT],rfl⟩
   | true=>
    simp(disch:=omega)only[go_sem];refine(Cs4 G _ (fun a=>!(a.c.isEmpty || Cy a.c)) l 322 [] [] hl fun x _=>As5 G _ x).mono ?_;rintro _ H1 ⟨rfl,rfl⟩;rw[Sm];simp(disch:=omega)only[go_sem];exact Wj.refl ⟨by rw[Kf,h3,decide_eq_true h1,decide_eq_true h2,jS,jS,jS,Bool.not_not],rfl⟩
  ·have h2': ¬(l.length:Int)<=8:=by omega
   simp(disch:=omega)only[go_sem,h1',h2'];exact Wj.refl ⟨by rw[Kf,decide_eq_false h2,Bool.and_false,jT,jT],rfl⟩
 ·have h1': ¬(0:Int)<(l.length:Int):=by omega
  simp(disch:=omega)only[go_sem,h1'];exact Wj.refl ⟨by rw[Kf,decide_eq_false h1,jT,jT,jT],rfl⟩
def Ol:List (DVal×DVal):= [(.int .u8 1, .int .i64 1),(.int .u8 2, .int .i64 2),(.int .u8 3, .int .i64 0)]
theorem Cf7 (G:Nat->DVal) (H:Ab) (n:Nat) (l:List Ch) (c:Ch) (r1 rm r3:Nat) (h1:H r1=some (.cells [.vslice (l.flatMap dCh) l.length] 41)) (hm:H rm=some (.map Ol)) (h3:H r3=some (.cells [.omap rm] 252)):
  Ae Tryz.prog G 224 ([]++ [.agg (dCh c)]++ [.optr r3 0, .optr r1 0]) H (Ba (.bool (!Cs l.length c)) H):=by
 refine Aa Tryz.func224 Tryz.call224 rfl (by kernel_rfl) ?_;simp(disch:=omega)only[go_sem,DVal.cells,jG,jI];intro r hr;dsimp only at hr;have n1:r1≠r:=Am hr h1;have n3:r3≠r:=Am hr h3;have nm:rm≠r:=Am hr hm;by_cases k1:c.kind=1
 ·simp(disch:=omega)only[go_sem,n1,n3,nm,h1,hm,h3,k1,Ol];refine⟨_,rfl, ?_⟩;by_cases q:c.l.length=1
  ·have q':(c.l.length:Int)=1:=by omega
   simp(disch:=omega)only[go_sem,n1,n3,nm,h1,hm,h3,k1,Ol,q'];exact Wj.dropA r hr (Wj.refl ⟨by simp [Cs,k1,q],rfl⟩)
  ·have q': ¬(1:Int)=(c.l.length:Int):=by omega
   simp(disch:=omega)only[go_sem,n1,n3,nm,h1,hm,h3,k1,Ol,q'];exact Wj.dropA r hr (Wj.refl ⟨by simp [Cs,k1,q],rfl⟩)
 by_cases k2:c.kind=2
 ·simp(disch:=omega)only[go_sem,n1,n3,nm,h1,hm,h3,k2,Ol];refine⟨_,rfl, ?_⟩;by_cases q:c.l.length=2
  ·have q':(c.l.length:Int)=2:=by omega
   simp(disch:=omega)only[go_sem,n1,n3,nm,h1,hm,h3,k2,Ol,q'];exact Wj.dropA r hr (Wj.refl ⟨by simp [Cs,k2,q],rfl⟩)
  ·have q': ¬(2:Int)=(c.l.length:Int):=by omega
   simp(disch:=omega)only[go_sem,n1,n3,nm,h1,hm,h3,k2,Ol,q'];exact Wj.dropA r hr (Wj.refl ⟨by simp [Cs,k2,q],rfl⟩)
 by_cases k3:c.kind=3
 ·simp(disch:=omega)only[go_sem,n1,n3,nm,h1,hm,h3,k3,Ol];refine⟨_,rfl, ?_⟩;by_cases q:c.l.length=0
  ·have q':(c.l.length:Int)=0:=by omega
   simp(disch:=omega)only[go_sem,n1,n3,nm,h1,hm,h3,k3,Ol,q'];refine Wj.dropA r hr (Wj.refl ⟨?_,rfl⟩);have e:Cs l.length c=decide (l.length<=1):=by simp [Cs,k3,q]
   by_cases q2:l.length<=1
   ·rw[e,decide_eq_true q2,decide_eq_false (show¬(1:Int)<(l.length:Int) by omega)];rfl
   ·rw[e,decide_eq_false q2,decide_eq_true (show(1:Int)<(l.length:Int) by omega)];rfl
  ·have q': ¬(0:Int)=(c.l.length:Int):=by omega
   simp(disch:=omega)only[go_sem,n1,n3,nm,h1,hm,h3,k3,Ol,q'];exact Wj.dropA r hr (Wj.refl ⟨by simp [Cs,k3,q],rfl⟩)
 ·simp(disch:=omega)only[go_sem,n1,n3,nm,h1,hm,h3,k1,k2,k3,Ol];exact Wj.dropA r hr (Wj.refl ⟨by simp [Cs,k1,k2,k3],rfl⟩)
theorem Aa3 (G:Nat->DVal) (H:Ab) (l:List Ch) (hl:l.length<=1099511627776):Ae Tryz.prog G 95 [.vslice (l.flatMap dCh) l.length] H (Ba (.bool (Ct l)) H):=by
 refine Aa Tryz.func95 Tryz.call95 rfl (by kernel_rfl) ?_;simp(disch:=omega)only[go_sem,DVal.cells];intro r1 hr1;dsimp only at hr1;simp(disch:=omega)only[go_sem,DVal.cells];intro rm hrm;dsimp only at hrm;obtain⟨m1,m2,hrm'⟩:=Ex8.1 hrm;simp(disch:=omega)only[go_sem,DVal.cells,m1,m2];intro r3 hr3;dsimp only at hr3;obtain⟨p1,p2,hr3a⟩:=Ex8.1 hr3;obtain⟨p3,p4,hr3'⟩:=Ex8.1 hr3a;have hsub:Sub H (upd (upd (upd H r1 (some (.cells [.vslice (l.flatMap dCh) l.length] 41))) rm (some (.map Ol))) r3 (some (.cells [.omap rm] 252))):=((Sub.refl H).new hr1 _ |>.new hrm _).new hr3 _;by_cases h1:0<l.length
 ·have h1':(0:Int)<(l.length:Int):=by omega
  by_cases h2:l.length<=16
  ·have h2':(l.length:Int)<=16:=by omega
   simp(disch:=omega)only[go_sem,m1,m2,p1,p2,p3,p4,h1',h2'];refine(Az4 G _ (fun c=>!Cs l.length c) l 224 [] [.optr r3 0, .optr r1 0] hl fun x _=>Cf7 G _ l.length l x r1 rm r3 (by simp [upd,m1,m2,p1,p2,p3,p4]) (by simp [upd,m1,m2,p1,p2,p3,p4,Ol]) (by simp [upd])).mono ?_;rintro _ H1 ⟨rfl,rfl⟩;rw[Sm];simp(disch:=omega)only[go_sem,m1,m2,p1,p2,p3,p4];exact Wj.sub hsub (Wj.refl ⟨by rw[Ct,decide_eq_true h1,decide_eq_true h2,jS,jS,Bool.not_not],rfl⟩)
  ·have h2': ¬(l.length:Int)<=16:=by omega
   simp(disch:=omega)only[go_sem,m1,m2,p1,p2,p3,p4,h1',h2'];exact Wj.sub hsub (Wj.refl ⟨by rw[Ct,decide_eq_false h2,Bool.and_false,jT],rfl⟩)
 ·have h1': ¬(0:Int)<(l.length:Int):=by omega
  simp(disch:=omega)only[go_sem,m1,m2,p1,p2,p3,p4,h1'];exact Wj.sub hsub (Wj.refl ⟨by rw[Ct,decide_eq_false h1,jT,jT],rfl⟩)
end
end Go.Dl

-- Chapter 3: what is valid: associations.
namespace Go.Dl
open Go Go.Proofs
set_option maxRecDepth 100000
theorem Nn {l:List Ch} (h:0<l.length):Xc l=decide (l[0].kind=3):=by
 cases l with
 | nil=>simp at h
 | cons c l=>rfl
theorem Vg {l:List As} {k:Nat} (hk:k<l.length):Gd (l.drop k)=((l[k].c.isEmpty || Ct l[k].c&&(!Xc l[k].c || decide (k+1=l.length)))&&Gd (l.drop (k+1))):=by
 rw[List.drop_eq_getElem_cons hk,Gd,Ao (l.drop (k+1)),List.length_drop];have:(l.length-(k+1)=0)↔k+1=l.length:=by omega
 simp only[this]
theorem Ap3 {l:List As}:Au1 l=(decide (l.length=1)&&(l.getD 0 default).c.isEmpty):=
 match l with
 | []=>rfl
 | [a]=>by simp [Au1]
 | a::b::l=>by simp [Au1]
theorem as0 {l:List As} (h:0<l.length):(l.flatMap dAs)[0]? =some (.vslice (l[0].c.flatMap dCh) l[0].c.length):=by
 have h0:=Ck Cr l 0 h 0 (by decide);rw[Ap1] at h0;simpa using h0
section
variable {G:Nat->DVal} {H:Ab}
theorem Ae7 (G:Nat->DVal) (H:Ab) (l:List As) (hl:l.length<=1099511627776) (hb: ∀a∈l,a.c.length<=1099511627776):Ae Tryz.prog G 221 [.vslice (l.flatMap dAs) l.length] H (Ba (.bool (Gs l)) H):=by
 refine Aa Tryz.func221 Tryz.call221 rfl (by kernel_rfl) ?_;by_cases h1:l.length=0
 ·have h1':(l.length:Int)=0:=by omega
  simp(disch:=omega)only[go_sem,h1'];exact Wj.refl ⟨by rw[Gs,decide_eq_false (show¬0<l.length by omega),jT,jT,jT,jT],rfl⟩
 have h1': ¬(l.length:Int)=0:=by omega
 have hpos:0<l.length:=by omega
 by_cases h2:32<l.length
 ·have h2':(32:Int)<(l.length:Int):=by omega
  simp(disch:=omega)only[go_sem,h1',h2'];exact Wj.refl ⟨by rw[Gs,decide_eq_false (show¬l.length<=32 by omega),Bool.and_false,jT,jT,jT],rfl⟩
 have h2': ¬(32:Int)<(l.length:Int):=by omega
 simp(disch:=omega)only[go_sem,h1',h2'];refine(Ae6 G _ l hl).mono ?_;rintro _ H1 ⟨rfl,rfl⟩;have hd:Gs l=(Pf l&&(!(decide (l.length=1)&&(l.getD 0 default).c.isEmpty)&&Gd l)):=by
  rw[Gs,decide_eq_true hpos,decide_eq_true (show l.length<=32 by omega),jS,jS,Ap3,Bool.and_assoc]
 rw[hd];cases h3:Pf l with
 | false=>
  simp(disch:=omega)only[go_sem];exact Wj.refl ⟨rfl,rfl⟩
 | true=>
  have hg0:=as0 hpos;have hgd:l.getD 0 default=l[0]:=by rw[List.getD,List.getElem?_eq_getElem hpos];rfl
  have hfl:=Al Cr l;rw[hgd];by_cases h4:l.length=1/\l[0].c.length=0
  ·have h4a:(l.length:Int)=1:=by omega
   have h4b:(l[0].c.length:Int)=0:=by omega
   have e4:l[0].c.isEmpty=true:=by rw[Ao];exact decide_eq_true h4.2
   simp(disch:=omega)only[go_sem,h4a,h4b,hg0,hfl];exact Wj.refl ⟨by simp [e4],rfl⟩
  ·have e4:(decide (l.length=1)&&l[0].c.isEmpty)=false:=by
    rw[Ao,<-Bool.decide_and];exact decide_eq_false h4
   rw[e4];by_cases h5:l.length=1
   ·have h5':((l.length:Int)=1)=True:=eq_true (by omega);have h6': ¬(l[0].c.length:Int)=0:=by omega
    simp(disch:=omega)only[go_sem,h5',h6',hg0,hfl];obtain⟨I,hI⟩: ∃I:Nat->(Nat->DVal)->Ab->Prop,∀k env heap,I k env heap↔(env 0= .vslice (l.flatMap dAs) l.length/\env 31= .vslice (l.flatMap dAs) l.length/\env 32=dI l.length/\env 33=dI k/\k<=l.length/\Gd l=Gd (l.drop k)/\Sub H1 heap):=⟨_,fun _ _ _=>Iff.rfl⟩;refine Dt1.run I (fun k=>l.length-k) 0 ((hI _ _ _).2 ?_) ?_
    ·simp(disch:=omega)only[go_sem];(repeat' apply And.intro)<;>(try first | rfl | assumption | omega);exact Sub.refl _
    ·intro k env heap hi;obtain⟨e0,e31,e32,e33,hk,hall,hsub⟩:=(hI _ _ _).1 hi;by_cases hlt:k<l.length
     ·have hlt':(k:Int)<(l.length:Int):=by omega
      have Aw:=Bu Cr l k hlt;have hwd:IntKind.i64.wrap ((k:Int)+1)=((k+1:Nat):Int):=by rw[IntKind.wrap_i64];omega
      have hwl:IntKind.i64.wrap ((l.length:Int)-1)=(l.length:Int)-1:=by rw[IntKind.wrap_i64];omega
      have hba:=hb l[k] (List.getElem_mem hlt);rw[Vg hlt] at hall;simp(disch:=omega)only[go_sem,e0,e31,e32,e33,hlt',Aw,hfl,jD];intro r4 hr4;dsimp only at hr4;by_cases q1:0<l[k].c.length
      ·have q1':(0:Int)<(l[k].c.length:Int):=by omega
       have e1:l[k].c.isEmpty=false:=by rw[Ao];exact decide_eq_false (by omega)
       rw[e1,Bool.false_or] at hall;simp(disch:=omega)only[go_sem,e0,e31,e32,e33,q1'];refine(Aa3 G _ l[k].c hba).mono ?_;rintro _ H2 ⟨rfl,rfl⟩;cases q2:Ct l[k].c with
       | false=>
        rw[q2,jT,jT] at hall;simp(disch:=omega)only[go_sem,e0,e31,e32,e33];exact Wj.sub (hsub.new hr4 _) (Wj.refl ⟨by rw[hall],rfl⟩)
       | true=>
        obtain⟨g0,_⟩:=ch0 q1;have hfc:=Al Cu l[k].c;rw[q2,jS,Nn q1] at hall;by_cases q3:l[k].c[0].kind=3
        ·rw[decide_eq_true q3,Bool.not_true,Bool.false_or] at hall;by_cases q4:k+1=l.length
         ·have q4': ¬(k:Int)<(l.length:Int)-1:=by omega
          rw[decide_eq_true q4,jS] at hall;simp(disch:=omega)only[go_sem,e0,e31,e32,e33,g0,hfc,q3,q4',hwl];refine⟨k+1,_,Ws.refl _,(hI _ _ _).2 ?_,by omega⟩;simp(disch:=omega)only[go_sem,e0,e31,e32,e33,hwd];(repeat' apply And.intro)<;>(try first | rfl | assumption | omega);all_goals exact hsub.new hr4 _
         ·have q4':(k:Int)<(l.length:Int)-1:=by omega
          rw[decide_eq_false q4,jT] at hall;simp(disch:=omega)only[go_sem,e0,e31,e32,e33,g0,hfc,q3,q4',hwl];exact Wj.sub (hsub.new hr4 _) (Wj.refl ⟨by rw[hall],rfl⟩)
        ·rw[decide_eq_false q3,Bool.not_false,Bool.true_or,jS] at hall;simp(disch:=omega)only[go_sem,e0,e31,e32,e33,g0,hfc,q3];refine⟨k+1,_,Ws.refl _,(hI _ _ _).2 ?_,by omega⟩;simp(disch:=omega)only[go_sem,e0,e31,e32,e33,hwd];(repeat' apply And.intro)<;>(try first | rfl | assumption | omega);all_goals exact hsub.new hr4 _
      ·have q1': ¬(0:Int)<(l[k].c.length:Int):=by omega
       have e1:l[k].c.isEmpty=true:=by rw[Ao];exact decide_eq_true (by omega)
       rw[e1,Bool.true_or,jS] at hall;simp(disch:=omega)only[go_sem,e0,e31,e32,e33,q1'];refine⟨k+1,_,Ws.refl _,(hI _ _ _).2 ?_,by omega⟩;simp(disch:=omega)only[go_sem,e0,e31,e32,e33,hwd];(repeat' apply And.intro)<;>(try first | rfl | assumption | omega);all_goals exact hsub.new hr4 _
     ·have:k=l.length:=by omega
      subst this;rw[List.drop_length] at hall;simp(disch:=omega)only[go_sem,e0,e31,e32,e33];exact Wj.sub hsub (Wj.refl ⟨by rw[hall];rfl,rfl⟩)
   ·have h5': ¬(l.length:Int)=1:=by omega
    simp(disch:=omega)only[go_sem,h5'];obtain⟨I,hI⟩: ∃I:Nat->(Nat->DVal)->Ab->Prop,∀k env heap,I k env heap↔(env 0= .vslice (l.flatMap dAs) l.length/\env 31= .vslice (l.flatMap dAs) l.length/\env 32=dI l.length/\env 33=dI k/\k<=l.length/\Gd l=Gd (l.drop k)/\Sub H1 heap):=⟨_,fun _ _ _=>Iff.rfl⟩;refine Dt1.run I (fun k=>l.length-k) 0 ((hI _ _ _).2 ?_) ?_
    ·simp(disch:=omega)only[go_sem];(repeat' apply And.intro)<;>(try first | rfl | assumption | omega);exact Sub.refl _
    ·intro k env heap hi;obtain⟨e0,e31,e32,e33,hk,hall,hsub⟩:=(hI _ _ _).1 hi;by_cases hlt:k<l.length
     ·have hlt':(k:Int)<(l.length:Int):=by omega
      have Aw:=Bu Cr l k hlt;have hwd:IntKind.i64.wrap ((k:Int)+1)=((k+1:Nat):Int):=by rw[IntKind.wrap_i64];omega
      have hwl:IntKind.i64.wrap ((l.length:Int)-1)=(l.length:Int)-1:=by rw[IntKind.wrap_i64];omega
      have hba:=hb l[k] (List.getElem_mem hlt);rw[Vg hlt] at hall;simp(disch:=omega)only[go_sem,e0,e31,e32,e33,hlt',Aw,hfl,jD];intro r4 hr4;dsimp only at hr4;by_cases q1:0<l[k].c.length
      ·have q1':(0:Int)<(l[k].c.length:Int):=by omega
       have e1:l[k].c.isEmpty=false:=by rw[Ao];exact decide_eq_false (by omega)
       rw[e1,Bool.false_or] at hall;simp(disch:=omega)only[go_sem,e0,e31,e32,e33,q1'];refine(Aa3 G _ l[k].c hba).mono ?_;rintro _ H2 ⟨rfl,rfl⟩;cases q2:Ct l[k].c with
       | false=>
        rw[q2,jT,jT] at hall;simp(disch:=omega)only[go_sem,e0,e31,e32,e33];exact Wj.sub (hsub.new hr4 _) (Wj.refl ⟨by rw[hall],rfl⟩)
       | true=>
        obtain⟨g0,_⟩:=ch0 q1;have hfc:=Al Cu l[k].c;rw[q2,jS,Nn q1] at hall;by_cases q3:l[k].c[0].kind=3
        ·rw[decide_eq_true q3,Bool.not_true,Bool.false_or] at hall;by_cases q4:k+1=l.length
         ·have q4': ¬(k:Int)<(l.length:Int)-1:=by omega
          rw[decide_eq_true q4,jS] at hall;simp(disch:=omega)only[go_sem,e0,e31,e32,e33,g0,hfc,q3,q4',hwl];refine⟨k+1,_,Ws.refl _,(hI _ _ _).2 ?_,by omega⟩;simp(disch:=omega)only[go_sem,e0,e31,e32,e33,hwd];(repeat' apply And.intro)<;>(try first | rfl | assumption | omega);all_goals exact hsub.new hr4 _
         ·have q4':(k:Int)<(l.length:Int)-1:=by omega
          rw[decide_eq_false q4,jT] at hall;simp(disch:=omega)only[go_sem,e0,e31,e32,e33,g0,hfc,q3,q4',hwl];exact Wj.sub (hsub.new hr4 _) (Wj.refl ⟨by rw[hall],rfl⟩)
        ·rw[decide_eq_false q3,Bool.not_false,Bool.true_or,jS] at hall;simp(disch:=omega)only[go_sem,e0,e31,e32,e33,g0,hfc,q3];refine⟨k+1,_,Ws.refl _,(hI _ _ _).2 ?_,by omega⟩;simp(disch:=omega)only[go_sem,e0,e31,e32,e33,hwd];(repeat' apply And.intro)<;>(try first | rfl | assumption | omega);all_goals exact hsub.new hr4 _
      ·have q1': ¬(0:Int)<(l[k].c.length:Int):=by omega
       have e1:l[k].c.isEmpty=true:=by rw[Ao];exact decide_eq_true (by omega)
       rw[e1,Bool.true_or,jS] at hall;simp(disch:=omega)only[go_sem,e0,e31,e32,e33,q1'];refine⟨k+1,_,Ws.refl _,(hI _ _ _).2 ?_,by omega⟩;simp(disch:=omega)only[go_sem,e0,e31,e32,e33,hwd];(repeat' apply And.intro)<;>(try first | rfl | assumption | omega);all_goals exact hsub.new hr4 _
     ·have:k=l.length:=by omega
      subst this;rw[List.drop_length] at hall;simp(disch:=omega)only[go_sem,e0,e31,e32,e33];exact Wj.sub hsub (Wj.refl ⟨by rw[hall];rfl,rfl⟩)
end
end Go.Dl

-- Chapter 3: each.
namespace Go.Dl
open Go Go.Proofs
set_option maxRecDepth 100000
def Cs5 {σ:Type} (R:Ex->σ->Bool->σ->Prop):List Ex->σ->Bool->σ->Prop
 | [],s,b,s'=>b=true/\s'=s
 | x::l,s,b,s'=> ∃b1 s1,R x s b1 s1/\((b1=true/\Cs5 R l s1 b s')\/(b1=false/\b=false/\s'=s1))
def Ap4 {σ:Type} (R:Ex->σ->Bool->σ->Prop) (all:List Ex) (s0:σ) (rest:List Ex) (s:σ):Prop:= ∀b s',Cs5 R rest s b s'->Cs5 R all s0 b s'
section
variable {σ:Type} {R:Ex->σ->Bool->σ->Prop} {all rest:List Ex} {s0 s s1:σ} {x:Ex}
theorem Ap4.next (h:Ap4 R all s0 (x::rest) s) (k:R x s true s1):Ap4 R all s0 rest s1:=fun b s' hr=>h b s' ⟨true,s1,k, .inl ⟨rfl,hr⟩⟩
theorem Ap4.no (h:Ap4 R all s0 (x::rest) s) (k:R x s false s1):Cs5 R all s0 false s1:=h false s1 ⟨false,s1,k, .inr ⟨rfl,rfl,rfl⟩⟩
theorem Ap4.fin (h:Ap4 R all s0 [] s):Cs5 R all s0 true s:=h true s ⟨rfl,rfl⟩
end
def Wk (r:Nat) (H H':Ab):Prop:= ∀b o,b≠r->H b=some o->H' b=some o
theorem Wk.refl (r:Nat) (H:Ab):Wk r H H:=fun _ _ _ h=>h
theorem Wk.trans {r:Nat} {H H' H'':Ab} (h:Wk r H H') (k:Wk r H' H''):Wk r H H'':=fun b o hb hh=>k b o hb (h b o hb hh)
theorem Wk.new {r:Nat} {H H':Ab} (h:Wk r H H') {q:Nat} (hq:H' q=none) (x:Option DObj):Wk r H (upd H' q x):=fun b o hb hh=>by
 have:=h b o hb hh;have:b≠q:=fun e=>by rw[e,hq] at this;cases this
 simp only[upd,if_neg this];exact h b o hb hh
theorem Wk.set {r:Nat} {H H':Ab} (h:Wk r H H') (x:Option DObj):Wk r H (upd H' r x):=fun b o hb hh=>by
 simp only[upd,if_neg hb];exact h b o hb hh
theorem Wk.sub {r:Nat} {H H':Ab} (h:Wk r H H') {H0:Ab} (k:Sub H0 H) (hr:H0 r=none):Sub H0 H':=fun b o hb=>h b o (fun e=>by rw[e,hr] at hb;cases hb) (k b o hb)
def Tx (s:Int):DObj:= .cells [.int .i64 s] 3
section
variable {G:Nat->DVal}
def Fp1 (R:Ex->Int->Bool->Int->Prop) (all:List Ex) (s0:Int) (r:Nat) (H0:Ab) (e:DEnd) (H':Ab):Prop:=
 ∃b s',e= .ret (.bool b)/\Cs5 R all s0 b s'/\H' r=some (Tx s')/\Wk r H0 H'
def Ey1 (R:Ex->Int->Bool->Int->Prop) (x:Ex) (s:Int) (r:Nat) (H:Ab) (e:DEnd) (H':Ab):Prop:=
 ∃b s',e= .ret (.bool b)/\R x s b s'/\H' r=some (Tx s')/\Wk r H H'
set_option maxHeartbeats 4000000 in
theorem Dn4 (G:Nat->DVal) (H0:Ab) (e:Ex) (hb:Kj e<=1099511627776) (g:FuncId) (xs ys:List DVal) (R:Ex->Int->Bool->Int->Prop) (r:Nat) (s0:Int) (hr:H0 r=some (Tx s0))
  (hf: ∀x∈parts e,∀s H,H r=some (Tx s)->Wk r H0 H->Ae Tryz.prog G g (xs++ [.agg (dEx x)]++ys) H (Ey1 R x s r H)):
  Ae Tryz.prog G 92 [.agg (dEx e), .func (.func g) xs ys] H0 (Fp1 R (parts e) s0 r H0):=by
 have hal:= @Db3 e;have hll:= @Db2 e;have hfl:=Al Ad e.l;have hfa:=Al Cr e.a;refine Aa Tryz.func92 Tryz.call92 rfl (by kernel_rfl) ?_;simp(disch:=omega)only[go_sem,DVal.cells];intro r2 hr2;dsimp only at hr2;have n2:r≠r2:=Am hr2 hr;have n2':r2≠r:=n2.symm;simp(disch:=omega)only[go_sem];obtain⟨I,hI⟩: ∃I:Nat×Int->(Nat->DVal)->Ab->Prop,∀k env heap,I k env heap↔(env 1= .func (.func g) xs ys/\env 2= .optr r2 0/\env 14= .vslice (e.l.flatMap dEx) e.l.length/\env 15=dI e.l.length/\env 16=dI k.1/\k.1<=e.l.length/\heap r=some (Tx k.2)/\heap r2=some (.cells (dEx e) 27)/\Wk r H0 heap/\Ap4 R (parts e) s0 (e.l.drop k.1++e.a.flatMap Dj) k.2):=⟨_,fun _ _ _=>Iff.rfl⟩;refine Dt1.run I (fun k=>e.l.length-k.1) (0,s0) ((hI _ _ _).2 ?_) ?_
 ·simp(disch:=omega)only[go_sem,n2,n2'];(repeat' apply And.intro)<;>(try first | rfl | assumption | omega)
  ·exact(Wk.refl r H0).new hr2 _
  ·exact fun b s' h=>h
 ·rintro⟨k,s⟩ env heap hi;obtain⟨e1,e2,e14,e15,e16,hk,hh,hh2,ht,hc⟩:=(hI _ _ _).1 hi;dsimp only at e16 hk hh hc;by_cases hlt:k<e.l.length
  ·have hlt':(k:Int)<(e.l.length:Int):=by omega
   have Aw:=Bu Ad e.l k hlt;have hwd:IntKind.i64.wrap ((k:Int)+1)=((k+1:Nat):Int):=by rw[IntKind.wrap_i64];omega
   rw[List.drop_eq_getElem_cons hlt,jI] at hc;simp(disch:=omega)only[go_sem,e1,e2,e14,e15,e16,hlt',Aw,hfl,jD];intro r6 hr6;dsimp only at hr6;have n6:r≠r6:=Am hr6 hh;have n62:r2≠r6:=Am hr6 hh2;have ht6:=ht.new hr6 (some (.cells (dEx e.l[k]) 27));simp(disch:=omega)only[go_sem,e1,e2,e14,e15,e16];refine(hf e.l[k] (Bd (List.getElem_mem hlt)) s _ (by simp only[upd,if_neg n6];exact hh) ht6).mono ?_;rintro _ H2 ⟨b,s1,rfl,hR,hh',ht'⟩;have hh2':H2 r2=some (.cells (dEx e) 27):=ht' r2 _ n2' (by simp only[upd,if_neg n62];exact hh2);cases b with
   | false=>
    simp(disch:=omega)only[go_sem,e1,e2,e14,e15,e16];exact Wj.refl ⟨false,s1,rfl,hc.no hR,hh',ht6.trans ht'⟩
   | true=>
    simp(disch:=omega)only[go_sem,e1,e2,e14,e15,e16];refine⟨(k+1,s1),_,Ws.refl _,(hI _ _ _).2 ?_,by dsimp only;omega⟩;simp(disch:=omega)only[go_sem,e1,e2,e14,e15,e16,hwd];(repeat' apply And.intro)<;>(try first | rfl | assumption | omega)
    ·exact ht6.trans ht'
    ·exact hc.next hR
  ·have:k=e.l.length:=by omega
   subst this;rw[List.drop_length,jG] at hc;simp(disch:=omega)only[go_sem,e1,e2,e14,e15,e16,hh2];obtain⟨J,hJ⟩: ∃J:Nat×Int->(Nat->DVal)->Ab->Prop,∀k env heap,J k env heap↔(env 1= .func (.func g) xs ys/\env 26= .vslice (e.a.flatMap dAs) e.a.length/\env 27=dI e.a.length/\env 28=dI k.1/\k.1<=e.a.length/\heap r=some (Tx k.2)/\Wk r H0 heap/\Ap4 R (parts e) s0 ((e.a.drop k.1).flatMap Dj) k.2):=⟨_,fun _ _ _=>Iff.rfl⟩;refine Dt1.run J (fun k=>e.a.length-k.1) (0,s) ((hJ _ _ _).2 ?_) ?_
   ·simp(disch:=omega)only[go_sem,e1,e2,hh2];(repeat' apply And.intro)<;>(try first | rfl | assumption | omega)
   ·rintro⟨j,s⟩ env heap hi;obtain⟨e1,e26,e27,e28,hj,hh,ht,hc⟩:=(hJ _ _ _).1 hi;dsimp only at e28 hj hh hc;by_cases hjl:j<e.a.length
    ·have hjl':(j:Int)<(e.a.length:Int):=by omega
     have Aw:=Bu Cr e.a j hjl;have hwj:IntKind.i64.wrap ((j:Int)+1)=((j+1:Nat):Int):=by rw[IntKind.wrap_i64];omega
     have hma:=List.getElem_mem hjl;have hba:=Az3 hma;obtain⟨a,ha⟩: ∃a,a=e.a[j]:=⟨_,rfl⟩;rw[List.drop_eq_getElem_cons hjl,List.flatMap_cons,Dj,jO,<-ha] at hc;rw[<-ha] at Aw hma hba;have hbc:=La a.c;have hfc:=Al Cu a.c;rw[Sk] at hba;simp(disch:=omega)only[go_sem,e1,e26,e27,e28,hjl',Aw,hfa,jD];intro r8 hr8;dsimp only at hr8;have n8:r≠r8:=Am hr8 hh;have ht8:=ht.new hr8 (some (.cells (dAs a) 44));simp(disch:=omega)only[go_sem,e1,e26,e27,e28];obtain⟨K,hK⟩: ∃K:Nat×Int->(Nat->DVal)->Ab->Prop,∀k env heap,K k env heap↔(env 1= .func (.func g) xs ys/\env 8= .optr r8 0/\env 26= .vslice (e.a.flatMap dAs) e.a.length/\env 27=dI e.a.length/\env 28=dI j/\env 33= .vslice (a.c.flatMap dCh) a.c.length/\env 34=dI a.c.length/\env 35=dI k.1/\k.1<=a.c.length/\heap r=some (Tx k.2)/\heap r8=some (.cells (dAs a) 44)/\Wk r H0 heap/\Ap4 R (parts e) s0 ((a.c.drop k.1).flatMap Ch.l++([a.e]++(e.a.drop (j+1)).flatMap Dj)) k.2):=⟨_,fun _ _ _=>Iff.rfl⟩;refine Dt1.run K (fun k=>a.c.length-k.1) (0,s) ((hK _ _ _).2 ?_) ?_
     ·simp(disch:=omega)only[go_sem,e1,e26,e27,e28,n8];(repeat' apply And.intro)<;>(try first | rfl | assumption | omega)
     ·rintro⟨m,s⟩ env heap hi;obtain⟨e1,e8,e26,e27,e28,e33,e34,e35,hm,hh,hh8,ht,hc⟩:=(hK _ _ _).1 hi;dsimp only at e35 hm hh hc;by_cases hml:m<a.c.length
      ·have hml':(m:Int)<(a.c.length:Int):=by omega
       have Aw:=Bu Cu a.c m hml;have hwm:IntKind.i64.wrap ((m:Int)+1)=((m+1:Nat):Int):=by rw[IntKind.wrap_i64];omega
       have hmc:=List.getElem_mem hml;have hbm:=Mq hmc;obtain⟨c,hcc⟩: ∃c,c=a.c[m]:=⟨_,rfl⟩;rw[List.drop_eq_getElem_cons hml,List.flatMap_cons,jO,<-hcc] at hc;rw[<-hcc] at Aw hmc hbm;have hbl:=Kk c.l;have hfx:=Al Ad c.l;rw[Sl] at hbm;simp(disch:=omega)only[go_sem,e1,e8,e26,e27,e28,e33,e34,e35,hml',Aw,hfc,jD];intro r10 hr10;dsimp only at hr10;have n10:r≠r10:=Am hr10 hh;have n108:r8≠r10:=Am hr10 hh8;have ht10:=ht.new hr10 (some (.cells (dCh c) 47));simp(disch:=omega)only[go_sem,e1,e8,e26,e27,e28,e33,e34,e35];obtain⟨M,hM⟩: ∃M:Nat×Int->(Nat->DVal)->Ab->Prop,∀k env heap,M k env heap↔(env 1= .func (.func g) xs ys/\env 8= .optr r8 0/\env 26= .vslice (e.a.flatMap dAs) e.a.length/\env 27=dI e.a.length/\env 28=dI j/\env 33= .vslice (a.c.flatMap dCh) a.c.length/\env 34=dI a.c.length/\env 35=dI m/\env 40= .vslice (c.l.flatMap dEx) c.l.length/\env 41=dI c.l.length/\env 42=dI k.1/\k.1<=c.l.length/\heap r=some (Tx k.2)/\heap r8=some (.cells (dAs a) 44)/\Wk r H0 heap/\Ap4 R (parts e) s0 (c.l.drop k.1++((a.c.drop (m+1)).flatMap Ch.l++([a.e]++(e.a.drop (j+1)).flatMap Dj))) k.2):=⟨_,fun _ _ _=>Iff.rfl⟩;refine Dt1.run M (fun k=>c.l.length-k.1) (0,s) ((hM _ _ _).2 ?_) ?_
       ·simp(disch:=omega)only[go_sem,e1,e8,e26,e27,e28,e33,e34,e35,n10,n108];(repeat' apply And.intro)<;>(try first | rfl | assumption | omega)
       ·rintro⟨q,s⟩ env heap hi;obtain⟨e1,e8,e26,e27,e28,e33,e34,e35,e40,e41,e42,hq,hh,hh8,ht,hc⟩:=(hM _ _ _).1 hi;dsimp only at e42 hq hh hc;by_cases hql:q<c.l.length
        ·have hql':(q:Int)<(c.l.length:Int):=by omega
         have Aw:=Bu Ad c.l q hql;have hwq:IntKind.i64.wrap ((q:Int)+1)=((q+1:Nat):Int):=by rw[IntKind.wrap_i64];omega
         rw[List.drop_eq_getElem_cons hql,jI] at hc;simp(disch:=omega)only[go_sem,e1,e8,e26,e27,e28,e33,e34,e35,e40,e41,e42,hql',Aw,hfx,jD];intro r12 hr12;dsimp only at hr12;have n12:r≠r12:=Am hr12 hh;have n128:r8≠r12:=Am hr12 hh8;have ht12:=ht.new hr12 (some (.cells (dEx c.l[q]) 27));simp(disch:=omega)only[go_sem,e1,e8,e26,e27,e28,e33,e34,e35,e40,e41,e42];refine(hf c.l[q] (Jg hma (Qe hmc (List.getElem_mem hql))) s _ (by simp only[upd,if_neg n12];exact hh) ht12).mono ?_;rintro _ H2 ⟨b,s1,rfl,hR,hh',ht'⟩;have hh8':H2 r8=some (.cells (dAs a) 44):=ht' r8 _ n8.symm (by simp only[upd,if_neg n128];exact hh8);cases b with
         | false=>
          simp(disch:=omega)only[go_sem,e1,e8,e26,e27,e28,e33,e34,e35,e40,e41,e42];exact Wj.refl ⟨false,s1,rfl,hc.no hR,hh',ht12.trans ht'⟩
         | true=>
          simp(disch:=omega)only[go_sem,e1,e8,e26,e27,e28,e33,e34,e35,e40,e41,e42];refine⟨(q+1,s1),_,Ws.refl _,(hM _ _ _).2 ?_,by dsimp only;omega⟩;simp(disch:=omega)only[go_sem,e1,e8,e26,e27,e28,e33,e34,e35,e40,e41,e42,hwq];(repeat' apply And.intro)<;>(try first | rfl | assumption | omega)
          ·exact ht12.trans ht'
          ·exact hc.next hR
        ·have:q=c.l.length:=by omega
         subst this;rw[List.drop_length,jG] at hc;simp(disch:=omega)only[go_sem,e1,e8,e26,e27,e28,e33,e34,e35,e40,e41,e42];refine⟨(m+1,s),_,Ws.refl _,(hK _ _ _).2 ?_,by dsimp only;omega⟩;simp(disch:=omega)only[go_sem,e1,e8,e26,e27,e28,e33,e34,e35,hwm];(repeat' apply And.intro)<;>(try first | rfl | assumption | omega)
      ·have:m=a.c.length:=by omega
       subst this;rw[List.drop_length,List.flatMap_nil,jG,jI,jG] at hc;have hda:=Az2 a;simp(disch:=omega)only[go_sem,e1,e8,e26,e27,e28,e33,e34,e35,hh8,hda];refine(hf a.e (Jg hma (Ky a)) s _ hh ht).mono ?_;rintro _ H2 ⟨b,s1,rfl,hR,hh',ht'⟩;cases b with
       | false=>
        simp(disch:=omega)only[go_sem,e1,e8,e26,e27,e28,e33,e34,e35];exact Wj.refl ⟨false,s1,rfl,hc.no hR,hh',ht.trans ht'⟩
       | true=>
        simp(disch:=omega)only[go_sem,e1,e8,e26,e27,e28,e33,e34,e35];refine⟨(j+1,s1),_,Ws.refl _,(hJ _ _ _).2 ?_,by dsimp only;omega⟩;simp(disch:=omega)only[go_sem,e1,e8,e26,e27,e28,e33,e34,e35,hwj];(repeat' apply And.intro)<;>(try first | rfl | assumption | omega)
        ·exact ht.trans ht'
        ·exact hc.next hR
    ·have:j=e.a.length:=by omega
     subst this;rw[List.drop_length,List.flatMap_nil] at hc;simp(disch:=omega)only[go_sem,e1,e26,e27,e28];exact Wj.refl ⟨true,s,rfl,hc.fin,hh,ht⟩
end
end Go.Dl

-- Chapter 3: what is valid: the fields of an expression (printed by gen_u6.py).
namespace Go.Dl
open Go Go.Proofs
set_option maxRecDepth 100000
theorem Es7 (n:Nat):((n:Int)=0)=(n=0):=by rw[eq_iff_iff];omega
theorem Fp2 (n:Nat):((n:Int)=1)=(n=1):=by rw[eq_iff_iff];omega
theorem Fp3 (n:Nat):((n:Int)=2)=(n=2):=by rw[eq_iff_iff];omega
theorem Fp4 (n:Nat):((n:Int)=3)=(n=3):=by rw[eq_iff_iff];omega
section
variable {G:Nat->DVal} {H:Ab}
set_option maxHeartbeats 4000000 in
theorem Cf8 (hG:GX G) (H:Ab) (e:Ex) (hb:Kj e<=1099511627776) (hs:e.s.length<=9223372036854775807):Ae Tryz.prog G 91 [.agg (dEx e)] H (Ba (.bool (Ca e)) H):=by
 have hal:= @Db3 e;have hll:= @Db2 e;have hfl:=Al Ad e.l;have hac: ∀a∈e.a,a.c.length<=1099511627776:=fun a ha=>by
  have h1:=Az3 ha;have h2:=La a.c;rw[Sk] at h1;omega
 have s1:splice (dEx e) 0 [DVal.int .u8 0]= [DVal.int .u8 0,DVal.int .u8 e.oper,DVal.int .i64 e.n,DVal.str e.s,DVal.vslice (e.l.flatMap dEx) e.l.length,DVal.vslice (e.a.flatMap dAs) e.a.length,DVal.int .i64 e.line,DVal.int .i64 e.ent,DVal.int .i64 e.t]:=by rw[Ki];rfl
 have s2:splice [DVal.int .u8 0,DVal.int .u8 e.oper,DVal.int .i64 e.n,DVal.str e.s,DVal.vslice (e.l.flatMap dEx) e.l.length,DVal.vslice (e.a.flatMap dAs) e.a.length,DVal.int .i64 e.line,DVal.int .i64 e.ent,DVal.int .i64 e.t] 6 [DVal.int .i64 0]= [DVal.int .u8 0,DVal.int .u8 e.oper,DVal.int .i64 e.n,DVal.str e.s,DVal.vslice (e.l.flatMap dEx) e.l.length,DVal.vslice (e.a.flatMap dAs) e.a.length,DVal.int .i64 0,DVal.int .i64 e.ent,DVal.int .i64 e.t]:=rfl;have s3:splice [DVal.int .u8 0,DVal.int .u8 e.oper,DVal.int .i64 e.n,DVal.str e.s,DVal.vslice (e.l.flatMap dEx) e.l.length,DVal.vslice (e.a.flatMap dAs) e.a.length,DVal.int .i64 0,DVal.int .i64 e.ent,DVal.int .i64 e.t] 7 [DVal.int .i64 0]= [DVal.int .u8 0,DVal.int .u8 e.oper,DVal.int .i64 e.n,DVal.str e.s,DVal.vslice (e.l.flatMap dEx) e.l.length,DVal.vslice (e.a.flatMap dAs) e.a.length,DVal.int .i64 0,DVal.int .i64 0,DVal.int .i64 e.t]:=rfl;have s4:splice [DVal.int .u8 0,DVal.int .u8 e.oper,DVal.int .i64 e.n,DVal.str e.s,DVal.vslice (e.l.flatMap dEx) e.l.length,DVal.vslice (e.a.flatMap dAs) e.a.length,DVal.int .i64 0,DVal.int .i64 0,DVal.int .i64 e.t] 8 [DVal.int .i64 0]= [DVal.int .u8 0,DVal.int .u8 e.oper,DVal.int .i64 e.n,DVal.str e.s,DVal.vslice (e.l.flatMap dEx) e.l.length,DVal.vslice (e.a.flatMap dAs) e.a.length,DVal.int .i64 0,DVal.int .i64 0,DVal.int .i64 0]:=rfl;have s5:splice [DVal.int .u8 0,DVal.int .u8 e.oper,DVal.int .i64 e.n,DVal.str e.s,DVal.vslice (e.l.flatMap dEx) e.l.length,DVal.vslice (e.a.flatMap dAs) e.a.length,DVal.int .i64 0,DVal.int .i64 0,DVal.int .i64 0] 4 [DVal.nilSlice]= [DVal.int .u8 0,DVal.int .u8 e.oper,DVal.int .i64 e.n,DVal.str e.s,DVal.nilSlice,DVal.vslice (e.a.flatMap dAs) e.a.length,DVal.int .i64 0,DVal.int .i64 0,DVal.int .i64 0]:=rfl;have sO:splice [DVal.int .u8 0,DVal.int .u8 e.oper,DVal.int .i64 e.n,DVal.str e.s,DVal.nilSlice,DVal.vslice (e.a.flatMap dAs) e.a.length,DVal.int .i64 0,DVal.int .i64 0,DVal.int .i64 0] 1 [DVal.int .u8 0]= [DVal.int .u8 0,DVal.int .u8 0,DVal.int .i64 e.n,DVal.str e.s,DVal.nilSlice,DVal.vslice (e.a.flatMap dAs) e.a.length,DVal.int .i64 0,DVal.int .i64 0,DVal.int .i64 0]:=rfl;have sN:splice [DVal.int .u8 0,DVal.int .u8 e.oper,DVal.int .i64 e.n,DVal.str e.s,DVal.nilSlice,DVal.vslice (e.a.flatMap dAs) e.a.length,DVal.int .i64 0,DVal.int .i64 0,DVal.int .i64 0] 2 [DVal.int .i64 0]= [DVal.int .u8 0,DVal.int .u8 e.oper,DVal.int .i64 0,DVal.str e.s,DVal.nilSlice,DVal.vslice (e.a.flatMap dAs) e.a.length,DVal.int .i64 0,DVal.int .i64 0,DVal.int .i64 0]:=rfl;have sS:splice [DVal.int .u8 0,DVal.int .u8 e.oper,DVal.int .i64 e.n,DVal.str e.s,DVal.nilSlice,DVal.vslice (e.a.flatMap dAs) e.a.length,DVal.int .i64 0,DVal.int .i64 0,DVal.int .i64 0] 3 [DVal.str []]= [DVal.int .u8 0,DVal.int .u8 e.oper,DVal.int .i64 e.n,DVal.str [],DVal.nilSlice,DVal.vslice (e.a.flatMap dAs) e.a.length,DVal.int .i64 0,DVal.int .i64 0,DVal.int .i64 0]:=rfl;have sA:splice [DVal.int .u8 0,DVal.int .u8 e.oper,DVal.int .i64 e.n,DVal.str e.s,DVal.nilSlice,DVal.vslice (e.a.flatMap dAs) e.a.length,DVal.int .i64 0,DVal.int .i64 0,DVal.int .i64 0] 5 [DVal.nilSlice]= [DVal.int .u8 0,DVal.int .u8 e.oper,DVal.int .i64 e.n,DVal.str e.s,DVal.nilSlice,DVal.nilSlice,DVal.int .i64 0,DVal.int .i64 0,DVal.int .i64 0]:=rfl;refine Aa Tryz.func91 Tryz.call91 rfl (by kernel_rfl) ?_;simp(disch:=omega)only[go_sem,DVal.cells];intro r1 hr1;dsimp only at hr1;simp(disch:=omega)only[go_sem,DVal.cells];intro r3 hr3;dsimp only at hr3;obtain⟨m1,m2,hr3'⟩:=Ex8.1 hr3;obtain⟨x,hgd,hg⟩: ∃x,e.l.getD 1 ex0=x/\(1<e.l.length->((e.l.flatMap dEx).drop 9).take 9=dEx x):=⟨_,rfl,fun h=>by rw[List.getD,List.getElem?_eq_getElem h];exact Bu Ad e.l 1 h⟩
 repeat' first
  | (with_reducible refine(Vd hG _ e.s hs).mono ?_;rintro _ H1 ⟨rfl,rfl⟩)
  | (with_reducible refine(Az6 G _ e.a (by omega)).mono ?_;rintro _ H1 ⟨rfl,rfl⟩)
  | (with_reducible refine(Ae7 G _ e.a (by omega) hac).mono ?_;rintro _ H1 ⟨rfl,rfl⟩)
  | (with_reducible refine(Xe G _ x).mono ?_;rintro _ H1 ⟨rfl,rfl⟩)
  | simp(disch:=omega)only[go_sem,s1,s2,s3,s4,s5,sO,sN,sS,sA,jA,jB,hfl, *]
  | (with_reducible refine Qd ?_ ?_<;>intro hc<;>try simp only[decide_eq_true_eq,decide_eq_false_iff_not] at hc)
  | (with_reducible refine Sb ?_ ?_<;>intro hc<;>try simp only[decide_eq_true_eq,decide_eq_false_iff_not] at hc)
  | (refine(Az5 G _ e 1 (by decide)).mono ?_;rintro _ H1 ⟨rfl,rfl⟩)
  | (refine(Az5 G _ e 2 (by decide)).mono ?_;rintro _ H1 ⟨rfl,rfl⟩)
  | (refine Wj.sub (show Sub H _ from(by repeat (first | exact Sub.refl _ | assumption | refine Sub.up ?_ (by assumption) _))) (Wj.refl ⟨?_,rfl⟩);clear hal hll hfl hac hb hs s1 s2 s3 s4 s5 sO sN sS sA hg hr1 hr3 m1 m2 hr3';(try simp only[Es7,Fp2,Fp3,Fp4] at*);simp only[Ca,hgd];simp [zO,zN,zS,zA,Ao, *];done)
end
end Go.Dl

-- Chapter 3: May, MayArgs, MayChoices, Size.
namespace Go.Dl
open Go Go.Proofs
set_option maxRecDepth 100000
mutual
def okE:Ex->Prop
 | .mk _ _ _ s l a _ _ _=>s.length<=9223372036854775807/\okL l/\Cf9 a
def okL:List Ex->Prop
 | []=>True
 | x::l=>okE x/\okL l
def okA:As->Prop
 | .mk c e=>Az7 c/\okE e
def Cf9:List As->Prop
 | []=>True
 | x::l=>okA x/\Cf9 l
def okC:Ch->Prop
 | .mk _ l=>okL l
def Az7:List Ch->Prop
 | []=>True
 | x::l=>okC x/\Az7 l
end
theorem Au4: ∀ {l:List Ex},okL l-> ∀x∈l,okE x
 | y::l,h,x,hx=>by
  rw[okL] at h;rcases List.mem_cons.1 hx with rfl | hx
  ·exact h.1
  ·exact Au4 h.2 x hx
theorem Cg0: ∀ {l:List As},Cf9 l-> ∀x∈l,okA x
 | y::l,h,x,hx=>by
  rw[Cf9] at h;rcases List.mem_cons.1 hx with rfl | hx
  ·exact h.1
  ·exact Cg0 h.2 x hx
theorem Az8: ∀ {l:List Ch},Az7 l-> ∀x∈l,okC x
 | y::l,h,x,hx=>by
  rw[Az7] at h;rcases List.mem_cons.1 hx with rfl | hx
  ·exact h.1
  ·exact Az8 h.2 x hx
theorem Fg6 {e:Ex}:okE e↔e.s.length<=9223372036854775807/\okL e.l/\Cf9 e.a:=by cases e;rw[okE];rfl
theorem Fg7 {e:As}:okA e↔Az7 e.c/\okE e.e:=by cases e;rw[okA];rfl
theorem Fw5 {e:Ch}:okC e↔okL e.l:=by cases e;rw[okC];rfl
theorem Dn5 {a:As} (h:okA a): ∀x∈Dj a,okE x:=fun x hx=>by
 rw[Fg7] at h;rcases List.mem_append.1 hx with hx | hx
 ·obtain⟨c,hc,hx⟩:=List.mem_flatMap.1 hx;exact Au4 (Fw5.1 (Az8 h.1 c hc)) x hx
 ·rw[List.mem_singleton] at hx;subst hx;exact h.2
theorem Dn6 {e:Ex} (h:okE e): ∀x∈parts e,okE x:=fun x hx=>by
 rw[Fg6] at h;rcases List.mem_append.1 hx with hx | hx
 ·exact Au4 h.2.1 x hx
 ·obtain⟨a,ha,hx⟩:=List.mem_flatMap.1 hx;exact Dn5 (Cg0 h.2.2 a ha) x hx
theorem Cs6 {a:As}: ∀x∈Dj a,Kj x<=Ae5 a:=fun x hx=>by
 rw[Sk];rcases List.mem_append.1 hx with hx | hx
 ·obtain⟨c,hc,hx⟩:=List.mem_flatMap.1 hx;have h1:=Mq hc;have h2:=Xf hx;rw[Sl] at h1;omega
 ·rw[List.mem_singleton] at hx;subst hx;omega
theorem Vh {e x:Ex} (hx:x∈parts e):Kj x<Kj e:=by
 rcases List.mem_append.1 hx with hx | hx
 ·exact Fg5 hx
 ·obtain⟨a,ha,hx⟩:=List.mem_flatMap.1 hx;have h1:=Az3 ha;have h2:=Cs6 x hx;omega
structure Fit (e:Ex):Prop where
 big:Kj e<=1099511627776
 ok:okE e
theorem Fit.parts {e x:Ex} (h:Fit e) (hx:x∈Dl.parts e):Fit x:=⟨by have:=Vh hx;have:=h.big;omega,Dn6 h.ok x hx⟩
theorem Fit.s {e:Ex} (h:Fit e):e.s.length<=9223372036854775807:=(Fg6.1 h.ok).1
mutual
theorem Bk7: ∀e:Ex,Ez e<=Kj e
 | .mk _ _ _ _ l a _ _ _=>by rw[Ez,Kj];have:=Al2 l;have:=Az9 a;omega
theorem Al2: ∀l:List Ex,Ay8 l<=Nx l
 | []=>Nat.le_refl _
 | x::l=>by rw[Ay8,Nx];have:=Bk7 x;have:=Al2 l;omega
theorem Dn7: ∀a:As,Cf0 a<=Ae5 a
 | .mk c e=>by rw[Cf0,Ae5];have:=Ba0 c;have:=Bk7 e;omega
theorem Az9: ∀l:List As,Ak6 l<=Pg l
 | []=>Nat.le_refl _
 | x::l=>by rw[Ak6,Pg];have:=Dn7 x;have:=Az9 l;omega
theorem Dn8: ∀c:Ch,Db0 c<=Bg8 c
 | .mk _ l=>by rw[Db0,Bg8];have:=Al2 l;omega
theorem Ba0: ∀l:List Ch,Ak7 l<=Lg l
 | []=>Nat.le_refl _
 | x::l=>by rw[Ak7,Lg];have:=Dn8 x;have:=Ba0 l;omega
end
mutual
theorem Bs9 (r:Nat) (cs:List DVal): ∀e:Ex,fzs r cs (dEx e)=dEx e
 | .mk _ _ _ _ l a _ _ _=>by simp only[dEx,fzs,fz,Bt0 r cs l,Db4 r cs a]
theorem Bt0 (r:Nat) (cs:List DVal): ∀l:List Ex,fzs r cs (Bs7 l)=Bs7 l
 | []=>by simp only[Bs7,fzs]
 | x::l=>by rw[Bs7,Zz,Bs9 r cs x,Bt0 r cs l]
theorem Fg8 (r:Nat) (cs:List DVal): ∀a:As,fzs r cs (dAs a)=dAs a
 | .mk c e=>by simp only[dAs,fzs,fz,Db5 r cs c,Bs9 r cs e]
theorem Db4 (r:Nat) (cs:List DVal): ∀l:List As,fzs r cs (Cf3 l)=Cf3 l
 | []=>by simp only[Cf3,fzs]
 | x::l=>by rw[Cf3,Zz,Fg8 r cs x,Db4 r cs l]
theorem Fg9 (r:Nat) (cs:List DVal): ∀c:Ch,fzs r cs (dCh c)=dCh c
 | .mk _ l=>by simp only[dCh,fzs,fz,Bt0 r cs l]
theorem Db5 (r:Nat) (cs:List DVal): ∀l:List Ch,fzs r cs (Cf4 l)=Cf4 l
 | []=>by simp only[Cf4,fzs]
 | x::l=>by rw[Cf4,Zz,Fg9 r cs x,Db5 r cs l]
end
def Fh0 (d:Nat) (x:Ex) (s:Int) (b:Bool) (s':Int):Prop:=0<=s->s<=256->b=(En d x&&decide ((Ez x:Int)<=s))/\(b=true->s'=s-Ez x)
theorem Db6 (d:Nat): ∀(l:List Ex) (s:Int) (b:Bool) (s':Int),Cs5 (Fh0 d) l s b s'->0<=s->s<=256->b=(l.all (En d)&&decide ((Kx l:Int)<=s))/\(b=true->s'=s-Kx l)
 | [],s,b,s',h,h0,_=>by
  obtain⟨rfl,rfl⟩:=h;exact⟨by simp [Kx,h0],fun _=>by simp [Kx]⟩
 | x::l,s,b,s',h,h0,h1=>by
  obtain⟨b1,s1,hx,h⟩:=h;obtain⟨hb,hs⟩:=hx h0 h1;have hsum:Kx (x::l)=Ez x+Kx l:=by simp [Kx]
  rcases h with⟨rfl,h⟩ | ⟨rfl,rfl,rfl⟩
  ·have e1:=hs rfl;have hb':=hb.symm;rw[jF,decide_eq_true_eq] at hb';obtain⟨k1,k2⟩:=Db6 d l s1 b s' h (by omega) (by omega);refine⟨?_,fun hb=> ?_⟩
   ·rw[k1,List.all_cons,hb'.1,jS,hsum];congr 1;exact decide_eq_decide.2 ⟨fun h=>by omega,fun h=>by omega⟩
   ·rw[k2 hb,hsum];omega
  ·refine⟨?_,fun h=>(by cases h)⟩;rw[List.all_cons,hsum];cases hv:En d x with
   | false=>rfl
   | true=>
    rw[hv,jS] at hb;have:=of_decide_eq_false hb.symm;rw[decide_eq_false (by omega),Bool.and_false]
section
variable {G:Nat->DVal} {H:Ab}
theorem Ba1 (G:Nat->DVal) (H:Ab) (d:Int) (rl ra:Nat):Ae Tryz.prog G 89 ([]++ [.int .i64 d]++ [.optr rl 0, .optr ra 0]) H
  (fun e H'=> ∃rd,H rd=none/\e= .ret (.func (.func 90) [] [.optr rl 0, .optr rd 0, .optr ra 0])/\H'=upd H rd (some (Tx d))):=by
 refine Aa Tryz.func89 Tryz.call89 rfl (by kernel_rfl) ?_;simp(disch:=omega)only[go_sem,DVal.cells,jG,jI];intro rd hrd;dsimp only at hrd;simp(disch:=omega)only[go_sem];exact Wj.refl ⟨rd,hrd,rfl,rfl⟩
theorem Dn9 (hG:GX G) (rl ra:Nat) (hla:rl≠ra): ∀(x:Ex) (H:Ab) (d:Nat) (s:Int) (rd:Nat),Fit x->d<=1000000->H rl=some (Tx s)->H rd=some (Tx d)->rl≠rd->H ra=some (.cells [.func (.func 89) [] [.optr rl 0, .optr ra 0]] 127)->
  Ae Tryz.prog G 90 ([]++ [.agg (dEx x)]++ [.optr rl 0, .optr rd 0, .optr ra 0]) H (Ey1 (Fh0 d) x s rl H):=by
 intro x
 induction x using Ex.ind with
 | h x ih=>
  intro H d s rd hx hd hl hdd hld ha;refine Aa Tryz.func90 Tryz.call90 rfl (by kernel_rfl) ?_;simp(disch:=omega)only[go_sem,DVal.cells,jG,jI];intro r4 hr4;dsimp only at hr4;have n1:rl≠r4:=Am hr4 hl;have n2:rd≠r4:=Am hr4 hdd;have n3:ra≠r4:=Am hr4 ha;unfold Tx at hl hdd;obtain⟨s1,hs1⟩: ∃s1,s1=IntKind.i64.wrap (s-1):=⟨_,rfl⟩;have hdl:rd≠rl:=hld.symm;have hal:ra≠rl:=hla.symm;simp(disch:=omega)only[go_sem,n1,n2,n3,hl,hdd,ha,hld,hla,hdl,hal,<-hs1];refine Ak (by kernel_rfl) pL32 (by kernel_rfl) ?_;have q1:r4≠rl:=n1.symm;have q2:r4≠rd:=n2.symm;have q3:r4≠ra:=n3.symm;obtain⟨H4,hH4⟩: ∃H4,H4=upd (upd H r4 (some (.cells (dEx x) 27))) rl (some (.cells [.int .i64 s1] 3)):=⟨_,rfl⟩;have ht4:Wk rl H H4:=by rw[hH4];exact((Wk.refl rl H).new hr4 _).set _
  have g1:H4 rl=some (.cells [.int .i64 s1] 3):=by rw[hH4];exact Ac _ _ _
  have g2:H4 rd=some (.cells [.int .i64 d] 3):=ht4 _ _ hdl hdd;have g3:H4 ra=some (.cells [.func (.func 89) [] [.optr rl 0, .optr ra 0]] 127):=ht4 _ _ hal ha;have g4:H4 r4=some (.cells (dEx x) 27):=by rw[hH4];simp [upd,q1]
  rw[<-hH4];have sv: ∀b:Bool,0<=s->s<=256->s1=s-1:=fun _ h0 h1=>by rw[hs1,IntKind.wrap_i64];omega
  have hsz:(Ez x:Int)=1+(Kx (parts x):Int):=by rw[Qs x];omega
  by_cases c1:0<=s1
  ·by_cases c2:d<=32
   ·have c2':(d:Int)<=32:=by omega
    simp(disch:=omega)only[go_sem,g1,g2,g3,g4,c1,c2'];refine(Cf8 hG _ x hx.big hx.s).mono ?_;rintro _ H5 ⟨rfl,rfl⟩;cases hf:Ca x with
    | true=>
     have hwd:IntKind.i64.wrap ((d:Int)+1)=((d+1:Nat):Int):=by rw[IntKind.wrap_i64];omega
     simp(disch:=omega)only[go_sem,g1,g2,g3,g4,hwd];refine(Ba1 G _ ((d+1:Nat):Int) rl ra).mono ?_;rintro _ H6 ⟨r6,hr6,rfl,rfl⟩;have p1:rl≠r6:=Am hr6 g1;have p2:ra≠r6:=Am hr6 g3;have p3:rd≠r6:=Am hr6 g2;have p4:r4≠r6:=Am hr6 g4;have ht6:Wk rl H (upd H5 r6 (some (Tx ((d+1:Nat):Int)))):=ht4.new hr6 _;simp(disch:=omega)only[go_sem,g1,g2,g3,g4,p1,p3,p4];refine(Dn4 G _ x hx.big 90 [] [.optr rl 0, .optr r6 0, .optr ra 0] (Fh0 (d+1)) rl s1 (by simp only[upd,if_neg p1];exact g1) fun y hy t K hK hT=>ih y hy K (d+1) t r6 (hx.parts hy) (by omega) hK (hT _ _ p1.symm (Ac _ _ _)) p1 (hT _ _ hal (by simp only[upd,if_neg p2];exact g3))).mono ?_;rintro _ H7 ⟨b,t,rfl,hR,ht,hT⟩;have k2:H7 rd=some (.cells [.int .i64 d] 3):=hT _ _ hdl (by simp only[upd,if_neg p3];exact g2);have k4:H7 r4=some (.cells (dEx x) 27):=hT _ _ q1 (by simp only[upd,if_neg p4];exact g4);simp(disch:=omega)only[go_sem,g1,g2,g3,g4,p1,p3,p4,k2,k4]
     trace_state
     refine Wj.refl ⟨b,t,rfl,fun h0 h1=> ?_,ht,ht6.trans hT⟩;have e1:=sv true h0 h1;obtain⟨w1,w2⟩:=Db6 (d+1) _ _ _ _ hR c1 (by omega);refine⟨?_,fun hb=>by rw[w2 hb,hsz];omega⟩;rw[w1,Tu,hf,decide_eq_true c2,jS,jS];congr 1;exact decide_eq_decide.2 ⟨fun h=>by omega,fun h=>by omega⟩
    | false=>
     simp(disch:=omega)only[go_sem,g1,g2,g3,g4];refine Wj.refl ⟨false,s1,rfl,fun _ _=>⟨?_,fun h=>(by cases h)⟩,g1,ht4⟩;rw[Tu,hf,Bool.and_false,jT,jT]
   ·have c2': ¬(d:Int)<=32:=by omega
    simp(disch:=omega)only[go_sem,g1,g2,g3,g4,c1,c2'];refine Wj.refl ⟨false,s1,rfl,fun _ _=>⟨?_,fun h=>(by cases h)⟩,g1,ht4⟩;rw[Tu,decide_eq_false c2,jT,jT,jT]
  ·simp(disch:=omega)only[go_sem,g1,g2,g3,g4,c1];refine Wj.refl ⟨false,s1,rfl,fun h0 h1=>⟨?_,fun h=>(by cases h)⟩,g1,ht4⟩;have:=sv true h0 h1;rw[decide_eq_false (by omega),Bool.and_false]
theorem Ae8 (hG:GX G) (H:Ab) (e:Ex) (he:Fit e):Ae Tryz.prog G 14 [.agg (dEx e)] H (Ba (.bool (Cl e)) H):=by
 refine Aa Tryz.func14 Tryz.call14 rfl (by kernel_rfl) ?_;simp(disch:=omega)only[go_sem,DVal.cells];intro r1 hr1;dsimp only at hr1;simp(disch:=omega)only[go_sem,DVal.cells];intro r3 hr3;dsimp only at hr3;obtain⟨m1,m2,hr3'⟩:=Ex8.1 hr3;simp(disch:=omega)only[go_sem,DVal.cells,m1,m2];intro r4 hr4;dsimp only at hr4;obtain⟨p1,p2,hr4a⟩:=Ex8.1 hr4;obtain⟨p3,p4,hr4'⟩:=Ex8.1 hr4a;simp(disch:=omega)only[go_sem,DVal.cells,m1,m2,p1,p2,p3,p4];have hub:Sub H (upd (upd (upd H r1 (some (.cells (dEx e) 27))) r3 (some (Tx 256))) r4 (some (.cells [.func (.func 89) [] [.optr r3 0, .optr r4 0]] 127))):=((Sub.refl H).new hr1 _ |>.new hr3 _).new hr4 _;have y1:upd (upd (upd H r1 (some (.cells (dEx e) 27))) r3 (some (Tx 256))) r4 (some (.cells [.func (.func 89) [] [.optr r3 0, .optr r4 0]] 127)) r1=some (.cells (dEx e) 27):=by simp [upd,m2,p4]
 have y3:upd (upd (upd H r1 (some (.cells (dEx e) 27))) r3 (some (Tx 256))) r4 (some (.cells [.func (.func 89) [] [.optr r3 0, .optr r4 0]] 127)) r3=some (Tx 256):=by simp [upd,p2]
 have y4:upd (upd (upd H r1 (some (.cells (dEx e) 27))) r3 (some (Tx 256))) r4 (some (.cells [.func (.func 89) [] [.optr r3 0, .optr r4 0]] 127)) r4=some (.cells [.func (.func 89) [] [.optr r3 0, .optr r4 0]] 127):=Ac _ _ _;change dwp _ _ _ _ _ ⟨_,upd (upd (upd H r1 (some (.cells (dEx e) 27))) r3 (some (Tx 256))) r4 (some (.cells [.func (.func 89) [] [.optr r3 0, .optr r4 0]] 127))⟩;generalize upd (upd (upd H r1 (some (.cells (dEx e) 27))) r3 (some (Tx 256))) r4 (some (.cells [.func (.func 89) [] [.optr r3 0, .optr r4 0]] 127))=K at hub y1 y3 y4;refine Ak (by kernel_rfl) (.take 0 (.take 2 (.go 1 [2] (.go 3 [] (.take 4 .done))))) (by kernel_rfl) ?_;simp(disch:=omega)only[go_sem,y1,y3,y4];refine(Ba1 G _ 1 r3 r4).mono ?_;rintro _ H6 ⟨r6,hr6,rfl,rfl⟩;have x1:r1≠r6:=Am hr6 y1;have x3:r3≠r6:=Am hr6 y3;have x4:r4≠r6:=Am hr6 y4;simp(disch:=omega)only[go_sem,y1,y3,y4,x1,x3,x4];refine(Dn9 hG r3 r4 p2 e _ 1 256 r6 he (by decide) (by simp only[upd,if_neg x3];exact y3) (Ac _ _ _) x3 (by simp only[upd,if_neg x4];exact y4)).mono ?_;rintro _ H7 ⟨b,t,rfl,hR,ht,hT⟩;obtain⟨w1,_⟩:=hR (by decide) (by decide);have z1:H7 r1=some (.cells (dEx e) 27):=hT _ _ m2 (by simp only[upd,if_neg x1];exact y1);have z4:H7 r4=some (.cells [.func (.func 89) [] [.optr r3 0, .optr r4 0]] 127):=hT _ _ p1 (by simp only[upd,if_neg x4];exact y4);simp(disch:=omega)only[go_sem,y1,y3,y4,x1,x3,x4,z1,z4];refine Wj.sub (hT.sub (hub.new hr6 _) hr3') (Wj.refl ⟨?_,rfl⟩);rw[w1,Cl];have:((Ez e:Int)<=256)↔Ez e<=256:=by omega
 simp only[this]
end
end Go.Dl

-- Chapter 3: values that are put together, seen as trees; MayArgs, MayChoices, Size, Level.
namespace Go.Dl
open Go Go.Proofs
set_option maxRecDepth 100000
def Qg (H':Ab) (v:DVal) (H:Ab) (v':DVal):Prop:= ∀w,Br w H'-> ∀x,Rel w H' v x->Rel w H v' x
def Px (H':Ab) (vs:List DVal) (H:Ab) (vs':List DVal):Prop:= ∀w,Br w H'-> ∀xs,Be w H' vs xs->Be w H vs' xs
section
variable {H H':Ab}
theorem Qg.keep (h:Sub H H') (v:DVal):Qg H' v H v:=fun w _ x hx=>Rel.lasts (Di h w) _ _ hx
theorem Qg.le {v v':DVal} (h:Sub H H') (k:DLe v v'):Qg H' v H v':=fun w _ x hx=>Rel.lasts (Di h w) _ _ (k w H' x hx)
theorem Qg.own {e:TypeId} {size n:Nat} {cs:List DVal} {v:DVal} (h:Df H e size n cs v H'):Qg H' v H (.vslice cs n):=fun w hw x hx=>(h.ghost w hw).2.2 x hx
theorem Qg.block {e:TypeId} {size r n:Nat} {cs:List DVal} (h:Sub H H') (hr:H r=none) (hc:H' r=some (.cells cs e)) (hl:cs.length=n*size):Qg H' (.oslice size r 0 n n) H (.vslice cs n):=
 Qg.own (e:=e) (.inr ⟨r,hr,hl,rfl,hc,h⟩)
theorem Px.nil:Px H' [] H []:=fun w _ xs hx=>by simpa [Be] using hx
theorem Px.cons {v v':DVal} {vs vs':List DVal} (h:Qg H' v H v') (k:Px H' vs H vs'):Px H' (v::vs) H (v'::vs'):=fun w hw xs hx=>by
 simp only[Be] at hx⊢
 obtain⟨y,ys,rfl,h1,h2⟩:=hx;exact⟨y,ys,rfl,h w hw y h1,k w hw ys h2⟩
theorem Px.keep (h:Sub H H') (vs:List DVal):Px H' vs H vs:=fun w _ xs hx=>Be.lasts (Di h w) _ _ hx
theorem Qg.agg {vs vs':List DVal} (h:Px H' vs H vs'):Qg H' (.agg vs) H (.agg vs'):=fun w hw x hx=>by
 simp only[Rel] at hx⊢
 obtain⟨xs,rfl,h1⟩:=hx;exact⟨xs,rfl,h w hw _ h1⟩
theorem Qg.tuple {vs vs':List DVal} (h:Px H' vs H vs'):Qg H' (.tuple vs) H (.tuple vs'):=fun w hw x hx=>by
 simp only[Rel] at hx⊢
 obtain⟨xs,rfl,h1⟩:=hx;exact⟨xs,rfl,h w hw _ h1⟩
theorem Qg.nil (h:Sub H H'):Qg H' .nilSlice H (.vslice [] 0):=Qg.le h .nil
theorem Qg.cells {e:TypeId} {size r n:Nat} {cs cs':List DVal} (h:Sub H H') (hr:H r=none) (hc:H' r=some (.cells cs e)) (hl:cs.length=n*size) (hs:Px H' cs H cs'):Qg H' (.oslice size r 0 n n) H (.vslice cs' n):=fun w hw x hx=>by
 obtain⟨_,_,k3⟩:=Ok.fz (v:= .oslice size r 0 n n) hc w hw;obtain⟨ys,hy1,hy2⟩:=Xb hw hc;simp only[Rel] at hx⊢
 obtain⟨o,cap,rfl,h1,h2,h3,h4⟩:=hx;refine⟨_,cap,rfl,h2, ?_⟩;by_cases h0:cs= []
 ·subst h0;have:=hs w hw [] (by simp [Be]);cases cs' with
  | nil=>exact .inl rfl
  | cons c cs'=>simp [Be] at this
 ·obtain⟨zs,hl1,hh⟩:=hw.holds hc;have ho:o=0:=by
   rcases h3 with h3 | h3
   ·exfalso;have:n=0:=by omega
    subst this;rw[Nat.zero_mul] at hl;exact h0 (List.length_eq_zero_iff.1 hl)
   ·exact h3
  subst ho;exact .inr ⟨r,0,zs,rfl, .inr ⟨hr,fun i y hy=>by simpa using hh i y hy⟩,hs w hw zs hl1⟩
theorem Qg.fin {R:DEnd->Ab->Prop} {v v':DVal} (hs:Sub H H') (h:Qg H' v H v') (k:R (.ret v') H):Wj R v H':= .ghost (fun w hw=>⟨((Ok.sub hs v) w hw).1,((Ok.sub hs v) w hw).2.1,h w hw⟩) (.refl k)
theorem Px.call {P:Program} {G:Nat->DVal} {f:FuncId} {args args':List DVal} {R:DEnd->Ab->Prop} (hs:Sub H H') (h:Px H' args H args') (k:Ae P G f args' H R):Ae P G f args H' R:=
 Ae.pre (fun w hw=>⟨((Ok.sub hs (.tuple args)) w hw).1,((Ok.sub hs (.tuple args)) w hw).2.1,Qg.tuple h w hw⟩) k
theorem Px.lent {P:Program} {G:Nat->DVal} {f:FuncId} {args args':List DVal} {v:DVal} (h:Px H' args H args') (k:Ae P G f args' h0 (Ba v h0)) (hv:loose v=true):Ae P G f args H' (Ba v H'):=
 k.lent (fun w vs hw hr=>Be.lasts (Ce0 H w) _ _ (h w hw vs hr)) hv
theorem Qg.ex {k o n:Int} {s:List UInt8} {vl va:DVal} {l:List Ex} {a:List As} {li en t:Int} (hs:Sub H H') (hl:Qg H' vl H (dXs l)) (ha:Qg H' va H (dAl a)):
  Px H' [.int .u8 k, .int .u8 o, .int .i64 n, .str s,vl,va, .int .i64 li, .int .i64 en, .int .i64 t] H (dEx (.mk k o n s l a li en t)):=by
 rw[Bs8];exact .cons (.keep hs _) (.cons (.keep hs _) (.cons (.keep hs _) (.cons (.keep hs _) (.cons hl (.cons ha (.keep hs _))))))
theorem Qg.exs0 (hs:Sub H H'):Qg H' .nilSlice H (dXs []):=Qg.nil hs
theorem Qg.as0 (hs:Sub H H'):Qg H' .nilSlice H (dAl []):=Qg.nil hs
end
section
variable {G:Nat->DVal} {H:Ab}
theorem Cg1 (hG:GX G) (H:Ab) (e:Ex) (he:Fit e):Ae Tryz.prog G 99 ([]++ [.agg (dEx e)]++ []) H (Ba (.bool (!Cl e)) H):=by
 refine Aa Tryz.func99 Tryz.call99 rfl (by kernel_rfl) ?_;simp(disch:=omega)only[go_sem,DVal.cells,jG,jH];intro r hr;dsimp only at hr;simp(disch:=omega)only[go_sem];refine(Ae8 hG _ e he).mono ?_;rintro _ H1 ⟨rfl,rfl⟩;simp(disch:=omega)only[go_sem];exact Wj.dropA r hr (Wj.refl ⟨rfl,rfl⟩)
theorem Cg2 (hG:GX G) (H:Ab) (c:Ch) (hc: ∀x∈c.l,Fit x) (hl:c.l.length<=1099511627776):Ae Tryz.prog G 97 ([]++ [.agg (dCh c)]++ []) H (Ba (.bool (!c.l.all Cl)) H):=by
 refine Aa Tryz.func97 Tryz.call97 rfl (by kernel_rfl) ?_;simp(disch:=omega)only[go_sem,DVal.cells,jG,jH];intro r hr;dsimp only at hr;simp(disch:=omega)only[go_sem];refine(Aa2 G _ (fun e=>!Cl e) c.l 99 [] [] hl fun x hx=>Cg1 hG _ x (hc x hx)).mono ?_;rintro _ H1 ⟨rfl,rfl⟩;rw[Sm];simp(disch:=omega)only[go_sem];exact Wj.dropA r hr (Wj.refl ⟨rfl,rfl⟩)
theorem Pr (hG:GX G) (H:Ab) (l:List Ch) (hb:Lg l<=1000000000000) (hk:Az7 l):Ae Tryz.prog G 18 [dCl l] H (Ba (.bool (Kg l)) H):=by
 have hll:=La l;refine Aa Tryz.func18 Tryz.call18 rfl (by kernel_rfl) ?_;simp(disch:=omega)only[go_sem,dCl];refine(Aa3 G _ l (by omega)).mono ?_;rintro _ H1 ⟨rfl,rfl⟩;cases h:Ct l with
 | false=>
  simp(disch:=omega)only[go_sem];exact Wj.refl ⟨by rw[Kg,h,jT],rfl⟩
 | true=>
  simp(disch:=omega)only[go_sem];refine(Az4 G H1 (fun c=>!c.l.all Cl) l 97 [] [] (by omega) fun c hc=> ?_).mono ?_
  ·have h1:=Mq hc;have h2:=Kk c.l;rw[Sl] at h1;refine Cg2 hG _ c (fun x hx=> ?_) (by omega);have h3:=Xf hx;exact⟨by omega,Au4 (Fw5.1 (Az8 hk c hc)) x hx⟩
  ·rintro _ H2 ⟨rfl,rfl⟩;rw[Sm];simp(disch:=omega)only[go_sem];exact Wj.refl ⟨by rw[Kg,h,jS,Bool.not_not],rfl⟩
end
end Go.Dl
