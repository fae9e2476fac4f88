/- The data level and the contracts of the functions that are reached (part 4). -/
import Derived.Lib.Fields
import Derived.Laws.RangeString
import Derived.Laws.RangeAny
import Derived.Test.YtpkdkhoeaibpaaaGreatDoorPdc
set_option linter.unusedSimpArgs false
set_option linter.unusedVariables false
set_option linter.unusedSectionVars false
-- Names and reserved words (chapter 2), for the seats of chapters 3, 4, 5.
namespace Go.Dl
open Go Go.Proofs Go.RowKit
set_option maxRecDepth 100000
variable {H Hn:Bb}
attribute [go_sem] List.getElem?_toArray List.getElem?_cons_zero List.getElem?_cons_succ List.append_eq
theorem Dt2 {P:Program} {w:World} {H:Bb} {G:Nat->DVal} {g:Nat} {name:String} {k:IntKind} {zs:List Int} (hg:P.globalNamed name=some g) (h:GOk G w H) (e:G g= .vptr (zs.map fun z=> .int k z) 0):Lib.TabIs P w name k zs:=by
 have hx:=h.exact g _ e;have hr:=h.rel g;rw[e] at hr;have hc:=Ch6 hg hr rfl;unfold Lib.TabIs World.var?;rw[hg];simp only[Option.bind_some];cases ho:w.heap[g]? with
 | none=>rw[ho] at hx;cases hx
 | some o=>
  cases o with
  | cells c t fz=>
   rw[ho] at hx;simp only[Jq,Option.some.injEq,List.length_map] at hx;simp only[Option.some.injEq];apply Array.ext_getElem?;intro i;by_cases hi:i<zs.length
   ·have:=hc i zs[i] (List.getElem?_eq_getElem hi);simp only[World.cell?,ho] at this;simp [hi];simpa using this
   ·rw[Array.getElem?_eq_none (by omega),Array.getElem?_eq_none (by simp;omega)]
  | _=>rw[ho] at hx;cases hx
section
end
section
variable {G:Nat->DVal} {H:Bb}
theorem Ch9 (hG:G 0= .vptr (Lib.asciiSpaceTab.map fun z=> .int .u8 z) 0) (s:List UInt8) (hs:s.length<4294967281) (ha: ∀(j:Nat) b,s[j]? =some b->b.toNat<128):
  Bh Tryz.prog G 263 [.str s] H (Bt (Yd (Lib.fields s)) H):=by
 refine⟨Tryz.call263,fun vs w hv hH hg=> ?_⟩;simp only[Br,Rel] at hv;obtain⟨_,_,rfl,rfl,rfl⟩:=hv;refine(Tryz.strings_Fields ⟨⟨s⟩⟩ w hs ha (Dt2 (show Tryz.prog.globalNamed "strings.asciiSpace" =some 0 by kernel_rfl) hg hG)).mono fun e w' ⟨he,hw⟩=> ?_;subst he;subst hw;have hq:RowKit.Below w.heap.size w (w.alloc (.cells ((Lib.fields s).map fun l=>Value.string ⟨l.toArray⟩).toArray 9)):=RowKit.Below.alloc (RowKit.Below.refl _ _) (Nat.le_refl _) _;obtain⟨k1,k2⟩:=(Quiet.below hq).ext hH;refine⟨_,H,⟨rfl,rfl⟩, .ret _ _ ?_,k1,k2⟩;simp only[Yd,Rel];refine⟨_,_,by rfl,Nat.le_refl _, .inr ⟨w.heap.size,0,(Lib.fields s).map fun l=>Value.string ⟨l.toArray⟩,rfl, .inr ⟨?_,fun i x hx=> ?_⟩, ?_⟩⟩
 ·cases e:H w.heap.size with
  | none=>rfl
  | some o=>exact absurd (hH.lt (r:=w.heap.size) (by simp [e])) (by omega)
 ·rw[Nat.zero_add,World.cell?,World.alloc_heap_new];simpa using hx
 ·refine Br.mk (by simp) fun i d x h1 h2=> ?_;simp only[List.getElem?_map,Option.map_eq_some_iff] at h1 h2;obtain⟨b1,q1,rfl⟩:=h1;obtain⟨b2,q2,rfl⟩:=h2;rw[q1] at q2;cases q2;simp [Rel]
end
structure GX (G:Nat->DVal):Prop where
 space:G 0= .vptr (Lib.asciiSpaceTab.map fun z=> .int .u8 z) 0
theorem Eh6: ∀n:Fin 256,IntKind.u8.wrap (((BitVec.ofInt 8 ((n.1:Nat):Int) ||| BitVec.ofInt 8 32).toNat:Nat):Int)=((n.1 ||| 32:Nat):Int):=by decide+kernel
section
variable {G:Nat->DVal} {H:Bb}
theorem Ye (G:Nat->DVal) (H:Bb) (b:UInt8):Bh Tryz.prog G 155 [.int .u8 b.toNat] H (Bt (.bool (Ga b)) H):=by
 have hor:=Eh6 ⟨b.toNat,b.toNat_lt⟩;have hl:=Bp8 ⟨b.toNat,b.toNat_lt⟩;dsimp only at hor hl;rw[UInt8.ofNat_toNat] at hl;rw[hl];clear hl;generalize b.toNat ||| 32=m at hor⊢
 refine Bc Tryz.func155 Tryz.call155 rfl (by kernel_rfl) ?_;simp(disch:=omega) only[go_sem,↓reduceIte];generalize hm:IntKind.u8.wrap _=z;have hz:z=(m:Int):=hm.symm.trans hor;subst hz;by_cases h1:97<=m
 ·have h1':(97:Int)<=(m:Int):=by omega
  simp(disch:=omega) only[go_sem,↓reduceIte,h1'];generalize hm2:IntKind.u8.wrap _=z;have hz:z=(m:Int):=hm2.symm.trans hor;subst hz;refine Rm.refl ⟨?_,rfl⟩;rw[decide_eq_decide.2 (show(m:Int)<=122↔m<=122 by omega)]
 ·have h1': ¬(97:Int)<=(m:Int):=by omega
  simp(disch:=omega) only[go_sem,↓reduceIte,h1'];exact Rm.refl ⟨rfl,rfl⟩
theorem Bp9 (G:Nat->DVal) (H:Bb) (b:UInt8):Bh Tryz.prog G 215 [.int .u8 b.toNat] H (Bt (.bool (Lz b)) H):=by
 refine Bc Tryz.func215 Tryz.call215 rfl (by kernel_rfl) ?_;by_cases h1:48<=b.toNat
 ·have h1':(48:Int)<=(b.toNat:Int):=by omega
  simp(disch:=omega) only[go_sem,↓reduceIte,h1'];refine Rm.refl ⟨?_,rfl⟩;rw[Lz,decide_eq_decide.2 (show(b.toNat:Int)<=57↔b.toNat<=57 by omega),decide_eq_true h1,Bool.true_and]
 ·have h1': ¬(48:Int)<=(b.toNat:Int):=by omega
  simp(disch:=omega) only[go_sem,↓reduceIte,h1'];refine Rm.refl ⟨?_,rfl⟩;rw[Lz,decide_eq_false h1];rfl
theorem Bq0 (G:Nat->DVal) (H:Bb) (s:List UInt8):Bh Tryz.prog G 297 [.str s] H (Bt (.bool false) H):=by
 refine Bc Tryz.func297 Tryz.call297 rfl (by kernel_rfl) ?_;simp(disch:=omega) only[go_sem,↓reduceIte];exact Rm.refl ⟨rfl,rfl⟩
theorem Bd8 (G:Nat->DVal) (H:Bb) (s:List UInt8):Bh Tryz.prog G 262 [.str s] H (Bt (.bool false) H):=by
 refine Bc Tryz.func262 Tryz.call262 rfl (by kernel_rfl) ?_;simp(disch:=omega) only[go_sem,↓reduceIte];exact Rm.refl ⟨rfl,rfl⟩
theorem Ci0 (G:Nat->DVal) (H:Bb) (s t:List UInt8):Bh Tryz.prog G 261 [.str s, .str t] H (Bt (.bool (Go.Op.bytesLess s t)) H):=by
 refine Bc Tryz.func261 Tryz.call261 rfl (by kernel_rfl) ?_;simp(disch:=omega) only[go_sem,↓reduceIte];refine(Bq0 G _ s).mono ?_;rintro _ H ⟨rfl,rfl⟩;simp(disch:=omega) only[go_sem,↓reduceIte];exact Rm.refl ⟨rfl,rfl⟩
theorem Bd9 (G:Nat->DVal) (H:Bb) (l:List (List UInt8)) (s:List UInt8) (hl:l.Pairwise fun a b=>Go.Op.bytesLess a b=true) (hn:l.length<=1000000):
  Bh Tryz.prog G 216 [Yd l, .str s] H (fun e H'=>(∃i:Nat,e= .ret (.tuple [dI i, .bool (decide (s∈l))]))/\H'=H):=by
 refine Bc Tryz.func216 Tryz.call216 rfl (by kernel_rfl) ?_;simp(disch:=omega) only[go_sem,↓reduceIte,Yd];obtain⟨I,hI⟩: ∃I:Nat×Nat->(Nat->DVal)->Bb->Prop,∀p env heap,I p env heap↔(env 0= .vslice (l.map .str) l.length/\env 1= .str s/\env 6=dI l.length/\env 7=dI p.1/\env 8=dI p.2/\halfAt l s p.1 p.2/\heap=H):=⟨_,fun _ _ _=>Iff.rfl⟩;refine Cn3.run I (fun p=>p.2-p.1) (0,l.length) ((hI _ _ _).2 ?_) ?_
 ·simp(disch:=omega) only[go_sem,↓reduceIte];(repeat' apply And.intro)<;>(try first | rfl | assumption | omega);exact Bp7 l s
 ·rintro⟨i,j⟩ env heap hi;obtain⟨e0,e1,e6,e7,e8,hh,rfl⟩:=(hI _ _ _).1 hi;dsimp only at e7 e8 hh;have hh1:=hh.le;have hh2:=hh.len;by_cases hlt:i<j
  ·have hm:(i+j)/2<l.length:=by omega
   have w1:IntKind.u64.wrap ((i:Int)+(j:Int))=((i+j:Nat):Int):=by rw[IntKind.wrap_u64];omega
   have w2:(((i+j:Nat)):Int).fdiv (2^min 1 64)=(((i+j)/2:Nat):Int):=by rw[show(2:Int)^min 1 64=2 from rfl,Int.fdiv_eq_ediv_of_nonneg _ (by omega)];omega
   have w3:IntKind.i64.wrap ((((i+j)/2:Nat)):Int)=(((i+j)/2:Nat):Int):=by rw[IntKind.wrap_i64];omega
   have hg:(l.map DVal.str)[(i+j)/2]? =some (.str l[(i+j)/2]):=by rw[List.getElem?_map,List.getElem?_eq_getElem hm];rfl
   simp(disch:=omega) only[go_sem,↓reduceIte,e0,e1,e6,e7,e8,hlt,w1,w2,w3,hg,hm];refine(Ci0 G _ l[(i+j)/2] s).mono ?_;rintro _ H1 ⟨rfl,rfl⟩;cases hb:Go.Op.bytesLess l[(i+j)/2] s with
   | true=>
    simp(disch:=omega) only[go_sem,↓reduceIte,e0,e1,e6,e7,e8];refine⟨((i+j)/2+1,j),_,Rd.refl _,(hI _ _ _).2 ?_,by dsimp only;omega⟩;simp(disch:=omega) only[go_sem,↓reduceIte,e0,e1,e6,e7,e8];(repeat' apply And.intro)<;>(try first | rfl | assumption | omega);exact Dh1 hl hh (by omega) (List.getElem?_eq_getElem hm) hb
   | false=>
    simp(disch:=omega) only[go_sem,↓reduceIte,e0,e1,e6,e7,e8];refine⟨(i,(i+j)/2),_,Rd.refl _,(hI _ _ _).2 ?_,by dsimp only;omega⟩;simp(disch:=omega) only[go_sem,↓reduceIte,e0,e1,e6,e7,e8];(repeat' apply And.intro)<;>(try first | rfl | assumption | omega);exact Ch8 hl hh (by omega) (by omega) (List.getElem?_eq_getElem hm) hb
  ·have:i=j:=by omega
   subst this;have hend:=Cu3 hh;by_cases hi:i<l.length
   ·have hi':(i:Int)<(l.length:Int):=by omega
    have hg:(l.map DVal.str)[i]? =some (.str l[i]):=by rw[List.getElem?_map,List.getElem?_eq_getElem hi];rfl
    rw[List.getElem?_eq_getElem hi] at hend;by_cases hw:l[i]=s
    ·simp(disch:=omega) only[go_sem,↓reduceIte,e0,e1,e6,e7,e8,hi',hi,hg,hw];refine Rm.refl ⟨⟨i, ?_⟩,rfl⟩;rw[hend,hw];simp
    ·simp(disch:=omega) only[go_sem,↓reduceIte,e0,e1,e6,e7,e8,hi',hi,hg,hw];refine(Bd8 G _ l[i]).mono ?_;rintro _ H1 ⟨rfl,rfl⟩;simp(disch:=omega) only[go_sem,↓reduceIte,e0,e1,e6,e7,e8,hi',hi,hg,hw];refine Rm.refl ⟨⟨i, ?_⟩,rfl⟩;rw[hend];simp [hw]
   ·have hi': ¬(i:Int)<(l.length:Int):=by omega
    rw[List.getElem?_eq_none (by omega)] at hend;simp(disch:=omega) only[go_sem,↓reduceIte,e0,e1,e6,e7,e8,hi'];refine Rm.refl ⟨⟨i, ?_⟩,rfl⟩;rw[hend];simp
theorem Be0 {s:List UInt8} {k:Nat} {c:UInt8} (h:s[k]? =some c) (hc:c.toNat<128):Jb s k=(c.toNat,1):=by
 obtain⟨hk,rfl⟩:=List.getElem?_eq_some_iff.1 h;exact Go.decode_ascii ⟨⟨s⟩⟩ k hk hc
theorem Ci1 {s:List UInt8} {k:Nat} {c:UInt8} (h:s[k]? =some c) (hc:128<=c.toNat):128<=(Jb s k).1:=by
 obtain⟨hk,rfl⟩:=List.getElem?_eq_some_iff.1 h;exact(Go.decode_high ⟨⟨s⟩⟩ k hk hc).1
theorem Ci2 {c:UInt8} (h:126<c.toNat):Eg c=false:=by
 cases hw:Eg c with
 | false=>rfl
 | true=>have:=(Ch7 hw).2;omega
set_option maxHeartbeats 1000000 in
theorem Ci3 (G:Nat->DVal) (H:Bb) (s:List UInt8) (hs:s.length<=1000000000):Bh Tryz.prog G 156 [.str s] H (Bt (.str (Ma s)) H):=by
 refine Bc Tryz.func156 Tryz.call156 rfl (by kernel_rfl) ?_;simp(disch:=omega) only[go_sem,↓reduceIte];intro r hr;obtain⟨I,hI⟩: ∃I:Nat->(Nat->DVal)->Bb->Prop,∀k env heap,I k env heap↔(env 0= .str s/\env 6= .optr r 0/\(s.take k).all Eg=true/\k<=s.length/\heap=upd H r (some (.iter s k))):=⟨_,fun _ _ _=>Iff.rfl⟩;refine Cn3.run I (fun k=>s.length-k) 0 ((hI _ _ _).2 ?_) ?_
 ·simp(disch:=omega) only[go_sem,↓reduceIte]
 ·intro k env heap hi;obtain⟨e0,e6,hw,hk,rfl⟩:=(hI _ _ _).1 hi;by_cases hlt:k<s.length
  ·have hg:s[k]? =some s[k]:=List.getElem?_eq_getElem hlt;have hend:Eg s[k]=false->Ma s=s.take k:=fun h=>Dh3 hw hg h;have hstep:Eg s[k]=true->(s.take (k+1)).all Eg=true:=fun h=>by
    rw[List.take_add_one,hg,List.all_append,hw];simpa using h
   have hki:(k:Int)<=(s.length:Int):=by omega
   by_cases h126:s[k].toNat<=126
   ·have hrn:=Be0 hg (by omega);have h126': ¬(126:Int)<(s[k].toNat:Int):=by omega
    have hwr:IntKind.u8.wrap (s[k].toNat:Int)=(s[k].toNat:Int):=by rw[IntKind.wrap_u8];have:=s[k].toNat_lt;omega
    simp(disch:=omega) only[go_sem,↓reduceIte,e0,e6,hlt,hrn,h126',hwr];refine(Ye G _ s[k]).mono ?_;rintro _ H1 ⟨rfl,rfl⟩;cases hle:Ga s[k] with
    | true=>
     simp(disch:=omega) only[go_sem,↓reduceIte,e0,e6,hlt,hrn,h126',hwr];refine⟨k+1,_,Rd.refl _,(hI _ _ _).2 ?_,by omega⟩;simp(disch:=omega) only[go_sem,↓reduceIte,e0,e6];(repeat' apply And.intro)<;>(try first | rfl | assumption | omega);exact hstep (Bd5 hle)
    | false=>
     simp(disch:=omega) only[go_sem,↓reduceIte,e0,e6,hlt,hrn,h126',hwr];refine(Bp9 G _ s[k]).mono ?_;rintro _ H1 ⟨rfl,rfl⟩;cases hdi:Lz s[k] with
     | true=>
      simp(disch:=omega) only[go_sem,↓reduceIte,e0,e6,hlt,hrn,h126',hwr];refine⟨k+1,_,Rd.refl _,(hI _ _ _).2 ?_,by omega⟩;simp(disch:=omega) only[go_sem,↓reduceIte,e0,e6];(repeat' apply And.intro)<;>(try first | rfl | assumption | omega);exact hstep (Bp6 hdi)
     | false=>
      by_cases h95:s[k]=95
      ·have h95':(s[k].toNat:Int)=95:=by rw[h95];rfl
       simp(disch:=omega) only[go_sem,↓reduceIte,e0,e6,hlt,hrn,h126',hwr,h95'];refine⟨k+1,_,Rd.refl _,(hI _ _ _).2 ?_,by omega⟩;simp(disch:=omega) only[go_sem,↓reduceIte,e0,e6];(repeat' apply And.intro)<;>(try first | rfl | assumption | omega);exact hstep (by rw[h95];rfl)
      ·have h95': ¬(s[k].toNat:Int)=95:=Bd2 (d:=95) h95;simp(disch:=omega) only[go_sem,↓reduceIte,e0,e6,hlt,hrn,h126',hwr,h95',hki];refine Rm.dropA r hr (Rm.refl ⟨?_,rfl⟩);rw[hend (by simp [Eg,hle,hdi,h95])];simp
   ·have hlo:126<((Jb s k).1:Int):=by
     by_cases h128:s[k].toNat<128
     ·rw[Be0 hg h128];dsimp only;omega
     ·have:=Ci1 hg (by omega);omega
    simp(disch:=omega) only[go_sem,↓reduceIte,e0,e6,hlt,hlo,hki];refine Rm.dropA r hr (Rm.refl ⟨?_,rfl⟩);rw[hend (Ci2 (by omega))];simp
  ·have:k=s.length:=by omega
   subst this;simp(disch:=omega) only[go_sem,↓reduceIte,e0,e6,hlt];refine Rm.dropA r hr (Rm.refl ⟨?_,rfl⟩);rw[List.take_length] at hw;rw[Ea0.2 hw]
end
section
variable {G:Nat->DVal} {H:Bb}
def Zw:List UInt8:= [97,98,111,114,116,32,97,98,115,32,97,99,99,101,112,116,32,97,99,99,101,115,115,32,97,108,105,97,115,101,100,32,97,108,108,32,97,110,100,32,97,114,114,97,121,32,98,101,103,105,110,32,98,111,100,121,32,99,97,115,101,32,99,111,110,115,116,97,110,116,32,100,101,99,108,97,114,101,32,100,101,108,97,121,32,100,111,32,101,108,115,101,32,101,108,115,105,102,32,101,110,100,32,101,110,116,114,121,32,101,120,99,101,112,116,105,111,110,32,101,120,105,116,32,102,111,114,32,102,117,110,99,116,105,111,110,32,103,101,110,101,114,105,99,32,105,102,32,105,110,32,105,115,32,108,105,109,105,116,101,100,32,108,111,111,112,32,109,111,100,32,110,101,119,32,110,111,116,32,110,117,108,108,32,111,102,32,111,114,32,111,116,104,101,114,115,32,111,117,116,32,112,97,99,107,97,103,101,32,112,114,97,103,109,97,32,112,114,105,118,97,116,101,32,112,114,111,99,101,100,117,114,101,32,112,114,111,116,101,99,116,101,100,32,114,97,105,115,101,32,114,97,110,103,101,32,114,101,99,111,114,100,32,114,101,109,32,114,101,110,97,109,101,115,32,114,101,113,117,101,117,101,32,114,101,116,117,114,110,32,114,101,118,101,114,115,101,32,115,101,108,101,99,116,32,115,101,112,97,114,97,116,101,32,115,117,98,116,121,112,101,32,116,97,115,107,32,116,101,114,109,105,110,97,116,101,32,116,104,101,110,32,116,121,112,101,32,117,110,116,105,108,32,117,115,101,32,119,104,101,110,32,119,104,105,108,101,32,119,105,116,104,32,120,111,114]
theorem Be1: ∀b∈Zw,b.toNat<128:=by decide+kernel
theorem Bq1:Lib.fields Zw=An4:=by kernel_rfl
theorem Ci4 (hG:GX G) (H:Bb):Bh Tryz.prog G 217 [] H (Bt (Yd An4) H):=by
 refine Bc Tryz.func217 Tryz.call217 rfl (by kernel_rfl) ?_;simp(disch:=omega) only[go_sem,↓reduceIte];show Bh _ _ _ [.str Zw] _ _;refine(Ch9 hG.space Zw (by decide+kernel) (fun j b h=>Be1 b (List.mem_of_getElem? h))).mono ?_;rintro _ H1 ⟨rfl,rfl⟩;rw[Bq1];simp(disch:=omega) only[go_sem,↓reduceIte];exact Rm.refl ⟨rfl,rfl⟩
theorem Cu4 (hG:GX G) (H:Bb) (s:List UInt8):Bh Tryz.prog G 157 [.str s] H (Bt (.bool (Bd4 s)) H):=by
 refine Bc Tryz.func157 Tryz.call157 rfl (by kernel_rfl) ?_;simp(disch:=omega) only[go_sem,↓reduceIte];refine(Ci4 hG _).mono ?_;rintro _ H1 ⟨rfl,rfl⟩;simp(disch:=omega) only[go_sem,↓reduceIte];refine(Bd9 G _ An4 s Bd7 (by decide)).mono ?_;rintro _ H2 ⟨⟨i,rfl⟩,rfl⟩;simp(disch:=omega) only[go_sem,↓reduceIte];exact Rm.refl ⟨rfl,rfl⟩
theorem Kb (hG:GX G) (H:Bb) (s:List UInt8) (hs:s.length<=9223372036854775807):Bh Tryz.prog G 81 [.str s] H (Bt (.bool (Gk s)) H):=by
 refine Bc Tryz.func81 Tryz.call81 rfl (by kernel_rfl) ?_
 match s with
 | []=>
  simp(disch:=omega) only[go_sem,↓reduceIte]
  exact Rm.refl ⟨rfl,rfl⟩
 | c::r=>
  have hne: ¬(c::r= []):=by simp
  have h0:(c::r)[0]? =some c:=rfl
  rw[Dh2]
  by_cases hl:(c::r).length<=32
  ·have hl':((c::r).length:Int)<=32:=by omega
   simp(disch:=omega) only[go_sem,↓reduceIte,hne,hl',h0]
   refine(Ye G _ c).mono ?_
   rintro _ H1 ⟨rfl,rfl⟩
   cases hle:Ga c with
   | false=>
    simp(disch:=omega) only[go_sem,↓reduceIte,hne,hl',h0]
    exact Rm.refl ⟨by simp,rfl⟩
   | true=>
    simp(disch:=omega) only[go_sem,↓reduceIte,hne,hl',h0]
    refine(Ci3 G _ (c::r) (by omega)).mono ?_
    rintro _ H1 ⟨rfl,rfl⟩
    by_cases hw:Ma (c::r)=c::r
    ·simp(disch:=omega) only[go_sem,↓reduceIte,hne,hl',h0,hw]
     refine(Cu4 hG _ (c::r)).mono ?_
     rintro _ H1 ⟨rfl,rfl⟩
     simp(disch:=omega) only[go_sem,↓reduceIte,hne,hl',h0,hw]
     exact Rm.refl ⟨by first | rfl | (rw[List.length_cons] at hl;simp [hw];intro _;omega),rfl⟩
    ·simp(disch:=omega) only[go_sem,↓reduceIte,hne,hl',h0,hw]
     exact Rm.refl ⟨by first | rfl | simp [hw],rfl⟩
  ·have hl': ¬((c::r).length:Int)<=32:=by omega
   simp(disch:=omega) only[go_sem,↓reduceIte,hne,hl',h0]
   exact Rm.refl ⟨by first | rfl | (rw[List.length_cons] at hl;simp;intro h;omega),rfl⟩
end
end Go.Dl

-- The reference of chapter 2: names, tokens that are the same; slices of tokens.
namespace Go.Dl
open Go Go.Proofs Go.RowKit
set_option maxRecDepth 100000
section
end
section
end
section
end
section
end
section
variable {G:Nat->DVal} {H:Bb}
theorem Vh (G:Nat->DVal) (H:Bb) (b:UInt8):Bh Tryz.prog G 158 [.int .u8 b.toNat] H (Bt (.bool (Ga b)) H):=by
 refine Bc Tryz.func158 Tryz.call158 rfl (by kernel_rfl) ?_;have hd:Ga b=(decide ((65:Int)<=b.toNat)&&decide ((b.toNat:Int)<=90) || decide ((97:Int)<=b.toNat)&&decide ((b.toNat:Int)<=122)):=by
  rw[Ga,decide_eq_decide.2 (show 65<=b.toNat↔(65:Int)<=b.toNat by omega),decide_eq_decide.2 (show b.toNat<=90↔(b.toNat:Int)<=90 by omega),decide_eq_decide.2 (show 97<=b.toNat↔(97:Int)<=b.toNat by omega),decide_eq_decide.2 (show b.toNat<=122↔(b.toNat:Int)<=122 by omega)]
 rw[hd];generalize (b.toNat:Int)=n;by_cases h1:65<=n
 ·by_cases h2:n<=90
  ·simp(disch:=omega) only[go_sem,↓reduceIte,h1,h2];exact Rm.refl ⟨by simp,rfl⟩
  ·by_cases h3:97<=n
   ·simp(disch:=omega) only[go_sem,↓reduceIte,h1,h2,h3];exact Rm.refl ⟨by simp,rfl⟩
   ·simp(disch:=omega) only[go_sem,↓reduceIte,h1,h2,h3];exact Rm.refl ⟨by simp,rfl⟩
 ·have h3: ¬97<=n:=by omega
  simp(disch:=omega) only[go_sem,↓reduceIte,h1,h3];exact Rm.refl ⟨by simp,rfl⟩
theorem Be2 (G:Nat->DVal) (H:Bb) (b:UInt8):Bh Tryz.prog G 186 [.int .u8 b.toNat] H (Bt (.bool (Lz b)) H):=by
 refine Bc Tryz.func186 Tryz.call186 rfl (by kernel_rfl) ?_;by_cases h1:48<=b.toNat
 ·have h1':(48:Int)<=(b.toNat:Int):=by omega
  simp(disch:=omega) only[go_sem,↓reduceIte,h1'];refine Rm.refl ⟨?_,rfl⟩;rw[Lz,decide_eq_decide.2 (show(b.toNat:Int)<=57↔b.toNat<=57 by omega),decide_eq_true h1,Bool.true_and]
 ·have h1': ¬(48:Int)<=(b.toNat:Int):=by omega
  simp(disch:=omega) only[go_sem,↓reduceIte,h1'];refine Rm.refl ⟨?_,rfl⟩;rw[Lz,decide_eq_false h1];rfl
theorem Bq2 (G:Nat->DVal) (H:Bb) (b:UInt8):Bh Tryz.prog G 160 [.int .u8 b.toNat] H (Bt (.bool (Eg b)) H):=by
 refine Bc Tryz.func160 Tryz.call160 rfl (by kernel_rfl) ?_;simp(disch:=omega) only[go_sem,↓reduceIte];refine(Vh G _ b).mono ?_;rintro _ H1 ⟨rfl,rfl⟩;cases hl:Ga b with
 | true=>
  simp(disch:=omega) only[go_sem,↓reduceIte];exact Rm.refl ⟨by rw[Eg,hl];rfl,rfl⟩
 | false=>
  simp(disch:=omega) only[go_sem,↓reduceIte];refine(Be2 G _ b).mono ?_;rintro _ H1 ⟨rfl,rfl⟩;cases hd:Lz b with
  | true=>
   simp(disch:=omega) only[go_sem,↓reduceIte];exact Rm.refl ⟨by rw[Eg,hl,hd];rfl,rfl⟩
  | false=>
   by_cases h95:b=95
   ·subst h95;simp(disch:=omega) only[go_sem,↓reduceIte];exact Rm.refl ⟨rfl,rfl⟩
   ·have h95': ¬(b.toNat:Int)=95:=Bd2 (d:=95) h95;simp(disch:=omega) only[go_sem,↓reduceIte,h95'];exact Rm.refl ⟨by rw[Eg,hl,hd,decide_eq_false h95];rfl,rfl⟩
theorem Dh4 (G:Nat->DVal) (H:Bb) (l:List (List UInt8)) (s:List UInt8) (hl:l.length<=1000000):Bh Tryz.prog G 218 [Yd l, .str s] H (Bt (.bool (decide (s∈l))) H):=by
 refine Bc Tryz.func218 Tryz.call218 rfl (by kernel_rfl) ?_;simp(disch:=omega) only[go_sem,↓reduceIte,Yd];obtain⟨I,hI⟩: ∃I:Nat->(Nat->DVal)->Bb->Prop,∀k env heap,I k env heap↔(env 0= .vslice (l.map .str) l.length/\env 1= .str s/\env 5=dI k/\k<=l.length/\(∀x∈l.take k,x≠s)/\heap=H):=⟨_,fun _ _ _=>Iff.rfl⟩;refine Cn3.run I (fun k=>l.length-k) 0 ((hI _ _ _).2 ?_) ?_
 ·simp(disch:=omega) only[go_sem,↓reduceIte];(repeat' apply And.intro)<;>(try first | rfl | assumption | omega);intro x hx;simp at hx
 ·intro k env heap hi;obtain⟨e0,e1,e5,hk,hn,rfl⟩:=(hI _ _ _).1 hi;by_cases hlt:k<l.length
  ·have hlt':(k:Int)<(l.length:Int):=by omega
   have hg:(l.map DVal.str)[k]? =some (.str l[k]):=by rw[List.getElem?_map,List.getElem?_eq_getElem hlt];rfl
   by_cases hw:l[k]=s
   ·simp(disch:=omega) only[go_sem,↓reduceIte,e0,e1,e5,hlt',hlt,hg,hw,Int.toNat_natCast];exact Rm.refl ⟨by rw[decide_eq_true (by rw[<-hw];exact List.getElem_mem hlt)],rfl⟩
   ·have hwd:IntKind.i64.wrap ((k:Int)+1)=((k+1:Nat):Int):=by rw[IntKind.wrap_i64];omega
    simp(disch:=omega) only[go_sem,↓reduceIte,e0,e1,e5,hlt',hlt,hg,hw,Int.toNat_natCast];refine⟨k+1,_,Rd.refl _,(hI _ _ _).2 ?_,by omega⟩;simp(disch:=omega) only[go_sem,↓reduceIte,e0,e1,e5,hwd];(repeat' apply And.intro)<;>(try first | rfl | assumption | omega);exact Hm (p:=fun x=>x≠s) hlt hn hw
  ·have:k=l.length:=by omega
   subst this;simp(disch:=omega) only[go_sem,↓reduceIte,e0,e1,e5];rw[List.take_length] at hn;exact Rm.refl ⟨by rw[decide_eq_false (fun h=>hn s h rfl)],rfl⟩
theorem Bq3 (G:Nat->DVal) (H:Bb):Bh Tryz.prog G 219 [] H (Bt (Yd An4) H):=by
 refine Bc Tryz.func219 Tryz.call219 rfl (by kernel_rfl) ?_;simp(disch:=omega) only[go_sem,↓reduceIte];change Bk6 _ _ _ _ (some (An4.map .str)) _ _;simp(disch:=omega) only[go_sem,↓reduceIte];intro r hr;dsimp only at hr;simp(disch:=omega) only[go_sem,↓reduceIte];refine Rm.fzA r hr ?_;simp only[fz,if_pos,List.drop_zero];refine Rm.refl ⟨?_,rfl⟩;rfl
theorem Ci5 (G:Nat->DVal) (H:Bb) (s:List UInt8):Bh Tryz.prog G 159 [.str s] H (Bt (.bool (Bd4 s)) H):=by
 refine Bc Tryz.func159 Tryz.call159 rfl (by kernel_rfl) ?_;simp(disch:=omega) only[go_sem,↓reduceIte];refine(Bq3 G _).mono ?_;rintro _ H1 ⟨rfl,rfl⟩;simp(disch:=omega) only[go_sem,↓reduceIte];refine(Dh4 G _ An4 s (by decide)).mono ?_;rintro _ H1 ⟨rfl,rfl⟩;simp(disch:=omega) only[go_sem,↓reduceIte];exact Rm.refl ⟨rfl,rfl⟩
end
section
variable {G:Nat->DVal} {H:Bb}
theorem Kc (G:Nat->DVal) (H:Bb) (s:List UInt8):Bh Tryz.prog G 82 [.str s] H (Bt (.bool (Gk s)) H):=by
 refine Bc Tryz.func82 Tryz.call82 rfl (by kernel_rfl) ?_
 match s with
 | []=>
  simp(disch:=omega) only[go_sem,↓reduceIte,List.length_nil]
  exact Rm.refl ⟨rfl,rfl⟩
 | c::r=>
  obtain⟨s,hs⟩: ∃s,s=c::r:=⟨_,rfl⟩
  have h0:s[0]? =some c:=by rw[hs];rfl
  have hpos:0<s.length:=by rw[hs];simp
  have hdef:Gk s=(Ga c&&decide (s.length<=32)&&s.all Eg&&!Bd4 s):=by rw[hs];rfl
  rw[<-hs,hdef]
  have h1: ¬(s.length:Int)<1:=by omega
  by_cases hl:s.length<=32
  ·have hl': ¬(32:Int)<(s.length:Int):=by omega
   simp(disch:=omega) only[go_sem,↓reduceIte,h1,hl',h0]
   refine(Vh G _ c).mono ?_
   rintro _ H1 ⟨rfl,rfl⟩
   cases hle:Ga c with
   | false=>
    simp(disch:=omega) only[go_sem,↓reduceIte]
    exact Rm.refl ⟨rfl,rfl⟩
   | true=>
    simp(disch:=omega) only[go_sem,↓reduceIte]
    refine(Ci5 G _ s).mono ?_
    rintro _ H1 ⟨rfl,rfl⟩
    cases hk:Bd4 s with
    | true=>
     simp(disch:=omega) only[go_sem,↓reduceIte]
     exact Rm.refl ⟨by simp,rfl⟩
    | false=>
     simp(disch:=omega) only[go_sem,↓reduceIte]
     obtain⟨I,hI⟩: ∃I:Nat->(Nat->DVal)->Bb->Prop,∀k env heap,I k env heap↔(env 0= .str s/\env 3=dI k/\k<=s.length/\(s.take k).all Eg=true/\heap=H1):=⟨_,fun _ _ _=>Iff.rfl⟩
     refine Cn3.run I (fun k=>s.length-k) 0 ((hI _ _ _).2 ?_) ?_
     ·simp(disch:=omega) only[go_sem,↓reduceIte]
      (repeat' apply And.intro)<;>(try first | rfl | assumption | omega)
     ·intro k env heap hi
      obtain⟨e0,e3,hk2,hw,rfl⟩:=(hI _ _ _).1 hi
      by_cases hlt:k<s.length
      ·have hlt':(k:Int)<(s.length:Int):=by omega
       have hg:s[k]? =some s[k]:=List.getElem?_eq_getElem hlt
       have hwd:IntKind.i64.wrap ((k:Int)+1)=((k+1:Nat):Int):=by rw[IntKind.wrap_i64];omega
       simp(disch:=omega) only[go_sem,↓reduceIte,e0,e3,hlt',hg,Int.toNat_natCast]
       refine(Bq2 G _ s[k]).mono ?_
       rintro _ H2 ⟨rfl,rfl⟩
       cases hb:Eg s[k] with
       | true=>
        simp(disch:=omega) only[go_sem,↓reduceIte,e0,e3]
        refine⟨k+1,_,Rd.refl _,(hI _ _ _).2 ?_,by omega⟩
        simp(disch:=omega) only[go_sem,↓reduceIte,e0,e3,hwd]
        (repeat' apply And.intro)<;>(try first | rfl | assumption | omega)
        rw[List.take_add_one,hg,List.all_append,hw];simpa using hb
       | false=>
        simp(disch:=omega) only[go_sem,↓reduceIte,e0,e3]
        have:s.all Eg=false:=by
         rw[List.all_eq_false];exact⟨s[k],List.getElem_mem hlt,by rw[hb];simp⟩
        exact Rm.refl ⟨by rw[this],rfl⟩
      ·have:k=s.length:=by omega
       subst this
       simp(disch:=omega) only[go_sem,↓reduceIte,e0,e3]
       rw[List.take_length] at hw
       exact Rm.refl ⟨by rw[hw],rfl⟩
  ·have hl':(32:Int)<(s.length:Int):=by omega
   simp(disch:=omega) only[go_sem,↓reduceIte,h1,hl',h0]
   exact Rm.refl ⟨by simp,rfl⟩
end
section
end
end Go.Dl

-- Chapter 3: expressions: the plain laws, part 1: trees.
namespace Go.Dl
open Go
set_option maxRecDepth 10000
mutual
inductive Ex where
 | mk (kind oper n:Int) (s:List UInt8) (l:List Ex) (a:List As) (line ent t:Int)
inductive As where
 | mk (c:List Ch) (e:Ex)
inductive Ch where
 | mk (kind:Int) (l:List Ex)
end
def Ex.kind:Ex->Int | .mk k _ _ _ _ _ _ _ _=>k
def Ex.oper:Ex->Int | .mk _ o _ _ _ _ _ _ _=>o
def Ex.n:Ex->Int | .mk _ _ n _ _ _ _ _ _=>n
def Ex.s:Ex->List UInt8 | .mk _ _ _ s _ _ _ _ _=>s
def Ex.l:Ex->List Ex | .mk _ _ _ _ l _ _ _ _=>l
def Ex.a:Ex->List As | .mk _ _ _ _ _ a _ _ _=>a
def Ex.line:Ex->Int | .mk _ _ _ _ _ _ li _ _=>li
def Ex.ent:Ex->Int | .mk _ _ _ _ _ _ _ en _=>en
def Ex.t:Ex->Int | .mk _ _ _ _ _ _ _ _ t=>t
def As.c:As->List Ch | .mk c _=>c
def As.e:As->Ex | .mk _ e=>e
def Ch.kind:Ch->Int | .mk k _=>k
def Ch.l:Ch->List Ex | .mk _ l=>l
def ex0:Ex:= .mk 0 0 0 [] [] [] 0 0 0
instance:Inhabited Ex:=⟨ex0⟩
instance:Inhabited As:=⟨.mk [] ex0⟩
instance:Inhabited Ch:=⟨.mk 0 []⟩
mutual
def Fa:Ex->Nat
 | .mk _ _ _ _ l a _ _ _=>1+Be3 l+Au4 a
def Be3:List Ex->Nat
 | []=>0
 | x::l=>Fa x+Be3 l
def Cu5:As->Nat
 | .mk c e=>Au5 c+Fa e
def Au4:List As->Nat
 | []=>0
 | x::l=>Cu5 x+Au4 l
def Dm1:Ch->Nat
 | .mk _ l=>Be3 l
def Au5:List Ch->Nat
 | []=>0
 | x::l=>Dm1 x+Au5 l
end
def Dh (x:As):List Ex:=x.c.flatMap Ch.l++ [x.e]
def parts (e:Ex):List Ex:=e.l++e.a.flatMap Dh
def Ih (l:List Ex):Nat:=(l.map Fa).sum
theorem Wy: ∀l:List Ex,Be3 l=Ih l
 | []=>rfl
 | x::l=>by rw[Be3,Wy l,Ih,Ih,List.map_cons,List.sum_cons]
theorem Mz (l m:List Ex):Ih (l++m)=Ih l+Ih m:=by simp [Ih]
theorem Ae1: ∀l:List Ch,Au5 l=Ih (l.flatMap Ch.l)
 | []=>rfl
 | .mk k x::l=>by rw[Au5,Dm1,Ae1 l,Wy,List.flatMap_cons,Mz];rfl
theorem Ci6 (x:As):Cu5 x=Ih (Dh x):=by
 cases x;rw[Cu5,Ae1,Dh,Mz];simp [Ih,As.c,As.e]
theorem Ae2: ∀l:List As,Au4 l=Ih (l.flatMap Dh)
 | []=>rfl
 | x::l=>by rw[Au4,Ci6,Ae2 l,List.flatMap_cons,Mz]
theorem Oe (e:Ex):Fa e=1+Ih (parts e):=by
 cases e;rw[Fa,Wy,Ae2,parts,Mz,Nat.add_assoc];rfl
theorem Cu6 {l:List Ex} {x:Ex} (h:x∈l):Fa x<=Ih l:=by
 induction l with
 | nil=>cases h
 | cons y l ih=>
  rw[Ih,List.map_cons,List.sum_cons];rcases List.mem_cons.1 h with rfl | h
  ·omega
  ·have:=ih h;unfold Ih at this;omega
theorem Ro {e x:Ex} (h:x∈parts e):Fa x<Fa e:=by
 rw[Oe e];have:=Cu6 h;omega
theorem Rp {e x:Ex} (h:x∈e.l):x∈parts e:=List.mem_append_left _ h
theorem Yf {e x:Ex} {a:As} (ha:a∈e.a) (h:x∈Dh a):x∈parts e:=List.mem_append_right _ (List.mem_flatMap.2 ⟨a,ha,h⟩)
theorem Ph (a:As):a.e∈Dh a:=List.mem_append_right _ (by simp)
theorem Au6 {a:As} {c:Ch} {x:Ex} (hc:c∈a.c) (h:x∈c.l):x∈Dh a:=List.mem_append_left _ (List.mem_flatMap.2 ⟨c,hc,h⟩)
theorem Ex.ind {p:Ex->Prop} (h: ∀e,(∀x∈parts e,p x)->p e) (e:Ex):p e:=by
 have key: ∀n e,Fa e<n->p e:=by
  intro n
  induction n with
  | zero=>intro e he;omega
  | succ n ih=>
   intro e he;refine h e fun x hx=>ih x ?_;have:=Ro hx;omega
 exact key _ e (Nat.lt_succ_self _)
def Gc (e:Ex):Bool:=decide (3<=e.kind)&&decide (e.kind<=8)
def Jh (e:Ex) (k:Nat):Bool:=decide (e.l.length=k)&&Gc (e.l.getD 0 ex0)
def Kv:List As->Bool
 | a::b::r=>(a.c.isEmpty || !b.c.isEmpty)&&Kv (b::r)
 | _=>true
def Da:List Ch->Bool
 | [c]=>decide (c.kind=1)&&(match c.l with | [x]=>decide (x.kind=3) | _=>false)
 | _=>false
def Em (n:Nat) (c:Ch):Bool:=
 if c.kind=1 then decide (c.l.length=1) else if c.kind=2 then decide (c.l.length=2) else decide (c.kind=3)&&decide (c.l.length=0)&&decide (n<=1)
def Fh (l:List Ch):Bool:=decide (0<l.length)&&decide (l.length<=16)&&l.all (Em l.length)
def Kd (l:List As):Bool:=decide (0<l.length)&&decide (l.length<=8)&&Kv l&&l.all fun a=>a.c.isEmpty || Da a.c
def Rq (l:List Ch):Bool:=match l with | c::_=>decide (c.kind=3) | []=>false
def Fg:List As->Bool
 | []=>true
 | a::r=>(a.c.isEmpty || Fh a.c&&(!Rq a.c || r.isEmpty))&&Fg r
def Zx:List As->Bool
 | [a]=>a.c.isEmpty
 | _=>false
def Gd (l:List As):Bool:=decide (0<l.length)&&decide (l.length<=32)&&Kv l&&!Zx l&&Fg l
def zO (e:Ex):Bool:=decide (e.oper=0)
def zN (e:Ex):Bool:=decide (e.n=0)
def zS (e:Ex):Bool:=decide (e.s= [])
def zA (e:Ex):Bool:=e.a.isEmpty
def Bf (e:Ex):Bool:=
 if e.kind=1 then e.l.isEmpty&&decide (0<=e.n)&&decide (e.n<=2147483647)&&zO e&&zS e&&zA e
 else if e.kind=2 then e.l.isEmpty&&zO e&&zN e&&zS e&&zA e
 else if e.kind=3 then e.l.isEmpty&&Gk e.s&&zO e&&zN e&&zA e
 else if e.kind=4\/e.kind=6 then Jh e 1&&Gk e.s&&zO e&&zN e&&zA e
 else if e.kind=5 then Jh e 1&&zO e&&zN e&&zS e&&zA e
 else if e.kind=7 then Jh e 1&&Kd e.a&&zO e&&zN e&&zS e
 else if e.kind=8 then Jh e 2&&zO e&&zN e&&zS e&&zA e
 else if e.kind=9 then e.l.isEmpty&&Gd e.a&&zO e&&zN e&&zS e
 else if e.kind=10 then decide (e.l.length=3)&&zO e&&zN e&&zS e&&zA e
 else if e.kind=11 then decide (e.l.length=1)&&decide (18<=e.oper)&&decide (e.oper<=21)&&zN e&&zS e&&zA e
 else if e.kind=12 then decide (e.l.length=2)&&decide (1<=e.oper)&&decide (e.oper<=17)&&zN e&&zS e&&zA e
 else if e.kind=13\/e.kind=14 then(decide (e.l.length=3) || decide (e.l.length=2)&&Gc (e.l.getD 1 ex0))&&zO e&&zN e&&zS e&&zA e
 else false
mutual
def Ef (d:Nat):Ex->Bool
 | .mk k o n s l a li en t=>decide (d<=32)&&Bf (.mk k o n s l a li en t)&&Ae3 (d+1) l&&Zy (d+1) a
def Ae3 (d:Nat):List Ex->Bool
 | []=>true
 | x::l=>Ef d x&&Ae3 d l
def Bq4 (d:Nat):As->Bool
 | .mk c e=>Zz d c&&Ef d e
def Zy (d:Nat):List As->Bool
 | []=>true
 | x::l=>Bq4 d x&&Zy d l
def Cu7 (d:Nat):Ch->Bool
 | .mk _ l=>Ae3 d l
def Zz (d:Nat):List Ch->Bool
 | []=>true
 | x::l=>Cu7 d x&&Zz d l
end
theorem Tz (d:Nat): ∀l:List Ex,Ae3 d l=l.all (Ef d)
 | []=>rfl
 | x::l=>by rw[Ae3,Tz d l,List.all_cons]
theorem Yg (d:Nat): ∀l:List Ch,Zz d l=(l.flatMap Ch.l).all (Ef d)
 | []=>rfl
 | .mk k x::l=>by rw[Zz,Cu7,Yg d l,Tz,List.flatMap_cons,List.all_append];rfl
theorem Bq5 (d:Nat) (x:As):Bq4 d x=(Dh x).all (Ef d):=by
 cases x;rw[Bq4,Yg,Dh,List.all_append];simp [As.c,As.e]
theorem Yh (d:Nat): ∀l:List As,Zy d l=(l.flatMap Dh).all (Ef d)
 | []=>rfl
 | x::l=>by rw[Zy,Bq5,Yh d l,List.flatMap_cons,List.all_append]
theorem Of (d:Nat) (e:Ex):Ef d e=(decide (d<=32)&&Bf e&&(parts e).all (Ef (d+1))):=by
 cases e;rw[Ef,Tz,Yh,parts,List.all_append,Bool.and_assoc (decide (d<=32)&&_)];rfl
def Cp (e:Ex):Bool:=Ef 1 e&&decide (Fa e<=256)
def Og (l:List Ch):Bool:=Fh l&&l.all fun c=>c.l.all Cp
mutual
def Ji:Ex->Ex->Bool
 | .mk k o n s l a _ _ _,f=>decide (k=f.kind)&&decide (o=f.oper)&&decide (n=f.n)&&decide (s=f.s)&&Nm l f.l&&Pj a f.a
def Nm:List Ex->List Ex->Bool
 | [],[]=>true
 | x::l,y::m=>Ji x y&&Nm l m
 | _,_=>false
def Rr:As->As->Bool
 | .mk c e,y=>Nn c y.c&&Ji e y.e
def Pj:List As->List As->Bool
 | [],[]=>true
 | x::l,y::m=>Rr x y&&Pj l m
 | _,_=>false
def Qh:Ch->Ch->Bool
 | .mk k l,y=>decide (k=y.kind)&&Nm l y.l
def Nn:List Ch->List Ch->Bool
 | [],[]=>true
 | x::l,y::m=>Qh x y&&Nn l m
 | _,_=>false
end
theorem Be4 (e f:Ex):Ji e f=(decide (e.kind=f.kind)&&decide (e.oper=f.oper)&&decide (e.n=f.n)&&decide (e.s=f.s)&&Nm e.l f.l&&Pj e.a f.a):=by
 cases e;rw[Ji];rfl
end Go.Dl

-- Chapter 3: expressions: the plain laws, part 2: reading.
namespace Go.Dl
open Go
set_option maxRecDepth 10000
inductive Res (α:Type) where
 | bot
 | fail (k:Nat)
 | ok (x:α) (k:Nat)
def Res.then {α β:Type}:Res α->(α->Nat->Res β)->Res β
 | .bot,_=> .bot
 | .fail k,_=> .fail k
 | .ok x k,f=>f x k
structure PS where
 expr:Nat->Res Ex
 rest:Ex->Nat->Res Ex
 restL:Nat->Ex->Nat->Res Ex
 relation:Ex->Nat->Res Ex
 simple:Nat->Res Ex
 addL:Ex->Nat->Res Ex
 term:Nat->Res Ex
 mulL:Ex->Nat->Res Ex
 factor:Nat->Res Ex
 primary:Nat->Res Ex
 paren:Nat->Res Ex
 assoc:Nat->Res As
 assocsL:List As->Nat->Res (List As)
 choice:Nat->Res Ch
 choicesL:List Ch->Nat->Res (List Ch)
 arg:Nat->Res As
 argsL:List As->Nat->Res (List As)
 name:Nat->Res Ex
 nameL:Int->Ex->Nat->Res Ex
def Ea1:PS:=⟨fun _=> .bot,fun _ _=> .bot,fun _ _ _=> .bot,fun _ _=> .bot,fun _=> .bot,fun _ _=> .bot,fun _=> .bot,fun _ _=> .bot,fun _=> .bot,fun _=> .bot,fun _=> .bot,fun _=> .bot,fun _ _=> .bot,fun _=> .bot,fun _ _=> .bot,fun _=> .bot,fun _ _=> .bot,fun _=> .bot,fun _ _ _=> .bot⟩
def Dm2:List UInt8:= [116,104,101,110]
def Dm3:List UInt8:= [101,108,115,101]
def wIf:List UInt8:= [105,102]
def wIn:List UInt8:= [105,110]
def Dt3:List UInt8:= [110,111,116]
def Eh7:List UInt8:= [97,108,108]
def Ea2:List UInt8:= [110,117,108,108]
def Dh5:List UInt8:= [111,116,104,101,114,115]
def Dt4:List UInt8:= [97,110,100]
def wOr:List UInt8:= [111,114]
def Ea3:List UInt8:= [120,111,114]
def Ea4:List UInt8:= [109,111,100]
def Ea5:List UInt8:= [114,101,109]
def Eh8:List UInt8:= [97,98,115]
def Be5:List UInt8:= [40]
def Cu8:List UInt8:= [41]
def Cu9:List UInt8:= [44]
def Ea6:List UInt8:= [124]
def Dt5:List UInt8:= [46]
def Cv0:List UInt8:= [46,46]
def Cv1:List UInt8:= [39]
def Au7:List UInt8:= [61,62]
def Eh9:List (List (List UInt8)):= [[],[[43]],[[45]],[[42]],[[47]],[Ea4],[Ea5],[[61]],[[47,61]],[[60]],[[60,61]],[[62]],[[62,61]],[Dt4],[wOr],[Ea3],[Dt4,Dm2],[wOr,Dm3],[[43]],[[45]],[Eh8],[Dt3]]
def Cv2 (o:Nat):List (List UInt8):=Eh9.getD o []
section
variable (l:List Tok)
def tk (k:Nat):Tok:=l.getD k Eh5
def Cv3 (s:List UInt8):Int:=if Bd4 s then 2 else 4
def isW (k:Nat):List (List UInt8)->Bool
 | []=>true
 | s::r=>decide ((tk l k).kind=Cv3 s)&&decide ((tk l k).text=s)&&isW (k+1) r
def opF (want k:Nat):List Nat->Nat×Nat
 | []=>(0,k)
 | o::r=>if isW l k (Cv2 o) then(if want≠0/\o≠want then(0,k) else(o,k+(Cv2 o).length)) else opF want k r
def Dh6 (o:Nat) (a b:Ex):Ex:= .mk 12 o 0 [] [a,b] [] a.line 0 0
def Ea7 (o:Nat) (line:Int) (x:Ex):Ex:=if o=0 then x else .mk 11 o 0 [] [x] [] line 0 0
def Be6 {α:Type} (s:List UInt8) (k:Nat) (f:Nat->Res α):Res α:=if isW l k [s] then f (k+1) else .fail k
def Cv4 {α:Type} (k:Nat) (f:List UInt8->Nat->Res α):Res α:=if(tk l k).kind=1 then f (tk l k).text (k+1) else .fail k
def Ei0 (line:Int) (a:List As):Ex:=match a with
 | [x]=>if x.c= [] then x.e else .mk 9 0 0 [] [] a line 0 0
 | _=> .mk 9 0 0 [] [] a line 0 0
def Cv5:List Nat:= [17,16,15,14,13]
def Dt6:List Nat:= [12,11,10,9,8,7]
def Dh7:List Nat:= [19,18]
def Dt7:List Nat:= [2,1]
def Dt8:List Nat:= [6,5,4,3]
def Dt9:List Nat:= [21,20]
def inK (x:Ex) (kind:Int) (k:Nat) (p:PS):Res Ex:=
 (p.simple k).then fun y k=>if isW l k [Cv0] then(p.simple (k+1)).then fun z k=> .ok (.mk kind 0 0 [] [x,y,z] [] x.line 0 0) k
  else if Gc y then .ok (.mk kind 0 0 [] [x,y] [] x.line 0 0) k else .fail k
def Ea8 (p:PS):PS where
 expr k:=(p.simple k).then fun x k=>p.rest x k
 rest x k:=(p.relation x k).then fun x k=>p.restL (opF l 0 k Cv5).1 x k
 restL o x k:=if o=0 then .ok x k else
  let q:=opF l o k Cv5
  if q.1=0 then .ok x k else(p.simple q.2).then fun y k=>(p.relation y k).then fun y k=>p.restL o (Dh6 o x y) k
 relation x k:=
  let q:=opF l 0 k Dt6
  if q.1≠0 then(p.simple q.2).then fun y k=> .ok (Dh6 q.1 x y) k
  else if isW l k [wIn] then inK l x 13 (k+1) p
  else if isW l k [Dt3,wIn] then inK l x 14 (k+2) p
  else .ok x k
 simple k:=
  let q:=opF l 0 k Dh7
  (p.term q.2).then fun x k'=>p.addL (Ea7 q.1 (tk l k).line x) k'
 addL x k:=
  let q:=opF l 0 k Dt7
  if q.1=0 then .ok x k else(p.term q.2).then fun y k=>p.addL (Dh6 q.1 x y) k
 term k:=(p.factor k).then fun x k=>p.mulL x k
 mulL x k:=
  let q:=opF l 0 k Dt8
  if q.1=0 then .ok x k else(p.factor q.2).then fun y k=>p.mulL (Dh6 q.1 x y) k
 factor k:=
  let q:=opF l 0 k Dt9
  (p.primary q.2).then fun x k'=> .ok (Ea7 q.1 (tk l k).line x) k'
 primary k:=
  if(tk l k).kind=3 then .ok (.mk 1 0 (tk l k).n [] [] [] (tk l k).line 0 0) (k+1)
  else if isW l k [Ea2] then .ok (.mk 2 0 0 [] [] [] (tk l k).line 0 0) (k+1)
  else if isW l k [Be5] then p.paren k
  else p.name k
 paren k:=Be6 l Be5 k fun k1=>
  if isW l k1 [wIf] then(p.expr (k1+1)).then fun a k=>Be6 l Dm2 k fun k=>(p.expr k).then fun b k=>Be6 l Dm3 k fun k=>(p.expr k).then fun c k'=>Be6 l Cu8 k' fun k'=> .ok (.mk 10 0 0 [] [a,b,c] [] (tk l (k1-1)).line 0 0) k'
  else(p.assoc k1).then fun a k=>(p.assocsL [a] k).then fun az k=>Be6 l Cu8 k fun k=> .ok (Ei0 (tk l (k1-1)).line az) k
 assoc k:=(p.choice k).then fun c k=>
  if c.kind=1/\isW l k [Ea6]=false/\isW l k [Au7]=false then .ok (.mk [] (c.l.getD 0 ex0)) k
  else if c.kind=3 then Be6 l Au7 k fun k=>(p.expr k).then fun e k=> .ok (.mk [c] e) k
  else(p.choicesL [c] k).then fun cs k=>Be6 l Au7 k fun k=>(p.expr k).then fun e k=> .ok (.mk cs e) k
 assocsL az k:=if isW l k [Cu9] then(p.assoc (k+1)).then fun a k=>p.assocsL (az++ [a]) k else .ok az k
 choice k:=if isW l k [Dh5] then .ok (.mk 3 []) (k+1) else
  (p.simple k).then fun x k=>if isW l k [Cv0] then(p.simple (k+1)).then fun y k=> .ok (.mk 2 [x,y]) k
   else(p.rest x k).then fun x k=> .ok (.mk 1 [x]) k
 choicesL cs k:=if isW l k [Ea6] then(p.choice (k+1)).then fun c k=>p.choicesL (cs++ [c]) k else .ok cs k
 arg k:=if(tk l k).kind=1/\isW l (k+1) [Au7]=true then(p.expr (k+2)).then fun e k'=> .ok (.mk [.mk 1 [.mk 3 0 0 (tk l k).text [] [] (tk l k).line 0 0]] e) k'
  else(p.expr k).then fun e k=> .ok (.mk [] e) k
 argsL az k:=if isW l k [Cu9] then(p.arg (k+1)).then fun a k=>p.argsL (az++ [a]) k else .ok az k
 name k:=Cv4 l k fun s k1=>p.nameL (tk l k).line (.mk 3 0 0 s [] [] (tk l k).line 0 0) k1
 nameL line x k:=
  if isW l k [Dt5,Eh7] then p.nameL line (.mk 5 0 0 [] [x] [] line 0 0) (k+2)
  else if isW l k [Dt5] then Cv4 l (k+1) fun s k=>p.nameL line (.mk 4 0 0 s [x] [] line 0 0) k
  else if isW l k [Be5] then(p.arg (k+1)).then fun a k=>(p.argsL [a] k).then fun az k=>Be6 l Cu8 k fun k=>p.nameL line (.mk 7 0 0 [] [x] az line 0 0) k
  else if isW l k [Cv1,Be5] then(p.paren (k+1)).then fun y k=>p.nameL line (.mk 8 0 0 [] [x,y] [] line 0 0) k
  else if isW l k [Cv1] then Cv4 l (k+1) fun s k=>p.nameL line (.mk 6 0 0 s [x] [] line 0 0) k
  else .ok x k
def P:Nat->PS
 | 0=>Ea1
 | n+1=>Ea8 l (P n)
end
end Go.Dl

-- Chapter 3: expressions as data.
namespace Go.Dl
open Go Go.Proofs
set_option maxRecDepth 100000
mutual
def dEx:Ex->List DVal
 | .mk k o n s l a li en t=> [.int .u8 k, .int .u8 o, .int .i64 n, .str s, .vslice (Cv6 l) l.length, .vslice (Dh8 a) a.length, .int .i64 li, .int .i64 en, .int .i64 t]
def Cv6:List Ex->List DVal
 | []=> []
 | x::l=>dEx x++Cv6 l
def dAs:As->List DVal
 | .mk c e=> .vslice (Dh9 c) c.length::dEx e
def Dh8:List As->List DVal
 | []=> []
 | x::l=>dAs x++Dh8 l
def dCh:Ch->List DVal
 | .mk k l=> [.int .u8 k, .vslice (Cv6 l) l.length]
def Dh9:List Ch->List DVal
 | []=> []
 | x::l=>dCh x++Dh9 l
end
theorem Wz: ∀l:List Ex,Cv6 l=l.flatMap dEx
 | []=>rfl
 | x::l=>by rw[Cv6,Wz l,List.flatMap_cons]
theorem An6: ∀l:List As,Dh8 l=l.flatMap dAs
 | []=>rfl
 | x::l=>by rw[Dh8,An6 l,List.flatMap_cons]
theorem An7: ∀l:List Ch,Dh9 l=l.flatMap dCh
 | []=>rfl
 | x::l=>by rw[Dh9,An7 l,List.flatMap_cons]
theorem Au8 (k o n:Int) (s:List UInt8) (l:List Ex) (a:List As) (li en t:Int):dEx (.mk k o n s l a li en t)= [.int .u8 k, .int .u8 o, .int .i64 n, .str s, .vslice (l.flatMap dEx) l.length, .vslice (a.flatMap dAs) a.length, .int .i64 li, .int .i64 en, .int .i64 t]:=by
 rw[dEx,Wz,An6]
theorem Pk (e:Ex):dEx e= [.int .u8 e.kind, .int .u8 e.oper, .int .i64 e.n, .str e.s, .vslice (e.l.flatMap dEx) e.l.length, .vslice (e.a.flatMap dAs) e.a.length, .int .i64 e.line, .int .i64 e.ent, .int .i64 e.t]:=by
 cases e;rw[Au8];rfl
theorem Ae4 (x:As):dAs x= .vslice (x.c.flatMap dCh) x.c.length::dEx x.e:=by
 cases x;rw[dAs,An7];rfl
theorem Ae5 (x:Ch):dCh x= [.int .u8 x.kind, .vslice (x.l.flatMap dEx) x.l.length]:=by
 cases x;rw[dCh,Wz];rfl
theorem Aa (e:Ex):(dEx e).length=9:=by rw[Pk];rfl
theorem Cr (e:As):(dAs e).length=10:=by rw[Ae4,List.length_cons,Aa]
theorem Cu (e:Ch):(dCh e).length=2:=by rw[Ae5];rfl
theorem Dm4 (e:Ex):(dEx e).take 9=dEx e:=List.take_of_length_le (by rw[Aa];decide)
theorem Ea9 (e:As):(dAs e).take 10=dAs e:=List.take_of_length_le (by rw[Cr];decide)
theorem Eb0 (e:Ch):(dCh e).take 2=dCh e:=List.take_of_length_le (by rw[Cu];decide)
theorem Eb1 (e:Ex):(dEx e).drop 9= []:=List.drop_of_length_le (by rw[Aa];decide)
theorem Jj (e:Ex):(dEx e).all (fun d=>d.one)=true:=by rw[Pk];rfl
theorem Di0 (e:As):(dAs e).all (fun d=>d.one)=true:=by rw[Ae4,List.all_cons,Jj];rfl
theorem Di1 (e:Ch):(dCh e).all (fun d=>d.one)=true:=by rw[Ae5];rfl
theorem Dm5 (e:Ex):(dEx e)[0]? =some (.int .u8 e.kind):=by rw[Pk];rfl
theorem Eb2 (e:Ex):(dEx e)[1]? =some (.int .u8 e.oper):=by rw[Pk];rfl
theorem Eb3 (e:Ex):(dEx e)[2]? =some (.int .i64 e.n):=by rw[Pk];rfl
theorem Eb4 (e:Ex):(dEx e)[3]? =some (.str e.s):=by rw[Pk];rfl
theorem Eb5 (e:Ex):(dEx e)[4]? =some (.vslice (e.l.flatMap dEx) e.l.length):=by rw[Pk];rfl
theorem Eb6 (e:Ex):(dEx e)[5]? =some (.vslice (e.a.flatMap dAs) e.a.length):=by rw[Pk];rfl
theorem Yi (e:As):(dAs e)[0]? =some (.vslice (e.c.flatMap dCh) e.c.length):=by rw[Ae4];rfl
theorem Ae6 (e:As):((dAs e).drop 1).take 9=dEx e.e:=by rw[Ae4];exact Dm4 _
theorem Bx3 (e:Ch):(dCh e)[0]? =some (.int .u8 e.kind):=by rw[Ae5];rfl
theorem An8 (e:Ch):(dCh e)[1]? =some (.vslice (e.l.flatMap dEx) e.l.length):=by rw[Ae5];rfl
def dXs (l:List Ex):DVal:= .vslice (l.flatMap dEx) l.length
def dAl (l:List As):DVal:= .vslice (l.flatMap dAs) l.length
def dCl (l:List Ch):DVal:= .vslice (l.flatMap dCh) l.length
attribute [go_sem] Aa Cr Cu Dm4 Ea9 Eb0 Eb1 Jj Di0 Di1 Dm5 Eb2 Eb3 Eb4 Eb5 Eb6 Yi Ae6 Bx3 An8 List.append_nil
section
variable {G:Nat->DVal} {H:Bb}
theorem Rs (G:Nat->DVal) (H:Bb) (e:Ex):Bh Tryz.prog G 212 [.agg (dEx e)] H (Bt (.bool (Gc e)) H):=by
 refine Bc Tryz.func212 Tryz.call212 rfl (by kernel_rfl) ?_;simp(disch:=omega) only[go_sem,↓reduceIte,DVal.cells];intro r hr;dsimp only at hr;by_cases h1:3<=e.kind
 ·simp(disch:=omega) only[go_sem,↓reduceIte,h1];exact Rm.dropA r hr (Rm.refl ⟨by rw[Gc,decide_eq_true h1,Bool.true_and],rfl⟩)
 ·simp(disch:=omega) only[go_sem,↓reduceIte,h1];exact Rm.dropA r hr (Rm.refl ⟨by rw[Gc,decide_eq_false h1,Bool.false_and],rfl⟩)
theorem Rt (G:Nat->DVal) (H:Bb) (e:Ex):Bh Tryz.prog G 203 [.agg (dEx e)] H (Bt (.bool (Gc e)) H):=by
 refine Bc Tryz.func203 Tryz.call203 rfl (by kernel_rfl) ?_;simp(disch:=omega) only[go_sem,↓reduceIte,DVal.cells];intro r hr;dsimp only at hr;by_cases h3:e.kind=3
 ·simp(disch:=omega) only[go_sem,↓reduceIte,h3];exact Rm.dropA r hr (Rm.refl ⟨by rw[Gc,h3];rfl,rfl⟩)
 by_cases h4:e.kind=4
 ·simp(disch:=omega) only[go_sem,↓reduceIte,h3,h4];exact Rm.dropA r hr (Rm.refl ⟨by rw[Gc,h4];rfl,rfl⟩)
 by_cases h5:e.kind=5
 ·simp(disch:=omega) only[go_sem,↓reduceIte,h3,h4,h5];exact Rm.dropA r hr (Rm.refl ⟨by rw[Gc,h5];rfl,rfl⟩)
 by_cases h6:e.kind=6
 ·simp(disch:=omega) only[go_sem,↓reduceIte,h3,h4,h5,h6];exact Rm.dropA r hr (Rm.refl ⟨by rw[Gc,h6];rfl,rfl⟩)
 by_cases h7:e.kind=7
 ·simp(disch:=omega) only[go_sem,↓reduceIte,h3,h4,h5,h6,h7];exact Rm.dropA r hr (Rm.refl ⟨by rw[Gc,h7];rfl,rfl⟩)
 by_cases h8:e.kind=8
 ·simp(disch:=omega) only[go_sem,↓reduceIte,h3,h4,h5,h6,h7,h8];exact Rm.dropA r hr (Rm.refl ⟨by rw[Gc,h8];rfl,rfl⟩)
 ·simp(disch:=omega) only[go_sem,↓reduceIte,h3,h4,h5,h6,h7,h8];refine Rm.dropA r hr (Rm.refl ⟨?_,rfl⟩);rw[Gc,<-Bool.decide_and,decide_eq_false (by omega)]
end
end Go.Dl

-- Chapter 3: slices of trees: the library's functions.
namespace Go.Dl
open Go Go.Proofs
set_option maxRecDepth 100000
mutual
def Hu:Ex->Nat
 | .mk _ _ _ _ l a _ _ _=>1+Kw l+Mb a
def Kw:List Ex->Nat
 | []=>0
 | x::l=>Hu x+Kw l
def Zj:As->Nat
 | .mk c e=>Jr c+Hu e
def Mb:List As->Nat
 | []=>0
 | x::l=>Zj x+Mb l
def Be7:Ch->Nat
 | .mk _ l=>1+Kw l
def Jr:List Ch->Nat
 | []=>0
 | x::l=>Be7 x+Jr l
end
theorem Be8 (e:Ex):1<=Hu e:=by cases e;rw[Hu];omega
theorem Cv7 (a:As):1<=Zj a:=by cases a;rw[Zj];have:=Be8 (‹Ex›);omega
theorem Cv8 (c:Ch):1<=Be7 c:=by cases c;rw[Be7];omega
theorem Pm (e:Ex):Hu e=1+Kw e.l+Mb e.a:=by cases e;rw[Hu];rfl
theorem Na (a:As):Zj a=Jr a.c+Hu a.e:=by cases a;rw[Zj];rfl
theorem Nb (c:Ch):Be7 c=1+Kw c.l:=by cases c;rw[Be7];rfl
theorem Ru: ∀ {l:List Ex} {x:Ex},x∈l->Hu x<=Kw l
 | y::l,x,h=>by
  rw[Kw];rcases List.mem_cons.1 h with rfl | h
  ·omega
  ·have:=Ru h;omega
theorem Sr: ∀ {l:List As} {x:As},x∈l->Zj x<=Mb l
 | y::l,x,h=>by
  rw[Mb];rcases List.mem_cons.1 h with rfl | h
  ·omega
  ·have:=Sr h;omega
theorem Is: ∀ {l:List Ch} {x:Ch},x∈l->Be7 x<=Jr l
 | y::l,x,h=>by
  rw[Jr];rcases List.mem_cons.1 h with rfl | h
  ·omega
  ·have:=Is h;omega
theorem Hd: ∀l:List Ex,l.length<=Kw l
 | []=>Nat.le_refl _
 | x::l=>by rw[Kw,List.length_cons];have:=Hd l;have:=Be8 x;omega
theorem Ss: ∀l:List As,l.length<=Mb l
 | []=>Nat.le_refl _
 | x::l=>by rw[Mb,List.length_cons];have:=Ss l;have:=Cv7 x;omega
theorem Ho: ∀l:List Ch,l.length<=Jr l
 | []=>Nat.le_refl _
 | x::l=>by rw[Jr,List.length_cons];have:=Ho l;have:=Cv8 x;omega
theorem Bx4 {e:Ex}:e.l.length<=Hu e:=by have:=Hd e.l;rw[Pm];omega
theorem Bx5 {e:Ex}:e.a.length<=Hu e:=by have:=Ss e.a;rw[Pm];omega
theorem Du0 {e x:Ex} (h:x∈e.l):Hu x<Hu e:=by have:=Ru h;rw[Pm e];omega
theorem Ae7 {e:Ex} {a:As} (h:a∈e.a):Zj a<Hu e:=by have:=Sr h;rw[Pm e];omega
theorem Di2 (G:Nat->DVal) (H:Bb) (p:Ex->Bool) (l:List Ex) (g:FuncId) (xs ys:List DVal) (hl:l.length<=1099511627776)
  (hp: ∀x∈l,Bh Tryz.prog G g (xs++ [.agg (dEx x)]++ys) H (Bt (.bool (p x)) H)):
  Bh Tryz.prog G 213 [.vslice (l.flatMap dEx) l.length, .func (.func g) xs ys] H (Bt (dI (Zi p l)) H):=by
 refine Bc Tryz.func213 Tryz.call213 rfl (by kernel_rfl) ?_;simp(disch:=omega) only[go_sem,↓reduceIte];refine Cn3.run (fun(i:Nat) env heap=>heap=H/\env 0= .vslice (l.flatMap dEx) l.length/\env 1= .func (.func g) xs ys/\env 7=dI l.length/\env 8=dI i/\i<=l.length/\ ∀x∈l.take i,p x=false) (fun i=>l.length-i) 0 ?_ ?_
 ·simp(disch:=omega) only[go_sem,↓reduceIte];simp
 ·rintro i env heap ⟨rfl,h0,h1,h7,h8,hi,hn⟩;by_cases hlt:i<l.length
  ·have Cc:=Cm Aa l i hlt;simp(disch:=omega) only[go_sem,↓reduceIte,h0,h1,h7,h8,Cc,Bq Aa];have hc:=hp l[i] (List.getElem_mem hlt)
   skip
   refine hc.mono ?_;rintro _ H ⟨rfl,rfl⟩;cases hx:p l[i] with
   | true=>
    simp(disch:=omega) only[go_sem,↓reduceIte,h0,h1,h7,h8];exact Rm.refl ⟨by rw[So hlt hx hn],rfl⟩
   | false=>
    simp(disch:=omega) only[go_sem,↓reduceIte,h0,h1,h7,h8];refine⟨i+1,_,Rd.refl _, ?_,by omega⟩;simp(disch:=omega) only[go_sem,↓reduceIte,h0,h1,h7,h8];(repeat' apply And.intro)<;>(try first | rfl | assumption | omega);exact Hm hlt hn hx
  ·simp(disch:=omega) only[go_sem,↓reduceIte,h0,h1,h7,h8];have:i=l.length:=by omega
   subst this;rw[List.take_length] at hn;exact Rm.refl ⟨by rw[Sp hn],rfl⟩
theorem Ua (G:Nat->DVal) (H:Bb) (p:Ex->Bool) (l:List Ex) (g:FuncId) (xs ys:List DVal) (hl:l.length<=1099511627776)
  (hp: ∀x∈l,Bh Tryz.prog G g (xs++ [.agg (dEx x)]++ys) H (Bt (.bool (p x)) H)):
  Bh Tryz.prog G 149 [.vslice (l.flatMap dEx) l.length, .func (.func g) xs ys] H (Bt (.bool (l.any p)) H):=by
 refine Bc Tryz.func149 Tryz.call149 rfl (by kernel_rfl) ?_;simp(disch:=omega) only[go_sem,↓reduceIte];refine(Di2 G H p l g xs ys hl hp).mono ?_;rintro _ H ⟨rfl,rfl⟩;simp(disch:=omega) only[go_sem,↓reduceIte];exact Rm.refl ⟨by rw[Od],rfl⟩
theorem Di3 (G:Nat->DVal) (H:Bb) (p:As->Bool) (l:List As) (g:FuncId) (xs ys:List DVal) (hl:l.length<=1099511627776)
  (hp: ∀x∈l,Bh Tryz.prog G g (xs++ [.agg (dAs x)]++ys) H (Bt (.bool (p x)) H)):
  Bh Tryz.prog G 296 [.vslice (l.flatMap dAs) l.length, .func (.func g) xs ys] H (Bt (dI (Zi p l)) H):=by
 refine Bc Tryz.func296 Tryz.call296 rfl (by kernel_rfl) ?_;simp(disch:=omega) only[go_sem,↓reduceIte];refine Cn3.run (fun(i:Nat) env heap=>heap=H/\env 0= .vslice (l.flatMap dAs) l.length/\env 1= .func (.func g) xs ys/\env 7=dI l.length/\env 8=dI i/\i<=l.length/\ ∀x∈l.take i,p x=false) (fun i=>l.length-i) 0 ?_ ?_
 ·simp(disch:=omega) only[go_sem,↓reduceIte];simp
 ·rintro i env heap ⟨rfl,h0,h1,h7,h8,hi,hn⟩;by_cases hlt:i<l.length
  ·have Cc:=Cm Cr l i hlt;simp(disch:=omega) only[go_sem,↓reduceIte,h0,h1,h7,h8,Cc,Bq Cr];have hc:=hp l[i] (List.getElem_mem hlt)
   skip
   refine hc.mono ?_;rintro _ H ⟨rfl,rfl⟩;cases hx:p l[i] with
   | true=>
    simp(disch:=omega) only[go_sem,↓reduceIte,h0,h1,h7,h8];exact Rm.refl ⟨by rw[So hlt hx hn],rfl⟩
   | false=>
    simp(disch:=omega) only[go_sem,↓reduceIte,h0,h1,h7,h8];refine⟨i+1,_,Rd.refl _, ?_,by omega⟩;simp(disch:=omega) only[go_sem,↓reduceIte,h0,h1,h7,h8];(repeat' apply And.intro)<;>(try first | rfl | assumption | omega);exact Hm hlt hn hx
  ·simp(disch:=omega) only[go_sem,↓reduceIte,h0,h1,h7,h8];have:i=l.length:=by omega
   subst this;rw[List.take_length] at hn;exact Rm.refl ⟨by rw[Sp hn],rfl⟩
theorem Bq6 (G:Nat->DVal) (H:Bb) (p:As->Bool) (l:List As) (g:FuncId) (xs ys:List DVal) (hl:l.length<=1099511627776)
  (hp: ∀x∈l,Bh Tryz.prog G g (xs++ [.agg (dAs x)]++ys) H (Bt (.bool (p x)) H)):
  Bh Tryz.prog G 258 [.vslice (l.flatMap dAs) l.length, .func (.func g) xs ys] H (Bt (.bool (l.any p)) H):=by
 refine Bc Tryz.func258 Tryz.call258 rfl (by kernel_rfl) ?_;simp(disch:=omega) only[go_sem,↓reduceIte];refine(Di3 G H p l g xs ys hl hp).mono ?_;rintro _ H ⟨rfl,rfl⟩;simp(disch:=omega) only[go_sem,↓reduceIte];exact Rm.refl ⟨by rw[Od],rfl⟩
theorem Di4 (G:Nat->DVal) (H:Bb) (p:Ch->Bool) (l:List Ch) (g:FuncId) (xs ys:List DVal) (hl:l.length<=1099511627776)
  (hp: ∀x∈l,Bh Tryz.prog G g (xs++ [.agg (dCh x)]++ys) H (Bt (.bool (p x)) H)):
  Bh Tryz.prog G 265 [.vslice (l.flatMap dCh) l.length, .func (.func g) xs ys] H (Bt (dI (Zi p l)) H):=by
 refine Bc Tryz.func265 Tryz.call265 rfl (by kernel_rfl) ?_;simp(disch:=omega) only[go_sem,↓reduceIte];refine Cn3.run (fun(i:Nat) env heap=>heap=H/\env 0= .vslice (l.flatMap dCh) l.length/\env 1= .func (.func g) xs ys/\env 7=dI l.length/\env 8=dI i/\i<=l.length/\ ∀x∈l.take i,p x=false) (fun i=>l.length-i) 0 ?_ ?_
 ·simp(disch:=omega) only[go_sem,↓reduceIte];simp
 ·rintro i env heap ⟨rfl,h0,h1,h7,h8,hi,hn⟩;by_cases hlt:i<l.length
  ·have Cc:=Cm Cu l i hlt;simp(disch:=omega) only[go_sem,↓reduceIte,h0,h1,h7,h8,Cc,Bq Cu];have hc:=hp l[i] (List.getElem_mem hlt)
   skip
   refine hc.mono ?_;rintro _ H ⟨rfl,rfl⟩;cases hx:p l[i] with
   | true=>
    simp(disch:=omega) only[go_sem,↓reduceIte,h0,h1,h7,h8];exact Rm.refl ⟨by rw[So hlt hx hn],rfl⟩
   | false=>
    simp(disch:=omega) only[go_sem,↓reduceIte,h0,h1,h7,h8];refine⟨i+1,_,Rd.refl _, ?_,by omega⟩;simp(disch:=omega) only[go_sem,↓reduceIte,h0,h1,h7,h8];(repeat' apply And.intro)<;>(try first | rfl | assumption | omega);exact Hm hlt hn hx
  ·simp(disch:=omega) only[go_sem,↓reduceIte,h0,h1,h7,h8];have:i=l.length:=by omega
   subst this;rw[List.take_length] at hn;exact Rm.refl ⟨by rw[Sp hn],rfl⟩
theorem Ae8 (G:Nat->DVal) (H:Bb) (p:Ch->Bool) (l:List Ch) (g:FuncId) (xs ys:List DVal) (hl:l.length<=1099511627776)
  (hp: ∀x∈l,Bh Tryz.prog G g (xs++ [.agg (dCh x)]++ys) H (Bt (.bool (p x)) H)):
  Bh Tryz.prog G 221 [.vslice (l.flatMap dCh) l.length, .func (.func g) xs ys] H (Bt (.bool (l.any p)) H):=by
 refine Bc Tryz.func221 Tryz.call221 rfl (by kernel_rfl) ?_;simp(disch:=omega) only[go_sem,↓reduceIte];refine(Di4 G H p l g xs ys hl hp).mono ?_;rintro _ H ⟨rfl,rfl⟩;simp(disch:=omega) only[go_sem,↓reduceIte];exact Rm.refl ⟨by rw[Od],rfl⟩
end Go.Dl

-- Chapter 3: what is valid: arguments, choices, associations.
namespace Go.Dl
open Go Go.Proofs
set_option maxRecDepth 100000
theorem Xa: ∀ {l:List As},Kv l=true↔ ∀i (h:i+1<l.length),(l[i].c.isEmpty || !l[i+1].c.isEmpty)=true
 | []=>⟨fun _ i h=>absurd h (by simp),fun _=>rfl⟩
 | [a]=>⟨fun _ i h=>absurd h (by simp),fun _=>rfl⟩
 | a::b::r=>by
  rw[Kv,Bool.and_eq_true,Xa (l:=b::r)];constructor
  ·rintro⟨h1,h2⟩ i h;cases i with
   | zero=>exact h1
   | succ i=>exact h2 i (by simpa using h)
  ·intro h;exact⟨h 0 (by simp),fun i hi=>h (i+1) (by simpa using hi)⟩
theorem Aq {α:Type} (l:List α):l.isEmpty=decide (l.length=0):=by cases l<;>rfl
def An9 (a b:As):Int:=(if(a.c.length:Int)<1 then(a.c.length:Int) else 1)-(if(b.c.length:Int)<1 then(b.c.length:Int) else 1)
section
variable {G:Nat->DVal} {H:Bb}
theorem Ak6 (G:Nat->DVal) (H:Bb) (a b:As):Bh Tryz.prog G 295 [.agg (dAs a), .agg (dAs b)] H (Bt (dI (An9 a b)) H):=by
 have hw:IntKind.i64.wrap ((if(a.c.length:Int)<1 then(a.c.length:Int) else 1)-(if(b.c.length:Int)<1 then(b.c.length:Int) else 1))=An9 a b:=by unfold An9;rw[IntKind.wrap_i64];split<;>split<;>omega
 refine Bc Tryz.func295 Tryz.call295 rfl (by kernel_rfl) ?_;simp(disch:=omega) only[go_sem,↓reduceIte,DVal.cells];intro r2 hr2;dsimp only at hr2;simp(disch:=omega) only[go_sem,↓reduceIte,DVal.cells];intro r3 hr3;dsimp only at hr3;obtain⟨m2,m1,hr3'⟩:=Dl9.1 hr3;simp(disch:=omega) only[go_sem,↓reduceIte,m1,m2,hw];exact Rm.sub (show Sub H _ from(by repeat (first | exact Sub.refl _ | assumption | refine Sub.up ?_ (by assumption) _))) (Rm.refl ⟨rfl,rfl⟩)
theorem Ak7 (G:Nat->DVal) (H:Bb) (l:List As) (hl:l.length<=1099511627776):
  Bh Tryz.prog G 294 [.vslice (l.flatMap dAs) l.length, .func (.func 295) [] []] H (Bt (.bool (Kv l)) H):=by
 have hw:IntKind.i64.wrap ((l.length:Int)-1)=(l.length:Int)-1:=by rw[IntKind.wrap_i64];omega
 refine Bc Tryz.func294 Tryz.call294 rfl (by kernel_rfl) ?_;simp(disch:=omega) only[go_sem,↓reduceIte,hw];refine Cn3.run (fun(j:Nat) env heap=>heap=H/\env 0= .vslice (l.flatMap dAs) l.length/\env 1= .func (.func 295) [] []/\env 5=dI ((j:Int)-1)/\j<=l.length/\ ∀i (_:j<=i+1) (h:i+1<l.length),(l[i].c.isEmpty || !l[i+1].c.isEmpty)=true) (fun j=>j) l.length ?_ ?_
 ·simp(disch:=omega) only[go_sem,↓reduceIte];(repeat' apply And.intro)<;>(try first | rfl | assumption | omega)
 ·rintro j env heap ⟨rfl,h0,h1,h5,hj,hn⟩;by_cases hlt:1<j
  ·obtain⟨i,rfl⟩: ∃i,j=i+2:=⟨j-2,by omega⟩;have e5:((i+2:Nat):Int)-1=((i+1:Nat):Int):=by omega
   have hg1:=Cm Cr l (i+1) (by omega);have hg0:=Cm Cr l i (by omega);rw[e5] at h5;have hw2:IntKind.i64.wrap (((i+1:Nat):Int)-1)=(i:Int):=by rw[IntKind.wrap_i64];omega
   simp(disch:=omega) only[go_sem,↓reduceIte,h0,h1,h5];refine Gs (by kernel_rfl) (.take 0 (.take 1 (.take 2 (.take 3 (.take 4 (.take 5 (.take 6 (.take 7 (.take 8 (.take 9 (.go 10 [] (.take 11 .done)))))))))))) (by kernel_rfl) ?_;simp(disch:=omega) only[go_sem,↓reduceIte,h0,h1,h5,hg1,hg0,hw2,Bq Cr];refine(Ak6 G _ l[i+1] l[i]).mono ?_;rintro _ H ⟨rfl,rfl⟩;by_cases c:An9 l[i+1] l[i]<0
   ·simp(disch:=omega) only[go_sem,↓reduceIte,h0,h1,h5,c];refine Rm.refl ⟨?_,rfl⟩;have:Kv l=false:=by
     rw[<-Bool.not_eq_true,Xa];intro h;have:=h i (by omega);rw[Aq,Aq,Bool.or_eq_true,Bool.not_eq_true',decide_eq_true_eq,decide_eq_false_iff_not] at this;unfold An9 at c;split at c<;>split at c<;>omega
    rw[this]
   ·simp(disch:=omega) only[go_sem,↓reduceIte,h0,h1,h5,hw2,c];refine⟨i+1,_,Rd.refl _, ?_,by omega⟩;simp(disch:=omega) only[go_sem,↓reduceIte,h0,h1,h5,hw2];(repeat' apply And.intro)<;>(try first | rfl | assumption | omega)
    ·rw[show((i+1:Nat):Int)-1=i by omega]
    intro i' hi1 hi2;by_cases e:i'=i
    ·subst e;rw[Aq,Aq,Bool.or_eq_true,Bool.not_eq_true',decide_eq_true_eq,decide_eq_false_iff_not];unfold An9 at c;split at c<;>split at c<;>omega
    ·exact hn i' (by omega) hi2
  ·have: ¬(0:Int)<(j:Int)-1:=by omega
   simp(disch:=omega) only[go_sem,↓reduceIte,h0,h1,h5,this];refine Rm.refl ⟨?_,rfl⟩;rw[Xa.2 fun i h=>hn i (by omega) h]
theorem Vi (G:Nat->DVal) (H:Bb) (l:List As) (hl:l.length<=1099511627776):Bh Tryz.prog G 257 [.vslice (l.flatMap dAs) l.length] H (Bt (.bool (Kv l)) H):=by
 refine Bc Tryz.func257 Tryz.call257 rfl (by kernel_rfl) ?_;simp(disch:=omega) only[go_sem,↓reduceIte];refine(Ak7 G _ l hl).mono ?_;rintro _ H1 ⟨rfl,rfl⟩;simp(disch:=omega) only[go_sem,↓reduceIte];exact Rm.refl ⟨rfl,rfl⟩
theorem Mc (G:Nat->DVal) (H:Bb) (e:Ex) (k:Nat) (hk:0<k):Bh Tryz.prog G 209 [.agg (dEx e), .int .i64 k] H (Bt (.bool (Jh e k)) H):=by
 refine Bc Tryz.func209 Tryz.call209 rfl (by kernel_rfl) ?_;simp(disch:=omega) only[go_sem,↓reduceIte,DVal.cells];intro r hr;dsimp only at hr;by_cases h1:e.l.length=k
 ·have h1':(e.l.length:Int)=(k:Int):=by omega
  have hp:0<e.l.length:=by omega
  have hg:=Cm Aa e.l 0 hp;have hfl:=Bq Aa e.l;have hgd:e.l.getD 0 ex0=e.l[0]:=by rw[List.getD,List.getElem?_eq_getElem hp];rfl
  rw[Nat.zero_mul,List.drop_zero] at hg;simp(disch:=omega) only[go_sem,↓reduceIte,h1',hfl,hg];refine(Rs G _ e.l[0]).mono ?_;rintro _ H1 ⟨rfl,rfl⟩;simp(disch:=omega) only[go_sem,↓reduceIte];exact Rm.dropA r hr (Rm.refl ⟨by rw[Jh,decide_eq_true h1,Bool.true_and,hgd],rfl⟩)
 ·have h1': ¬(e.l.length:Int)=(k:Int):=by omega
  simp(disch:=omega) only[go_sem,↓reduceIte,h1'];exact Rm.dropA r hr (Rm.refl ⟨by rw[Jh,decide_eq_false h1,Bool.false_and],rfl⟩)
end
end Go.Dl

-- Chapter 3: what is valid: choices, arguments.
namespace Go.Dl
open Go Go.Proofs
set_option maxRecDepth 100000
theorem ch0 {l:List Ch} (h:0<l.length):(l.flatMap dCh)[0]? =some (.int .u8 l[0].kind)/\(l.flatMap dCh)[1]? =some (.vslice (l[0].l.flatMap dEx) l[0].l.length):=by
 have h0:=Cy Cu l 0 h 0 (by decide);have h1:=Cy Cu l 0 h 1 (by decide);rw[Bx3] at h0;rw[An8] at h1;exact⟨by simpa using h0,by simpa using h1⟩
theorem Eb7 {l:List Ex} (h:0<l.length):(l.flatMap dEx)[0]? =some (.int .u8 l[0].kind):=by
 have h0:=Cy Aa l 0 h 0 (by decide);rw[Dm5] at h0;simpa using h0
section
variable {G:Nat->DVal} {H:Bb}
theorem Be9 (G:Nat->DVal) (H:Bb) (l:List Ch):Bh Tryz.prog G 260 [.vslice (l.flatMap dCh) l.length] H (Bt (.bool (Da l)) H):=by
 have hfl:=Bq Cu l;refine Bc Tryz.func260 Tryz.call260 rfl (by kernel_rfl) ?_;by_cases h1:l.length=1
 ·have h1':(l.length:Int)=1:=by omega
  obtain⟨g0,g1⟩:=ch0 (l:=l) (by omega);obtain⟨c,rfl⟩:=List.length_eq_one_iff.1 h1;rw[List.getElem_cons_zero] at g0 g1;by_cases h2:c.kind=1
  ·by_cases h3:c.l.length=1
   ·have h3':(c.l.length:Int)=1:=by omega
    have g2:=Eb7 (l:=c.l) (by omega);have hfe:=Bq Aa c.l;obtain⟨x,hx⟩:=List.length_eq_one_iff.1 h3;have e:c.l[0]=x:=by simp [hx]
    rw[e] at g2;have hs:Da [c]=decide (x.kind=3):=by simp [Da,h2,hx]
    simp(disch:=omega) only[go_sem,↓reduceIte,h1',hfl,g0,g1,h2,h3',g2,hfe];exact Rm.refl ⟨by rw[hs],rfl⟩
   ·have h3': ¬(c.l.length:Int)=1:=by omega
    have hs:Da [c]=false:=by
     rw[Da];split
     ·rename_i hx;rw[hx] at h3;simp at h3
     ·simp
    simp(disch:=omega) only[go_sem,↓reduceIte,h1',hfl,g0,g1,h2,h3'];exact Rm.refl ⟨by rw[hs],rfl⟩
  ·simp(disch:=omega) only[go_sem,↓reduceIte,h1',hfl,g0,g1,h2];exact Rm.refl ⟨by simp [Da,h2],rfl⟩
 ·have h1': ¬(l.length:Int)=1:=by omega
  have hs:Da l=false:=by
   unfold Da;split
   ·simp at h1
   ·rfl
  simp(disch:=omega) only[go_sem,↓reduceIte,h1'];exact Rm.refl ⟨by rw[hs],rfl⟩
theorem Zk (G:Nat->DVal) (H:Bb) (a:As):Bh Tryz.prog G 259 [.agg (dAs a)] H (Bt (.bool (!(a.c.isEmpty || Da a.c))) H):=by
 refine Bc Tryz.func259 Tryz.call259 rfl (by kernel_rfl) ?_;simp(disch:=omega) only[go_sem,↓reduceIte,DVal.cells];intro r hr;dsimp only at hr;by_cases h1:0<a.c.length
 ·have h1':(0:Int)<(a.c.length:Int):=by omega
  have he:a.c.isEmpty=false:=by rw[Aq];exact decide_eq_false (by omega)
  simp(disch:=omega) only[go_sem,↓reduceIte,h1'];refine(Be9 G _ a.c).mono ?_;rintro _ H1 ⟨rfl,rfl⟩;simp(disch:=omega) only[go_sem,↓reduceIte];exact Rm.dropA r hr (Rm.refl ⟨by rw[he,Bool.false_or],rfl⟩)
 ·have h1': ¬(0:Int)<(a.c.length:Int):=by omega
  have he:a.c.isEmpty=true:=by rw[Aq];exact decide_eq_true (by omega)
  simp(disch:=omega) only[go_sem,↓reduceIte,h1'];exact Rm.dropA r hr (Rm.refl ⟨by rw[he];rfl,rfl⟩)
theorem Nc {α:Type} (p:α->Bool) (l:List α):l.any (fun x=>!p x)=!l.all p:=by
 induction l with
 | nil=>rfl
 | cons x l ih=>rw[List.any_cons,List.all_cons,ih,Bool.not_and]
theorem Ae9 (G:Nat->DVal) (H:Bb) (l:List As) (hl:l.length<=1099511627776):Bh Tryz.prog G 210 [.vslice (l.flatMap dAs) l.length] H (Bt (.bool (Kd l)) H):=by
 refine Bc Tryz.func210 Tryz.call210 rfl (by kernel_rfl) ?_;by_cases h1:0<l.length
 ·have h1':(0:Int)<(l.length:Int):=by omega
  by_cases h2:l.length<=8
  ·have h2':(l.length:Int)<=8:=by omega
   simp(disch:=omega) only[go_sem,↓reduceIte,h1',h2'];refine(Vi G _ l hl).mono ?_;rintro _ H1 ⟨rfl,rfl⟩;cases h3:Kv l with
   | false=>
    simp(disch:=omega) only[go_sem,↓reduceIte];exact Rm.refl ⟨by rw[Kd,h3,Bool.and_false,Bool.false_and],rfl⟩
   | true=>
    simp(disch:=omega) only[go_sem,↓reduceIte];refine(Bq6 G _ (fun a=>!(a.c.isEmpty || Da a.c)) l 259 [] [] hl fun x _=>Zk G _ x).mono ?_;rintro _ H1 ⟨rfl,rfl⟩;rw[Nc];simp(disch:=omega) only[go_sem,↓reduceIte];exact Rm.refl ⟨by rw[Kd,h3,decide_eq_true h1,decide_eq_true h2,Bool.true_and,Bool.true_and,Bool.true_and,Bool.not_not],rfl⟩
  ·have h2': ¬(l.length:Int)<=8:=by omega
   simp(disch:=omega) only[go_sem,↓reduceIte,h1',h2'];exact Rm.refl ⟨by rw[Kd,decide_eq_false h2,Bool.and_false,Bool.false_and,Bool.false_and],rfl⟩
 ·have h1': ¬(0:Int)<(l.length:Int):=by omega
  simp(disch:=omega) only[go_sem,↓reduceIte,h1'];exact Rm.refl ⟨by rw[Kd,decide_eq_false h1,Bool.false_and,Bool.false_and,Bool.false_and],rfl⟩
def Ke:List (DVal×DVal):= [(.int .u8 1, .int .i64 1),(.int .u8 2, .int .i64 2),(.int .u8 3, .int .i64 0)]
theorem Bf0 (G:Nat->DVal) (H:Bb) (n:Nat) (l:List Ch) (c:Ch) (r1 rm r3:Nat) (h1:H r1=some (.cells [.vslice (l.flatMap dCh) l.length] 126)) (hm:H rm=some (.map Ke)) (h3:H r3=some (.cells [.omap rm] 262)):
  Bh Tryz.prog G 264 ([]++ [.agg (dCh c)]++ [.optr r3 0, .optr r1 0]) H (Bt (.bool (!Em l.length c)) H):=by
 refine Bc Tryz.func264 Tryz.call264 rfl (by kernel_rfl) ?_;simp(disch:=omega) only[go_sem,↓reduceIte,DVal.cells,List.nil_append,List.cons_append];intro r hr;dsimp only at hr;have n1:r1≠r:=Dz hr h1;have n3:r3≠r:=Dz hr h3;have nm:rm≠r:=Dz hr hm;by_cases k1:c.kind=1
 ·simp(disch:=omega) only[go_sem,↓reduceIte,n1,n3,nm,h1,hm,h3,k1,Ke];refine⟨_,rfl, ?_⟩;by_cases q:c.l.length=1
  ·have q':(c.l.length:Int)=1:=by omega
   simp(disch:=omega) only[go_sem,↓reduceIte,n1,n3,nm,h1,hm,h3,k1,Ke,q'];exact Rm.dropA r hr (Rm.refl ⟨by simp [Em,k1,q],rfl⟩)
  ·have q': ¬(1:Int)=(c.l.length:Int):=by omega
   simp(disch:=omega) only[go_sem,↓reduceIte,n1,n3,nm,h1,hm,h3,k1,Ke,q'];exact Rm.dropA r hr (Rm.refl ⟨by simp [Em,k1,q],rfl⟩)
 by_cases k2:c.kind=2
 ·simp(disch:=omega) only[go_sem,↓reduceIte,n1,n3,nm,h1,hm,h3,k2,Ke];refine⟨_,rfl, ?_⟩;by_cases q:c.l.length=2
  ·have q':(c.l.length:Int)=2:=by omega
   simp(disch:=omega) only[go_sem,↓reduceIte,n1,n3,nm,h1,hm,h3,k2,Ke,q'];exact Rm.dropA r hr (Rm.refl ⟨by simp [Em,k2,q],rfl⟩)
  ·have q': ¬(2:Int)=(c.l.length:Int):=by omega
   simp(disch:=omega) only[go_sem,↓reduceIte,n1,n3,nm,h1,hm,h3,k2,Ke,q'];exact Rm.dropA r hr (Rm.refl ⟨by simp [Em,k2,q],rfl⟩)
 by_cases k3:c.kind=3
 ·simp(disch:=omega) only[go_sem,↓reduceIte,n1,n3,nm,h1,hm,h3,k3,Ke];refine⟨_,rfl, ?_⟩;by_cases q:c.l.length=0
  ·have q':(c.l.length:Int)=0:=by omega
   simp(disch:=omega) only[go_sem,↓reduceIte,n1,n3,nm,h1,hm,h3,k3,Ke,q'];refine Rm.dropA r hr (Rm.refl ⟨?_,rfl⟩);have e:Em l.length c=decide (l.length<=1):=by simp [Em,k3,q]
   by_cases q2:l.length<=1
   ·rw[e,decide_eq_true q2,decide_eq_false (show¬(1:Int)<(l.length:Int) by omega)];rfl
   ·rw[e,decide_eq_false q2,decide_eq_true (show(1:Int)<(l.length:Int) by omega)];rfl
  ·have q': ¬(0:Int)=(c.l.length:Int):=by omega
   simp(disch:=omega) only[go_sem,↓reduceIte,n1,n3,nm,h1,hm,h3,k3,Ke,q'];exact Rm.dropA r hr (Rm.refl ⟨by simp [Em,k3,q],rfl⟩)
 ·simp(disch:=omega) only[go_sem,↓reduceIte,n1,n3,nm,h1,hm,h3,k1,k2,k3,Ke];exact Rm.dropA r hr (Rm.refl ⟨by simp [Em,k1,k2,k3],rfl⟩)
theorem Ub (G:Nat->DVal) (H:Bb) (l:List Ch) (hl:l.length<=1099511627776):Bh Tryz.prog G 220 [.vslice (l.flatMap dCh) l.length] H (Bt (.bool (Fh l)) H):=by
 refine Bc Tryz.func220 Tryz.call220 rfl (by kernel_rfl) ?_;simp(disch:=omega) only[go_sem,↓reduceIte,DVal.cells];intro r1 hr1;dsimp only at hr1;simp(disch:=omega) only[go_sem,↓reduceIte,DVal.cells];intro rm hrm;dsimp only at hrm;obtain⟨m1,m2,hrm'⟩:=Dl9.1 hrm;simp(disch:=omega) only[go_sem,↓reduceIte,DVal.cells,m1,m2];intro r3 hr3;dsimp only at hr3;obtain⟨p1,p2,hr3a⟩:=Dl9.1 hr3;obtain⟨p3,p4,hr3'⟩:=Dl9.1 hr3a;have hsub:Sub H (upd (upd (upd H r1 (some (.cells [.vslice (l.flatMap dCh) l.length] 126))) rm (some (.map Ke))) r3 (some (.cells [.omap rm] 262))):=((Sub.refl H).new hr1 _ |>.new hrm _).new hr3 _;by_cases h1:0<l.length
 ·have h1':(0:Int)<(l.length:Int):=by omega
  by_cases h2:l.length<=16
  ·have h2':(l.length:Int)<=16:=by omega
   simp(disch:=omega) only[go_sem,↓reduceIte,m1,m2,p1,p2,p3,p4,h1',h2'];refine(Ae8 G _ (fun c=>!Em l.length c) l 264 [] [.optr r3 0, .optr r1 0] hl fun x _=>Bf0 G _ l.length l x r1 rm r3 (by simp [upd,m1,m2,p1,p2,p3,p4]) (by simp [upd,m1,m2,p1,p2,p3,p4,Ke]) (by simp [upd])).mono ?_;rintro _ H1 ⟨rfl,rfl⟩;rw[Nc];simp(disch:=omega) only[go_sem,↓reduceIte,m1,m2,p1,p2,p3,p4];exact Rm.sub hsub (Rm.refl ⟨by rw[Fh,decide_eq_true h1,decide_eq_true h2,Bool.true_and,Bool.true_and,Bool.not_not],rfl⟩)
  ·have h2': ¬(l.length:Int)<=16:=by omega
   simp(disch:=omega) only[go_sem,↓reduceIte,m1,m2,p1,p2,p3,p4,h1',h2'];exact Rm.sub hsub (Rm.refl ⟨by rw[Fh,decide_eq_false h2,Bool.and_false,Bool.false_and],rfl⟩)
 ·have h1': ¬(0:Int)<(l.length:Int):=by omega
  simp(disch:=omega) only[go_sem,↓reduceIte,m1,m2,p1,p2,p3,p4,h1'];exact Rm.sub hsub (Rm.refl ⟨by rw[Fh,decide_eq_false h1,Bool.false_and,Bool.false_and],rfl⟩)
end
end Go.Dl

-- Chapter 3: what is valid: associations.
namespace Go.Dl
open Go Go.Proofs
set_option maxRecDepth 100000
theorem Jk {l:List Ch} (h:0<l.length):Rq l=decide (l[0].kind=3):=by
 cases l with
 | nil=>simp at h
 | cons c l=>rfl
theorem Pn {l:List As} {k:Nat} (hk:k<l.length):Fg (l.drop k)=((l[k].c.isEmpty || Fh l[k].c&&(!Rq l[k].c || decide (k+1=l.length)))&&Fg (l.drop (k+1))):=by
 rw[List.drop_eq_getElem_cons hk,Fg,Aq (l.drop (k+1)),List.length_drop];have:(l.length-(k+1)=0)↔k+1=l.length:=by omega
 simp only[this]
theorem Yj {l:List As}:Zx l=(decide (l.length=1)&&(l.getD 0 default).c.isEmpty):=
 match l with
 | []=>rfl
 | [a]=>by simp [Zx]
 | a::b::l=>by simp [Zx]
theorem as0 {l:List As} (h:0<l.length):(l.flatMap dAs)[0]? =some (.vslice (l[0].c.flatMap dCh) l[0].c.length):=by
 have h0:=Cy Cr l 0 h 0 (by decide);rw[Yi] at h0;simpa using h0
section
variable {G:Nat->DVal} {H:Bb}
theorem Vj (G:Nat->DVal) (H:Bb) (l:List As) (hl:l.length<=1099511627776) (hb: ∀a∈l,a.c.length<=1099511627776):Bh Tryz.prog G 211 [.vslice (l.flatMap dAs) l.length] H (Bt (.bool (Gd l)) H):=by
 refine Bc Tryz.func211 Tryz.call211 rfl (by kernel_rfl) ?_;by_cases h1:l.length=0
 ·have h1':(l.length:Int)=0:=by omega
  simp(disch:=omega) only[go_sem,↓reduceIte,h1'];exact Rm.refl ⟨by rw[Gd,decide_eq_false (show¬0<l.length by omega),Bool.false_and,Bool.false_and,Bool.false_and,Bool.false_and],rfl⟩
 have h1': ¬(l.length:Int)=0:=by omega
 have hpos:0<l.length:=by omega
 by_cases h2:32<l.length
 ·have h2':(32:Int)<(l.length:Int):=by omega
  simp(disch:=omega) only[go_sem,↓reduceIte,h1',h2'];exact Rm.refl ⟨by rw[Gd,decide_eq_false (show¬l.length<=32 by omega),Bool.and_false,Bool.false_and,Bool.false_and,Bool.false_and],rfl⟩
 have h2': ¬(32:Int)<(l.length:Int):=by omega
 simp(disch:=omega) only[go_sem,↓reduceIte,h1',h2'];refine(Vi G _ l hl).mono ?_;rintro _ H1 ⟨rfl,rfl⟩;have hd:Gd l=(Kv l&&(!(decide (l.length=1)&&(l.getD 0 default).c.isEmpty)&&Fg l)):=by
  rw[Gd,decide_eq_true hpos,decide_eq_true (show l.length<=32 by omega),Bool.true_and,Bool.true_and,Yj,Bool.and_assoc]
 rw[hd];cases h3:Kv l with
 | false=>
  simp(disch:=omega) only[go_sem,↓reduceIte];exact Rm.refl ⟨rfl,rfl⟩
 | true=>
  have hg0:=as0 hpos;have hgd:l.getD 0 default=l[0]:=by rw[List.getD,List.getElem?_eq_getElem hpos];rfl
  have hfl:=Bq Cr l;rw[hgd];by_cases h4:l.length=1/\l[0].c.length=0
  ·have h4a:(l.length:Int)=1:=by omega
   have h4b:(l[0].c.length:Int)=0:=by omega
   have e4:l[0].c.isEmpty=true:=by rw[Aq];exact decide_eq_true h4.2
   simp(disch:=omega) only[go_sem,↓reduceIte,h4a,h4b,hg0,hfl];exact Rm.refl ⟨by simp [e4],rfl⟩
  ·have e4:(decide (l.length=1)&&l[0].c.isEmpty)=false:=by
    rw[Aq,<-Bool.decide_and];exact decide_eq_false h4
   rw[e4];by_cases h5:l.length=1
   ·have h5':((l.length:Int)=1)=True:=eq_true (by omega);have h6': ¬(l[0].c.length:Int)=0:=by omega
    simp(disch:=omega) only[go_sem,↓reduceIte,h5',h6',hg0,hfl];obtain⟨I,hI⟩: ∃I:Nat->(Nat->DVal)->Bb->Prop,∀k env heap,I k env heap↔(env 0= .vslice (l.flatMap dAs) l.length/\env 31= .vslice (l.flatMap dAs) l.length/\env 32=dI l.length/\env 33=dI k/\k<=l.length/\Fg l=Fg (l.drop k)/\Sub H1 heap):=⟨_,fun _ _ _=>Iff.rfl⟩;refine Cn3.run I (fun k=>l.length-k) 0 ((hI _ _ _).2 ?_) ?_
    ·simp(disch:=omega) only[go_sem,↓reduceIte];(repeat' apply And.intro)<;>(try first | rfl | assumption | omega);exact Sub.refl _
    ·intro k env heap hi;obtain⟨e0,e31,e32,e33,hk,hall,hsub⟩:=(hI _ _ _).1 hi;by_cases hlt:k<l.length
     ·have hlt':(k:Int)<(l.length:Int):=by omega
      have Cc:=Cm Cr l k hlt;have hwd:IntKind.i64.wrap ((k:Int)+1)=((k+1:Nat):Int):=by rw[IntKind.wrap_i64];omega
      have hwl:IntKind.i64.wrap ((l.length:Int)-1)=(l.length:Int)-1:=by rw[IntKind.wrap_i64];omega
      have hba:=hb l[k] (List.getElem_mem hlt);rw[Pn hlt] at hall;simp(disch:=omega) only[go_sem,↓reduceIte,e0,e31,e32,e33,hlt',Cc,hfl,Int.toNat_natCast];intro r4 hr4;dsimp only at hr4;by_cases q1:0<l[k].c.length
      ·have q1':(0:Int)<(l[k].c.length:Int):=by omega
       have e1:l[k].c.isEmpty=false:=by rw[Aq];exact decide_eq_false (by omega)
       rw[e1,Bool.false_or] at hall;simp(disch:=omega) only[go_sem,↓reduceIte,e0,e31,e32,e33,q1'];refine(Ub G _ l[k].c hba).mono ?_;rintro _ H2 ⟨rfl,rfl⟩;cases q2:Fh l[k].c with
       | false=>
        rw[q2,Bool.false_and,Bool.false_and] at hall;simp(disch:=omega) only[go_sem,↓reduceIte,e0,e31,e32,e33];exact Rm.sub (hsub.new hr4 _) (Rm.refl ⟨by rw[hall],rfl⟩)
       | true=>
        obtain⟨g0,_⟩:=ch0 q1;have hfc:=Bq Cu l[k].c;rw[q2,Bool.true_and,Jk q1] at hall;by_cases q3:l[k].c[0].kind=3
        ·rw[decide_eq_true q3,Bool.not_true,Bool.false_or] at hall;by_cases q4:k+1=l.length
         ·have q4': ¬(k:Int)<(l.length:Int)-1:=by omega
          rw[decide_eq_true q4,Bool.true_and] at hall;simp(disch:=omega) only[go_sem,↓reduceIte,e0,e31,e32,e33,g0,hfc,q3,q4',hwl];refine⟨k+1,_,Rd.refl _,(hI _ _ _).2 ?_,by omega⟩;simp(disch:=omega) only[go_sem,↓reduceIte,e0,e31,e32,e33,hwd];(repeat' apply And.intro)<;>(try first | rfl | assumption | omega);all_goals exact hsub.new hr4 _
         ·have q4':(k:Int)<(l.length:Int)-1:=by omega
          rw[decide_eq_false q4,Bool.false_and] at hall;simp(disch:=omega) only[go_sem,↓reduceIte,e0,e31,e32,e33,g0,hfc,q3,q4',hwl];exact Rm.sub (hsub.new hr4 _) (Rm.refl ⟨by rw[hall],rfl⟩)
        ·rw[decide_eq_false q3,Bool.not_false,Bool.true_or,Bool.true_and] at hall;simp(disch:=omega) only[go_sem,↓reduceIte,e0,e31,e32,e33,g0,hfc,q3];refine⟨k+1,_,Rd.refl _,(hI _ _ _).2 ?_,by omega⟩;simp(disch:=omega) only[go_sem,↓reduceIte,e0,e31,e32,e33,hwd];(repeat' apply And.intro)<;>(try first | rfl | assumption | omega);all_goals exact hsub.new hr4 _
      ·have q1': ¬(0:Int)<(l[k].c.length:Int):=by omega
       have e1:l[k].c.isEmpty=true:=by rw[Aq];exact decide_eq_true (by omega)
       rw[e1,Bool.true_or,Bool.true_and] at hall;simp(disch:=omega) only[go_sem,↓reduceIte,e0,e31,e32,e33,q1'];refine⟨k+1,_,Rd.refl _,(hI _ _ _).2 ?_,by omega⟩;simp(disch:=omega) only[go_sem,↓reduceIte,e0,e31,e32,e33,hwd];(repeat' apply And.intro)<;>(try first | rfl | assumption | omega);all_goals exact hsub.new hr4 _
     ·have:k=l.length:=by omega
      subst this;rw[List.drop_length] at hall;simp(disch:=omega) only[go_sem,↓reduceIte,e0,e31,e32,e33];exact Rm.sub hsub (Rm.refl ⟨by rw[hall];rfl,rfl⟩)
   ·have h5': ¬(l.length:Int)=1:=by omega
    simp(disch:=omega) only[go_sem,↓reduceIte,h5'];obtain⟨I,hI⟩: ∃I:Nat->(Nat->DVal)->Bb->Prop,∀k env heap,I k env heap↔(env 0= .vslice (l.flatMap dAs) l.length/\env 31= .vslice (l.flatMap dAs) l.length/\env 32=dI l.length/\env 33=dI k/\k<=l.length/\Fg l=Fg (l.drop k)/\Sub H1 heap):=⟨_,fun _ _ _=>Iff.rfl⟩;refine Cn3.run I (fun k=>l.length-k) 0 ((hI _ _ _).2 ?_) ?_
    ·simp(disch:=omega) only[go_sem,↓reduceIte];(repeat' apply And.intro)<;>(try first | rfl | assumption | omega);exact Sub.refl _
    ·intro k env heap hi;obtain⟨e0,e31,e32,e33,hk,hall,hsub⟩:=(hI _ _ _).1 hi;by_cases hlt:k<l.length
     ·have hlt':(k:Int)<(l.length:Int):=by omega
      have Cc:=Cm Cr l k hlt;have hwd:IntKind.i64.wrap ((k:Int)+1)=((k+1:Nat):Int):=by rw[IntKind.wrap_i64];omega
      have hwl:IntKind.i64.wrap ((l.length:Int)-1)=(l.length:Int)-1:=by rw[IntKind.wrap_i64];omega
      have hba:=hb l[k] (List.getElem_mem hlt);rw[Pn hlt] at hall;simp(disch:=omega) only[go_sem,↓reduceIte,e0,e31,e32,e33,hlt',Cc,hfl,Int.toNat_natCast];intro r4 hr4;dsimp only at hr4;by_cases q1:0<l[k].c.length
      ·have q1':(0:Int)<(l[k].c.length:Int):=by omega
       have e1:l[k].c.isEmpty=false:=by rw[Aq];exact decide_eq_false (by omega)
       rw[e1,Bool.false_or] at hall;simp(disch:=omega) only[go_sem,↓reduceIte,e0,e31,e32,e33,q1'];refine(Ub G _ l[k].c hba).mono ?_;rintro _ H2 ⟨rfl,rfl⟩;cases q2:Fh l[k].c with
       | false=>
        rw[q2,Bool.false_and,Bool.false_and] at hall;simp(disch:=omega) only[go_sem,↓reduceIte,e0,e31,e32,e33];exact Rm.sub (hsub.new hr4 _) (Rm.refl ⟨by rw[hall],rfl⟩)
       | true=>
        obtain⟨g0,_⟩:=ch0 q1;have hfc:=Bq Cu l[k].c;rw[q2,Bool.true_and,Jk q1] at hall;by_cases q3:l[k].c[0].kind=3
        ·rw[decide_eq_true q3,Bool.not_true,Bool.false_or] at hall;by_cases q4:k+1=l.length
         ·have q4': ¬(k:Int)<(l.length:Int)-1:=by omega
          rw[decide_eq_true q4,Bool.true_and] at hall;simp(disch:=omega) only[go_sem,↓reduceIte,e0,e31,e32,e33,g0,hfc,q3,q4',hwl];refine⟨k+1,_,Rd.refl _,(hI _ _ _).2 ?_,by omega⟩;simp(disch:=omega) only[go_sem,↓reduceIte,e0,e31,e32,e33,hwd];(repeat' apply And.intro)<;>(try first | rfl | assumption | omega);all_goals exact hsub.new hr4 _
         ·have q4':(k:Int)<(l.length:Int)-1:=by omega
          rw[decide_eq_false q4,Bool.false_and] at hall;simp(disch:=omega) only[go_sem,↓reduceIte,e0,e31,e32,e33,g0,hfc,q3,q4',hwl];exact Rm.sub (hsub.new hr4 _) (Rm.refl ⟨by rw[hall],rfl⟩)
        ·rw[decide_eq_false q3,Bool.not_false,Bool.true_or,Bool.true_and] at hall;simp(disch:=omega) only[go_sem,↓reduceIte,e0,e31,e32,e33,g0,hfc,q3];refine⟨k+1,_,Rd.refl _,(hI _ _ _).2 ?_,by omega⟩;simp(disch:=omega) only[go_sem,↓reduceIte,e0,e31,e32,e33,hwd];(repeat' apply And.intro)<;>(try first | rfl | assumption | omega);all_goals exact hsub.new hr4 _
      ·have q1': ¬(0:Int)<(l[k].c.length:Int):=by omega
       have e1:l[k].c.isEmpty=true:=by rw[Aq];exact decide_eq_true (by omega)
       rw[e1,Bool.true_or,Bool.true_and] at hall;simp(disch:=omega) only[go_sem,↓reduceIte,e0,e31,e32,e33,q1'];refine⟨k+1,_,Rd.refl _,(hI _ _ _).2 ?_,by omega⟩;simp(disch:=omega) only[go_sem,↓reduceIte,e0,e31,e32,e33,hwd];(repeat' apply And.intro)<;>(try first | rfl | assumption | omega);all_goals exact hsub.new hr4 _
     ·have:k=l.length:=by omega
      subst this;rw[List.drop_length] at hall;simp(disch:=omega) only[go_sem,↓reduceIte,e0,e31,e32,e33];exact Rm.sub hsub (Rm.refl ⟨by rw[hall];rfl,rfl⟩)
end
end Go.Dl

-- Chapter 3: each.
namespace Go.Dl
open Go Go.Proofs
set_option maxRecDepth 100000
def Bq7 {σ:Type} (R:Ex->σ->Bool->σ->Prop):List Ex->σ->Bool->σ->Prop
 | [],s,b,s'=>b=true/\s'=s
 | x::l,s,b,s'=> ∃b1 s1,R x s b1 s1/\((b1=true/\Bq7 R l s1 b s')\/(b1=false/\b=false/\s'=s1))
def Yk {σ:Type} (R:Ex->σ->Bool->σ->Prop) (all:List Ex) (s0:σ) (rest:List Ex) (s:σ):Prop:= ∀b s',Bq7 R rest s b s'->Bq7 R all s0 b s'
section
variable {σ:Type} {R:Ex->σ->Bool->σ->Prop} {all rest:List Ex} {s0 s s1:σ} {x:Ex}
theorem Yk.next (h:Yk R all s0 (x::rest) s) (k:R x s true s1):Yk R all s0 rest s1:=fun b s' hr=>h b s' ⟨true,s1,k, .inl ⟨rfl,hr⟩⟩
theorem Yk.no (h:Yk R all s0 (x::rest) s) (k:R x s false s1):Bq7 R all s0 false s1:=h false s1 ⟨false,s1,k, .inr ⟨rfl,rfl,rfl⟩⟩
theorem Yk.fin (h:Yk R all s0 [] s):Bq7 R all s0 true s:=h true s ⟨rfl,rfl⟩
end
def Qs (r:Nat) (H H':Bb):Prop:= ∀b o,b≠r->H b=some o->H' b=some o
theorem Qs.refl (r:Nat) (H:Bb):Qs r H H:=fun _ _ _ h=>h
theorem Qs.trans {r:Nat} {H H' H'':Bb} (h:Qs r H H') (k:Qs r H' H''):Qs r H H'':=fun b o hb hh=>k b o hb (h b o hb hh)
theorem Qs.new {r:Nat} {H H':Bb} (h:Qs r H H') {q:Nat} (hq:H' q=none) (x:Option DObj):Qs r H (upd H' q x):=fun b o hb hh=>by
 have:=h b o hb hh;have:b≠q:=fun e=>by rw[e,hq] at this;cases this
 simp only[upd,if_neg this];exact h b o hb hh
theorem Qs.set {r:Nat} {H H':Bb} (h:Qs r H H') (x:Option DObj):Qs r H (upd H' r x):=fun b o hb hh=>by
 simp only[upd,if_neg hb];exact h b o hb hh
theorem Qs.sub {r:Nat} {H H':Bb} (h:Qs r H H') {H0:Bb} (k:Sub H0 H) (hr:H0 r=none):Sub H0 H':=fun b o hb=>h b o (fun e=>by rw[e,hr] at hb;cases hb) (k b o hb)
def Oh (s:Int):DObj:= .cells [.int .i64 s] 3
section
variable {G:Nat->DVal}
def Eb8 (R:Ex->Int->Bool->Int->Prop) (all:List Ex) (s0:Int) (r:Nat) (H0:Bb) (e:DEnd) (H':Bb):Prop:=
 ∃b s',e= .ret (.bool b)/\Bq7 R all s0 b s'/\H' r=some (Oh s')/\Qs r H0 H'
def Dm6 (R:Ex->Int->Bool->Int->Prop) (x:Ex) (s:Int) (r:Nat) (H:Bb) (e:DEnd) (H':Bb):Prop:=
 ∃b s',e= .ret (.bool b)/\R x s b s'/\H' r=some (Oh s')/\Qs r H H'
set_option maxHeartbeats 4000000 in
theorem Ci7 (G:Nat->DVal) (H0:Bb) (e:Ex) (hb:Hu e<=1099511627776) (g:FuncId) (xs ys:List DVal) (R:Ex->Int->Bool->Int->Prop) (r:Nat) (s0:Int) (hr:H0 r=some (Oh s0))
  (hf: ∀x∈parts e,∀s H,H r=some (Oh s)->Qs r H0 H->Bh Tryz.prog G g (xs++ [.agg (dEx x)]++ys) H (Dm6 R x s r H)):
  Bh Tryz.prog G 148 [.agg (dEx e), .func (.func g) xs ys] H0 (Eb8 R (parts e) s0 r H0):=by
 have hal:= @Bx5 e;have hll:= @Bx4 e;have hfl:=Bq Aa e.l;have hfa:=Bq Cr e.a;refine Bc Tryz.func148 Tryz.call148 rfl (by kernel_rfl) ?_;simp(disch:=omega) only[go_sem,↓reduceIte,DVal.cells];intro r2 hr2;dsimp only at hr2;have n2:r≠r2:=Dz hr2 hr;have n2':r2≠r:=n2.symm;simp(disch:=omega) only[go_sem,↓reduceIte];obtain⟨I,hI⟩: ∃I:Nat×Int->(Nat->DVal)->Bb->Prop,∀k env heap,I k env heap↔(env 1= .func (.func g) xs ys/\env 2= .optr r2 0/\env 14= .vslice (e.l.flatMap dEx) e.l.length/\env 15=dI e.l.length/\env 16=dI k.1/\k.1<=e.l.length/\heap r=some (Oh k.2)/\heap r2=some (.cells (dEx e) 29)/\Qs r H0 heap/\Yk R (parts e) s0 (e.l.drop k.1++e.a.flatMap Dh) k.2):=⟨_,fun _ _ _=>Iff.rfl⟩;refine Cn3.run I (fun k=>e.l.length-k.1) (0,s0) ((hI _ _ _).2 ?_) ?_
 ·simp(disch:=omega) only[go_sem,↓reduceIte,n2,n2'];(repeat' apply And.intro)<;>(try first | rfl | assumption | omega)
  ·exact(Qs.refl r H0).new hr2 _
  ·exact fun b s' h=>h
 ·rintro⟨k,s⟩ env heap hi;obtain⟨e1,e2,e14,e15,e16,hk,hh,hh2,ht,hc⟩:=(hI _ _ _).1 hi;dsimp only at e16 hk hh hc;by_cases hlt:k<e.l.length
  ·have hlt':(k:Int)<(e.l.length:Int):=by omega
   have Cc:=Cm Aa e.l k hlt;have hwd:IntKind.i64.wrap ((k:Int)+1)=((k+1:Nat):Int):=by rw[IntKind.wrap_i64];omega
   rw[List.drop_eq_getElem_cons hlt,List.cons_append] at hc;simp(disch:=omega) only[go_sem,↓reduceIte,e1,e2,e14,e15,e16,hlt',Cc,hfl,Int.toNat_natCast];intro r6 hr6;dsimp only at hr6;have n6:r≠r6:=Dz hr6 hh;have n62:r2≠r6:=Dz hr6 hh2;have ht6:=ht.new hr6 (some (.cells (dEx e.l[k]) 29));simp(disch:=omega) only[go_sem,↓reduceIte,e1,e2,e14,e15,e16];refine(hf e.l[k] (Rp (List.getElem_mem hlt)) s _ (by simp only[upd,if_neg n6];exact hh) ht6).mono ?_;rintro _ H2 ⟨b,s1,rfl,hR,hh',ht'⟩;have hh2':H2 r2=some (.cells (dEx e) 29):=ht' r2 _ n2' (by simp only[upd,if_neg n62];exact hh2);cases b with
   | false=>
    simp(disch:=omega) only[go_sem,↓reduceIte,e1,e2,e14,e15,e16];exact Rm.refl ⟨false,s1,rfl,hc.no hR,hh',ht6.trans ht'⟩
   | true=>
    simp(disch:=omega) only[go_sem,↓reduceIte,e1,e2,e14,e15,e16];refine⟨(k+1,s1),_,Rd.refl _,(hI _ _ _).2 ?_,by dsimp only;omega⟩;simp(disch:=omega) only[go_sem,↓reduceIte,e1,e2,e14,e15,e16,hwd];(repeat' apply And.intro)<;>(try first | rfl | assumption | omega)
    ·exact ht6.trans ht'
    ·exact hc.next hR
  ·have:k=e.l.length:=by omega
   subst this;rw[List.drop_length,List.nil_append] at hc;simp(disch:=omega) only[go_sem,↓reduceIte,e1,e2,e14,e15,e16,hh2];obtain⟨J,hJ⟩: ∃J:Nat×Int->(Nat->DVal)->Bb->Prop,∀k env heap,J k env heap↔(env 1= .func (.func g) xs ys/\env 26= .vslice (e.a.flatMap dAs) e.a.length/\env 27=dI e.a.length/\env 28=dI k.1/\k.1<=e.a.length/\heap r=some (Oh k.2)/\Qs r H0 heap/\Yk R (parts e) s0 ((e.a.drop k.1).flatMap Dh) k.2):=⟨_,fun _ _ _=>Iff.rfl⟩;refine Cn3.run J (fun k=>e.a.length-k.1) (0,s) ((hJ _ _ _).2 ?_) ?_
   ·simp(disch:=omega) only[go_sem,↓reduceIte,e1,e2,hh2];(repeat' apply And.intro)<;>(try first | rfl | assumption | omega)
   ·rintro⟨j,s⟩ env heap hi;obtain⟨e1,e26,e27,e28,hj,hh,ht,hc⟩:=(hJ _ _ _).1 hi;dsimp only at e28 hj hh hc;by_cases hjl:j<e.a.length
    ·have hjl':(j:Int)<(e.a.length:Int):=by omega
     have Cc:=Cm Cr e.a j hjl;have hwj:IntKind.i64.wrap ((j:Int)+1)=((j+1:Nat):Int):=by rw[IntKind.wrap_i64];omega
     have hma:=List.getElem_mem hjl;have hba:=Ae7 hma;obtain⟨a,ha⟩: ∃a,a=e.a[j]:=⟨_,rfl⟩;rw[List.drop_eq_getElem_cons hjl,List.flatMap_cons,Dh,List.append_assoc,<-ha] at hc;rw[<-ha] at Cc hma hba;have hbc:=Ho a.c;have hfc:=Bq Cu a.c;rw[Na] at hba;simp(disch:=omega) only[go_sem,↓reduceIte,e1,e26,e27,e28,hjl',Cc,hfa,Int.toNat_natCast];intro r8 hr8;dsimp only at hr8;have n8:r≠r8:=Dz hr8 hh;have ht8:=ht.new hr8 (some (.cells (dAs a) 222));simp(disch:=omega) only[go_sem,↓reduceIte,e1,e26,e27,e28];obtain⟨K,hK⟩: ∃K:Nat×Int->(Nat->DVal)->Bb->Prop,∀k env heap,K k env heap↔(env 1= .func (.func g) xs ys/\env 8= .optr r8 0/\env 26= .vslice (e.a.flatMap dAs) e.a.length/\env 27=dI e.a.length/\env 28=dI j/\env 33= .vslice (a.c.flatMap dCh) a.c.length/\env 34=dI a.c.length/\env 35=dI k.1/\k.1<=a.c.length/\heap r=some (Oh k.2)/\heap r8=some (.cells (dAs a) 222)/\Qs r H0 heap/\Yk R (parts e) s0 ((a.c.drop k.1).flatMap Ch.l++([a.e]++(e.a.drop (j+1)).flatMap Dh)) k.2):=⟨_,fun _ _ _=>Iff.rfl⟩;refine Cn3.run K (fun k=>a.c.length-k.1) (0,s) ((hK _ _ _).2 ?_) ?_
     ·simp(disch:=omega) only[go_sem,↓reduceIte,e1,e26,e27,e28,n8];(repeat' apply And.intro)<;>(try first | rfl | assumption | omega)
     ·rintro⟨m,s⟩ env heap hi;obtain⟨e1,e8,e26,e27,e28,e33,e34,e35,hm,hh,hh8,ht,hc⟩:=(hK _ _ _).1 hi;dsimp only at e35 hm hh hc;by_cases hml:m<a.c.length
      ·have hml':(m:Int)<(a.c.length:Int):=by omega
       have Cc:=Cm Cu a.c m hml;have hwm:IntKind.i64.wrap ((m:Int)+1)=((m+1:Nat):Int):=by rw[IntKind.wrap_i64];omega
       have hmc:=List.getElem_mem hml;have hbm:=Is hmc;obtain⟨c,hcc⟩: ∃c,c=a.c[m]:=⟨_,rfl⟩;rw[List.drop_eq_getElem_cons hml,List.flatMap_cons,List.append_assoc,<-hcc] at hc;rw[<-hcc] at Cc hmc hbm;have hbl:=Hd c.l;have hfx:=Bq Aa c.l;rw[Nb] at hbm;simp(disch:=omega) only[go_sem,↓reduceIte,e1,e8,e26,e27,e28,e33,e34,e35,hml',Cc,hfc,Int.toNat_natCast];intro r10 hr10;dsimp only at hr10;have n10:r≠r10:=Dz hr10 hh;have n108:r8≠r10:=Dz hr10 hh8;have ht10:=ht.new hr10 (some (.cells (dCh c) 198));simp(disch:=omega) only[go_sem,↓reduceIte,e1,e8,e26,e27,e28,e33,e34,e35];obtain⟨M,hM⟩: ∃M:Nat×Int->(Nat->DVal)->Bb->Prop,∀k env heap,M k env heap↔(env 1= .func (.func g) xs ys/\env 8= .optr r8 0/\env 26= .vslice (e.a.flatMap dAs) e.a.length/\env 27=dI e.a.length/\env 28=dI j/\env 33= .vslice (a.c.flatMap dCh) a.c.length/\env 34=dI a.c.length/\env 35=dI m/\env 40= .vslice (c.l.flatMap dEx) c.l.length/\env 41=dI c.l.length/\env 42=dI k.1/\k.1<=c.l.length/\heap r=some (Oh k.2)/\heap r8=some (.cells (dAs a) 222)/\Qs r H0 heap/\Yk R (parts e) s0 (c.l.drop k.1++((a.c.drop (m+1)).flatMap Ch.l++([a.e]++(e.a.drop (j+1)).flatMap Dh))) k.2):=⟨_,fun _ _ _=>Iff.rfl⟩;refine Cn3.run M (fun k=>c.l.length-k.1) (0,s) ((hM _ _ _).2 ?_) ?_
       ·simp(disch:=omega) only[go_sem,↓reduceIte,e1,e8,e26,e27,e28,e33,e34,e35,n10,n108];(repeat' apply And.intro)<;>(try first | rfl | assumption | omega)
       ·rintro⟨q,s⟩ env heap hi;obtain⟨e1,e8,e26,e27,e28,e33,e34,e35,e40,e41,e42,hq,hh,hh8,ht,hc⟩:=(hM _ _ _).1 hi;dsimp only at e42 hq hh hc;by_cases hql:q<c.l.length
        ·have hql':(q:Int)<(c.l.length:Int):=by omega
         have Cc:=Cm Aa c.l q hql;have hwq:IntKind.i64.wrap ((q:Int)+1)=((q+1:Nat):Int):=by rw[IntKind.wrap_i64];omega
         rw[List.drop_eq_getElem_cons hql,List.cons_append] at hc;simp(disch:=omega) only[go_sem,↓reduceIte,e1,e8,e26,e27,e28,e33,e34,e35,e40,e41,e42,hql',Cc,hfx,Int.toNat_natCast];intro r12 hr12;dsimp only at hr12;have n12:r≠r12:=Dz hr12 hh;have n128:r8≠r12:=Dz hr12 hh8;have ht12:=ht.new hr12 (some (.cells (dEx c.l[q]) 29));simp(disch:=omega) only[go_sem,↓reduceIte,e1,e8,e26,e27,e28,e33,e34,e35,e40,e41,e42];refine(hf c.l[q] (Yf hma (Au6 hmc (List.getElem_mem hql))) s _ (by simp only[upd,if_neg n12];exact hh) ht12).mono ?_;rintro _ H2 ⟨b,s1,rfl,hR,hh',ht'⟩;have hh8':H2 r8=some (.cells (dAs a) 222):=ht' r8 _ n8.symm (by simp only[upd,if_neg n128];exact hh8);cases b with
         | false=>
          simp(disch:=omega) only[go_sem,↓reduceIte,e1,e8,e26,e27,e28,e33,e34,e35,e40,e41,e42];exact Rm.refl ⟨false,s1,rfl,hc.no hR,hh',ht12.trans ht'⟩
         | true=>
          simp(disch:=omega) only[go_sem,↓reduceIte,e1,e8,e26,e27,e28,e33,e34,e35,e40,e41,e42];refine⟨(q+1,s1),_,Rd.refl _,(hM _ _ _).2 ?_,by dsimp only;omega⟩;simp(disch:=omega) only[go_sem,↓reduceIte,e1,e8,e26,e27,e28,e33,e34,e35,e40,e41,e42,hwq];(repeat' apply And.intro)<;>(try first | rfl | assumption | omega)
          ·exact ht12.trans ht'
          ·exact hc.next hR
        ·have:q=c.l.length:=by omega
         subst this;rw[List.drop_length,List.nil_append] at hc;simp(disch:=omega) only[go_sem,↓reduceIte,e1,e8,e26,e27,e28,e33,e34,e35,e40,e41,e42];refine⟨(m+1,s),_,Rd.refl _,(hK _ _ _).2 ?_,by dsimp only;omega⟩;simp(disch:=omega) only[go_sem,↓reduceIte,e1,e8,e26,e27,e28,e33,e34,e35,hwm];(repeat' apply And.intro)<;>(try first | rfl | assumption | omega)
      ·have:m=a.c.length:=by omega
       subst this;rw[List.drop_length,List.flatMap_nil,List.nil_append,List.cons_append,List.nil_append] at hc;have hda:=Ae6 a;simp(disch:=omega) only[go_sem,↓reduceIte,e1,e8,e26,e27,e28,e33,e34,e35,hh8,hda];refine(hf a.e (Yf hma (Ph a)) s _ hh ht).mono ?_;rintro _ H2 ⟨b,s1,rfl,hR,hh',ht'⟩;cases b with
       | false=>
        simp(disch:=omega) only[go_sem,↓reduceIte,e1,e8,e26,e27,e28,e33,e34,e35];exact Rm.refl ⟨false,s1,rfl,hc.no hR,hh',ht.trans ht'⟩
       | true=>
        simp(disch:=omega) only[go_sem,↓reduceIte,e1,e8,e26,e27,e28,e33,e34,e35];refine⟨(j+1,s1),_,Rd.refl _,(hJ _ _ _).2 ?_,by dsimp only;omega⟩;simp(disch:=omega) only[go_sem,↓reduceIte,e1,e8,e26,e27,e28,e33,e34,e35,hwj];(repeat' apply And.intro)<;>(try first | rfl | assumption | omega)
        ·exact ht.trans ht'
        ·exact hc.next hR
    ·have:j=e.a.length:=by omega
     subst this;rw[List.drop_length,List.flatMap_nil] at hc;simp(disch:=omega) only[go_sem,↓reduceIte,e1,e26,e27,e28];exact Rm.refl ⟨true,s,rfl,hc.fin,hh,ht⟩
end
end Go.Dl
