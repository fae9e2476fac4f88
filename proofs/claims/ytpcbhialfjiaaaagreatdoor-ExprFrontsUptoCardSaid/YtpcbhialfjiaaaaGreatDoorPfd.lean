/- The data level and the contracts of the functions that are reached (part 4). -/
import Derived.Lib.Fields
import Derived.Laws.RangeString
import Derived.Laws.RangeAny
import Derived.Test.YtpcbhialfjiaaaaGreatDoorPfc
set_option linter.unusedSimpArgs false
set_option linter.unusedVariables false
set_option linter.unusedSectionVars false
-- Names and reserved words (chapter 2), for the seats of chapters 3, 4, 5.
namespace Go.Dl
open Go Go.Proofs Go.RowKit
set_option maxRecDepth 100000
variable {H Hn:Ac}
attribute [go_sem] List.getElem?_toArray List.getElem?_cons_zero List.getElem?_cons_succ List.append_eq
theorem Dl0 {P:Program} {w:World} {H:Ac} {G:Nat->DVal} {g:Nat} {name:String} {k:IntKind} {zs:List Int} (hg:P.globalNamed name=some g) (h:GOk G w H) (e:G g= .vptr (zs.map fun z=> .int k z) 0):Lib.TabIs P w name k zs:=by
 have hx:=h.exact g _ e;have hr:=h.rel g;rw[e] at hr;have hc:=Cc8 hg hr rfl;unfold Lib.TabIs World.var?;rw[hg];simp only[Option.bind_some];cases ho:w.heap[g]? with
 | none=>rw[ho] at hx;cases hx
 | some o=>
  cases o with
  | cells c t fz=>
   rw[ho] at hx;simp only[Jg,Option.some.injEq,List.length_map] at hx;simp only[Option.some.injEq];apply Array.ext_getElem?;intro i;by_cases hi:i<zs.length
   ·have:=hc i zs[i] (List.getElem?_eq_getElem hi);simp only[World.cell?,ho] at this;simp [hi];simpa using this
   ·rw[Array.getElem?_eq_none (by omega),Array.getElem?_eq_none (by simp;omega)]
  | _=>rw[ho] at hx;cases hx
section
end
section
variable {G:Nat->DVal} {H:Ac}
theorem Cd4 (hG:G 0= .vptr (Lib.asciiSpaceTab.map fun z=> .int .u8 z) 0) (s:List UInt8) (hs:s.length<4294967281) (ha: ∀(j:Nat) b,s[j]? =some b->b.toNat<128):
  Ai Tryz.prog G 173 [.str s] H (Au (Rz (Lib.fields s)) H):=by
 refine⟨Tryz.call173,fun vs w hv hH hg=> ?_⟩;simp only[Aq,Rel] at hv;obtain⟨_,_,rfl,rfl,rfl⟩:=hv;refine(Tryz.strings_Fields ⟨⟨s⟩⟩ w hs ha (Dl0 (show Tryz.prog.globalNamed "strings.asciiSpace" =some 0 by kernel_rfl) hg hG)).mono fun e w' ⟨he,hw⟩=> ?_;subst he;subst hw;have hq:RowKit.Below w.heap.size w (w.alloc (.cells ((Lib.fields s).map fun l=>Value.string ⟨l.toArray⟩).toArray 9)):=RowKit.Below.alloc (RowKit.Below.refl _ _) (Nat.le_refl _) _;obtain⟨k1,k2⟩:=(Quiet.below hq).ext hH;refine⟨_,H,⟨rfl,rfl⟩, .ret _ _ ?_,k1,k2⟩;simp only[Rz,Rel];refine⟨_,_,by rfl,Nat.le_refl _, .inr ⟨w.heap.size,0,(Lib.fields s).map fun l=>Value.string ⟨l.toArray⟩,rfl, .inr ⟨?_,fun i x hx=> ?_⟩,?_⟩⟩
 ·cases e:H w.heap.size with
  | none=>rfl
  | some o=>exact absurd (hH.lt (r:=w.heap.size) (by simp [e])) (by omega)
 ·rw[Nat.zero_add,World.cell?,World.alloc_heap_new];simpa using hx
 ·refine Aq.mk (by simp) fun i d x h1 h2=> ?_;simp only[List.getElem?_map,Option.map_eq_some_iff] at h1 h2;obtain⟨b1,q1,rfl⟩:=h1;obtain⟨b2,q2,rfl⟩:=h2;rw[q1] at q2;cases q2;simp [Rel]
end
structure GX (G:Nat->DVal):Prop where
 space:G 0= .vptr (Lib.asciiSpaceTab.map fun z=> .int .u8 z) 0
theorem Dr3: ∀n:Fin 256,IntKind.u8.wrap (((BitVec.ofInt 8 ((n.1:Nat):Int) ||| BitVec.ofInt 8 32).toNat:Nat):Int)=((n.1 ||| 32:Nat):Int):=by decide+kernel
section
variable {G:Nat->DVal} {H:Ac}
theorem Xz (G:Nat->DVal) (H:Ac) (b:UInt8):Ai Tryz.prog G 133 [.int .u8 b.toNat] H (Au (.bool (Ez b)) H):=by
 have hor:=Dr3 ⟨b.toNat,b.toNat_lt⟩;have hl:=Bo2 ⟨b.toNat,b.toNat_lt⟩;dsimp only at hor hl;rw[UInt8.ofNat_toNat] at hl;rw[hl];clear hl;generalize b.toNat ||| 32=m at hor⊢
 refine Ad Tryz.func133 Tryz.call133 rfl (by kernel_rfl) ?_;simp(disch:=omega) only[go_sem,↓reduceIte];generalize hm:IntKind.u8.wrap _=z;have hz:z=(m:Int):=hm.symm.trans hor;subst hz;by_cases h1:97<=m
 ·have h1':(97:Int)<=(m:Int):=by omega
  simp(disch:=omega) only[go_sem,↓reduceIte,h1'];generalize hm2:IntKind.u8.wrap _=z;have hz:z=(m:Int):=hm2.symm.trans hor;subst hz;refine Nu.refl ⟨?_,rfl⟩;rw[decide_eq_decide.2 (show(m:Int)<=122↔m<=122 by omega)]
 ·have h1': ¬(97:Int)<=(m:Int):=by omega
  simp(disch:=omega) only[go_sem,↓reduceIte,h1'];exact Nu.refl ⟨rfl,rfl⟩
theorem Bo3 (G:Nat->DVal) (H:Ac) (b:UInt8):Ai Tryz.prog G 159 [.int .u8 b.toNat] H (Au (.bool (Fi b)) H):=by
 refine Ad Tryz.func159 Tryz.call159 rfl (by kernel_rfl) ?_;by_cases h1:48<=b.toNat
 ·have h1':(48:Int)<=(b.toNat:Int):=by omega
  simp(disch:=omega) only[go_sem,↓reduceIte,h1'];refine Nu.refl ⟨?_,rfl⟩;rw[Fi,decide_eq_decide.2 (show(b.toNat:Int)<=57↔b.toNat<=57 by omega),decide_eq_true h1,Bool.true_and]
 ·have h1': ¬(48:Int)<=(b.toNat:Int):=by omega
  simp(disch:=omega) only[go_sem,↓reduceIte,h1'];refine Nu.refl ⟨?_,rfl⟩;rw[Fi,decide_eq_false h1];rfl
theorem Bo4 (G:Nat->DVal) (H:Ac) (s:List UInt8):Ai Tryz.prog G 175 [.str s] H (Au (.bool false) H):=by
 refine Ad Tryz.func175 Tryz.call175 rfl (by kernel_rfl) ?_;simp(disch:=omega) only[go_sem,↓reduceIte];exact Nu.refl ⟨rfl,rfl⟩
theorem Bc3 (G:Nat->DVal) (H:Ac) (s:List UInt8):Ai Tryz.prog G 172 [.str s] H (Au (.bool false) H):=by
 refine Ad Tryz.func172 Tryz.call172 rfl (by kernel_rfl) ?_;simp(disch:=omega) only[go_sem,↓reduceIte];exact Nu.refl ⟨rfl,rfl⟩
theorem Cd5 (G:Nat->DVal) (H:Ac) (s t:List UInt8):Ai Tryz.prog G 171 [.str s, .str t] H (Au (.bool (Go.Op.bytesLess s t)) H):=by
 refine Ad Tryz.func171 Tryz.call171 rfl (by kernel_rfl) ?_;simp(disch:=omega) only[go_sem,↓reduceIte];refine(Bo4 G _ s).mono ?_;rintro _ H ⟨rfl,rfl⟩;simp(disch:=omega) only[go_sem,↓reduceIte];exact Nu.refl ⟨rfl,rfl⟩
theorem Bc4 (G:Nat->DVal) (H:Ac) (l:List (List UInt8)) (s:List UInt8) (hl:l.Pairwise fun a b=>Go.Op.bytesLess a b=true) (hn:l.length<=1000000):
  Ai Tryz.prog G 157 [Rz l, .str s] H (fun e H'=>(∃i:Nat,e= .ret (.tuple [dI i, .bool (decide (s∈l))]))/\H'=H):=by
 refine Ad Tryz.func157 Tryz.call157 rfl (by kernel_rfl) ?_;simp(disch:=omega) only[go_sem,↓reduceIte,Rz];obtain⟨I,hI⟩: ∃I:Nat×Nat->(Nat->DVal)->Ac->Prop,∀p env heap,I p env heap↔(env 0= .vslice (l.map .str) l.length/\env 1= .str s/\env 6=dI l.length/\env 7=dI p.1/\env 8=dI p.2/\halfAt l s p.1 p.2/\heap=H):=⟨_,fun _ _ _=>Iff.rfl⟩;refine Bt4.run I (fun p=>p.2-p.1) (0,l.length) ((hI _ _ _).2 ?_) ?_
 ·simp(disch:=omega) only[go_sem,↓reduceIte];(repeat' apply And.intro)<;>(try first | rfl | assumption | omega);exact Bo1 l s
 ·rintro⟨i,j⟩ env heap hi;obtain⟨e0,e1,e6,e7,e8,hh,rfl⟩:=(hI _ _ _).1 hi;dsimp only at e7 e8 hh;have hh1:=hh.le;have hh2:=hh.len;by_cases hlt:i<j
  ·have hm:(i+j)/2<l.length:=by omega
   have w1:IntKind.u64.wrap ((i:Int)+(j:Int))=((i+j:Nat):Int):=by rw[IntKind.wrap_u64];omega
   have w2:(((i+j:Nat)):Int).fdiv (2^min 1 64)=(((i+j)/2:Nat):Int):=by rw[show(2:Int)^min 1 64=2 from rfl,Int.fdiv_eq_ediv_of_nonneg _ (by omega)];omega
   have w3:IntKind.i64.wrap ((((i+j)/2:Nat)):Int)=(((i+j)/2:Nat):Int):=by rw[IntKind.wrap_i64];omega
   have hg:(l.map DVal.str)[(i+j)/2]? =some (.str l[(i+j)/2]):=by rw[List.getElem?_map,List.getElem?_eq_getElem hm];rfl
   simp(disch:=omega) only[go_sem,↓reduceIte,e0,e1,e6,e7,e8,hlt,w1,w2,w3,hg,hm];refine(Cd5 G _ l[(i+j)/2] s).mono ?_;rintro _ H1 ⟨rfl,rfl⟩;cases hb:Go.Op.bytesLess l[(i+j)/2] s with
   | true=>
    simp(disch:=omega) only[go_sem,↓reduceIte,e0,e1,e6,e7,e8];refine⟨((i+j)/2+1,j),_,Ni.refl _,(hI _ _ _).2 ?_,by dsimp only;omega⟩;simp(disch:=omega) only[go_sem,↓reduceIte,e0,e1,e6,e7,e8];(repeat' apply And.intro)<;>(try first | rfl | assumption | omega);exact Da7 hl hh (by omega) (List.getElem?_eq_getElem hm) hb
   | false=>
    simp(disch:=omega) only[go_sem,↓reduceIte,e0,e1,e6,e7,e8];refine⟨(i,(i+j)/2),_,Ni.refl _,(hI _ _ _).2 ?_,by dsimp only;omega⟩;simp(disch:=omega) only[go_sem,↓reduceIte,e0,e1,e6,e7,e8];(repeat' apply And.intro)<;>(try first | rfl | assumption | omega);exact Cd2 hl hh (by omega) (by omega) (List.getElem?_eq_getElem hm) hb
  ·have:i=j:=by omega
   subst this;have hend:=Co6 hh;by_cases hi:i<l.length
   ·have hi':(i:Int)<(l.length:Int):=by omega
    have hg:(l.map DVal.str)[i]? =some (.str l[i]):=by rw[List.getElem?_map,List.getElem?_eq_getElem hi];rfl
    rw[List.getElem?_eq_getElem hi] at hend;by_cases hw:l[i]=s
    ·simp(disch:=omega) only[go_sem,↓reduceIte,e0,e1,e6,e7,e8,hi',hi,hg,hw];refine Nu.refl ⟨⟨i,?_⟩,rfl⟩;rw[hend,hw];simp
    ·simp(disch:=omega) only[go_sem,↓reduceIte,e0,e1,e6,e7,e8,hi',hi,hg,hw];refine(Bc3 G _ l[i]).mono ?_;rintro _ H1 ⟨rfl,rfl⟩;simp(disch:=omega) only[go_sem,↓reduceIte,e0,e1,e6,e7,e8,hi',hi,hg,hw];refine Nu.refl ⟨⟨i,?_⟩,rfl⟩;rw[hend];simp [hw]
   ·have hi': ¬(i:Int)<(l.length:Int):=by omega
    rw[List.getElem?_eq_none (by omega)] at hend;simp(disch:=omega) only[go_sem,↓reduceIte,e0,e1,e6,e7,e8,hi'];refine Nu.refl ⟨⟨i,?_⟩,rfl⟩;rw[hend];simp
theorem Bc5 {s:List UInt8} {k:Nat} {c:UInt8} (h:s[k]? =some c) (hc:c.toNat<128):Ln s k=(c.toNat,1):=by
 obtain⟨hk,rfl⟩:=List.getElem?_eq_some_iff.1 h;exact Go.decode_ascii ⟨⟨s⟩⟩ k hk hc
theorem Cd6 {s:List UInt8} {k:Nat} {c:UInt8} (h:s[k]? =some c) (hc:128<=c.toNat):128<=(Ln s k).1:=by
 obtain⟨hk,rfl⟩:=List.getElem?_eq_some_iff.1 h;exact(Go.decode_high ⟨⟨s⟩⟩ k hk hc).1
theorem Cd7 {c:UInt8} (h:126<c.toNat):Dt c=false:=by
 cases hw:Dt c with
 | false=>rfl
 | true=>have:=(Cd1 hw).2;omega
set_option maxHeartbeats 1000000 in
theorem Cd8 (G:Nat->DVal) (H:Ac) (s:List UInt8) (hs:s.length<=1000000000):Ai Tryz.prog G 134 [.str s] H (Au (.str (Dg s)) H):=by
 refine Ad Tryz.func134 Tryz.call134 rfl (by kernel_rfl) ?_;simp(disch:=omega) only[go_sem,↓reduceIte];intro r hr;obtain⟨I,hI⟩: ∃I:Nat->(Nat->DVal)->Ac->Prop,∀k env heap,I k env heap↔(env 0= .str s/\env 6= .optr r 0/\(s.take k).all Dt=true/\k<=s.length/\heap=upd H r (some (.iter s k))):=⟨_,fun _ _ _=>Iff.rfl⟩;refine Bt4.run I (fun k=>s.length-k) 0 ((hI _ _ _).2 ?_) ?_
 ·simp(disch:=omega) only[go_sem,↓reduceIte]
 ·intro k env heap hi;obtain⟨e0,e6,hw,hk,rfl⟩:=(hI _ _ _).1 hi;by_cases hlt:k<s.length
  ·have hg:s[k]? =some s[k]:=List.getElem?_eq_getElem hlt;have hend:Dt s[k]=false->Dg s=s.take k:=fun h=>Bu7 hw hg h;have hstep:Dt s[k]=true->(s.take (k+1)).all Dt=true:=fun h=>by
    rw[List.take_add_one,hg,List.all_append,hw];simpa using h
   have hki:(k:Int)<=(s.length:Int):=by omega
   by_cases h126:s[k].toNat<=126
   ·have hrn:=Bc5 hg (by omega);have h126': ¬(126:Int)<(s[k].toNat:Int):=by omega
    have hwr:IntKind.u8.wrap (s[k].toNat:Int)=(s[k].toNat:Int):=by rw[IntKind.wrap_u8];have:=s[k].toNat_lt;omega
    simp(disch:=omega) only[go_sem,↓reduceIte,e0,e6,hlt,hrn,h126',hwr];refine(Xz G _ s[k]).mono ?_;rintro _ H1 ⟨rfl,rfl⟩;cases hle:Ez s[k] with
    | true=>
     simp(disch:=omega) only[go_sem,↓reduceIte,e0,e6,hlt,hrn,h126',hwr];refine⟨k+1,_,Ni.refl _,(hI _ _ _).2 ?_,by omega⟩;simp(disch:=omega) only[go_sem,↓reduceIte,e0,e6];(repeat' apply And.intro)<;>(try first | rfl | assumption | omega);exact hstep (Bb8 hle)
    | false=>
     simp(disch:=omega) only[go_sem,↓reduceIte,e0,e6,hlt,hrn,h126',hwr];refine(Bo3 G _ s[k]).mono ?_;rintro _ H1 ⟨rfl,rfl⟩;cases hdi:Fi s[k] with
     | true=>
      simp(disch:=omega) only[go_sem,↓reduceIte,e0,e6,hlt,hrn,h126',hwr];refine⟨k+1,_,Ni.refl _,(hI _ _ _).2 ?_,by omega⟩;simp(disch:=omega) only[go_sem,↓reduceIte,e0,e6];(repeat' apply And.intro)<;>(try first | rfl | assumption | omega);exact hstep (Bo0 hdi)
     | false=>
      by_cases h95:s[k]=95
      ·have h95':(s[k].toNat:Int)=95:=by rw[h95];rfl
       simp(disch:=omega) only[go_sem,↓reduceIte,e0,e6,hlt,hrn,h126',hwr,h95'];refine⟨k+1,_,Ni.refl _,(hI _ _ _).2 ?_,by omega⟩;simp(disch:=omega) only[go_sem,↓reduceIte,e0,e6];(repeat' apply And.intro)<;>(try first | rfl | assumption | omega);exact hstep (by rw[h95];rfl)
      ·have h95': ¬(s[k].toNat:Int)=95:=Lw (d:=95) h95;simp(disch:=omega) only[go_sem,↓reduceIte,e0,e6,hlt,hrn,h126',hwr,h95',hki];refine Nu.dropA r hr (Nu.refl ⟨?_,rfl⟩);rw[hend (by simp [Dt,hle,hdi,h95])];simp
   ·have hlo:126<((Ln s k).1:Int):=by
     by_cases h128:s[k].toNat<128
     ·rw[Bc5 hg h128];dsimp only;omega
     ·have:=Cd6 hg (by omega);omega
    simp(disch:=omega) only[go_sem,↓reduceIte,e0,e6,hlt,hlo,hki];refine Nu.dropA r hr (Nu.refl ⟨?_,rfl⟩);rw[hend (Cd7 (by omega))];simp
  ·have:k=s.length:=by omega
   subst this;simp(disch:=omega) only[go_sem,↓reduceIte,e0,e6,hlt];refine Nu.dropA r hr (Nu.refl ⟨?_,rfl⟩);rw[List.take_length] at hw;rw[Dn9.2 hw]
end
section
variable {G:Nat->DVal} {H:Ac}
def Zm:List UInt8:= [97,98,111,114,116,32,97,98,115,32,97,99,99,101,112,116,32,97,99,99,101,115,115,32,97,108,105,97,115,101,100,32,97,108,108,32,97,110,100,32,97,114,114,97,121,32,98,101,103,105,110,32,98,111,100,121,32,99,97,115,101,32,99,111,110,115,116,97,110,116,32,100,101,99,108,97,114,101,32,100,101,108,97,121,32,100,111,32,101,108,115,101,32,101,108,115,105,102,32,101,110,100,32,101,110,116,114,121,32,101,120,99,101,112,116,105,111,110,32,101,120,105,116,32,102,111,114,32,102,117,110,99,116,105,111,110,32,103,101,110,101,114,105,99,32,105,102,32,105,110,32,105,115,32,108,105,109,105,116,101,100,32,108,111,111,112,32,109,111,100,32,110,101,119,32,110,111,116,32,110,117,108,108,32,111,102,32,111,114,32,111,116,104,101,114,115,32,111,117,116,32,112,97,99,107,97,103,101,32,112,114,97,103,109,97,32,112,114,105,118,97,116,101,32,112,114,111,99,101,100,117,114,101,32,112,114,111,116,101,99,116,101,100,32,114,97,105,115,101,32,114,97,110,103,101,32,114,101,99,111,114,100,32,114,101,109,32,114,101,110,97,109,101,115,32,114,101,113,117,101,117,101,32,114,101,116,117,114,110,32,114,101,118,101,114,115,101,32,115,101,108,101,99,116,32,115,101,112,97,114,97,116,101,32,115,117,98,116,121,112,101,32,116,97,115,107,32,116,101,114,109,105,110,97,116,101,32,116,104,101,110,32,116,121,112,101,32,117,110,116,105,108,32,117,115,101,32,119,104,101,110,32,119,104,105,108,101,32,119,105,116,104,32,120,111,114]
theorem Bc6: ∀b∈Zm,b.toNat<128:=by decide+kernel
theorem Bo5:Lib.fields Zm=An4:=by kernel_rfl
theorem Cd9 (hG:GX G) (H:Ac):Ai Tryz.prog G 158 [] H (Au (Rz An4) H):=by
 refine Ad Tryz.func158 Tryz.call158 rfl (by kernel_rfl) ?_;simp(disch:=omega) only[go_sem,↓reduceIte];show Ai _ _ _ [.str Zm] _ _;refine(Cd4 hG.space Zm (by decide+kernel) (fun j b h=>Bc6 b (List.mem_of_getElem? h))).mono ?_;rintro _ H1 ⟨rfl,rfl⟩;rw[Bo5];simp(disch:=omega) only[go_sem,↓reduceIte];exact Nu.refl ⟨rfl,rfl⟩
theorem Ad9 (hG:GX G) (H:Ac) (s:List UInt8):Ai Tryz.prog G 131 [.str s] H (Au (.bool (Qc s)) H):=by
 refine Ad Tryz.func131 Tryz.call131 rfl (by kernel_rfl) ?_;simp(disch:=omega) only[go_sem,↓reduceIte];refine(Cd9 hG _).mono ?_;rintro _ H1 ⟨rfl,rfl⟩;simp(disch:=omega) only[go_sem,↓reduceIte];refine(Bc4 G _ An4 s Bc1 (by decide)).mono ?_;rintro _ H2 ⟨⟨i,rfl⟩,rfl⟩;simp(disch:=omega) only[go_sem,↓reduceIte];exact Nu.refl ⟨rfl,rfl⟩
theorem Sv (hG:GX G) (H:Ac) (s:List UInt8) (hs:s.length<=9223372036854775807):Ai Tryz.prog G 89 [.str s] H (Au (.bool (Kh s)) H):=by
 refine Ad Tryz.func89 Tryz.call89 rfl (by kernel_rfl) ?_
 match s with
 | []=>
  simp(disch:=omega) only[go_sem,↓reduceIte]
  exact Nu.refl ⟨rfl,rfl⟩
 | c::r=>
  have hne: ¬(c::r= []):=by simp
  have h0:(c::r)[0]? =some c:=rfl
  rw[Db0]
  by_cases hl:(c::r).length<=32
  ·have hl':((c::r).length:Int)<=32:=by omega
   simp(disch:=omega) only[go_sem,↓reduceIte,hne,hl',h0]
   refine(Xz G _ c).mono ?_
   rintro _ H1 ⟨rfl,rfl⟩
   cases hle:Ez c with
   | false=>
    simp(disch:=omega) only[go_sem,↓reduceIte,hne,hl',h0]
    exact Nu.refl ⟨by simp,rfl⟩
   | true=>
    simp(disch:=omega) only[go_sem,↓reduceIte,hne,hl',h0]
    refine(Cd8 G _ (c::r) (by omega)).mono ?_
    rintro _ H1 ⟨rfl,rfl⟩
    by_cases hw:Dg (c::r)=c::r
    ·simp(disch:=omega) only[go_sem,↓reduceIte,hne,hl',h0,hw]
     refine(Ad9 hG _ (c::r)).mono ?_
     rintro _ H1 ⟨rfl,rfl⟩
     simp(disch:=omega) only[go_sem,↓reduceIte,hne,hl',h0,hw]
     exact Nu.refl ⟨by first | rfl | (rw[List.length_cons] at hl;simp [hw];intro _;omega),rfl⟩
    ·simp(disch:=omega) only[go_sem,↓reduceIte,hne,hl',h0,hw]
     exact Nu.refl ⟨by first | rfl | simp [hw],rfl⟩
  ·have hl': ¬((c::r).length:Int)<=32:=by omega
   simp(disch:=omega) only[go_sem,↓reduceIte,hne,hl',h0]
   exact Nu.refl ⟨by first | rfl | (rw[List.length_cons] at hl;simp;intro h;omega),rfl⟩
theorem An7 (a:UInt8) (r:List UInt8) (h: ∀b r',r=b::r'->(a,b)∉Um):Qd (a::r)=if a∈Bb6 then 1 else 0:=by
 match r with
 | []=>rfl
 | b::r'=>simp only[Qd,if_neg (h b r' rfl)]
end
end Go.Dl

-- The reference of chapter 2: names, tokens that are the same; slices of tokens.
namespace Go.Dl
open Go Go.Proofs Go.RowKit
set_option maxRecDepth 100000
def Ec (t:Tok):List DVal:= [.int .u8 t.kind,dI t.line, .str t.text,dI t.n]
theorem Bm (t:Tok):(Ec t).length=4:=rfl
theorem Il (t:Tok):(Ec t).take 4=Ec t:=rfl
theorem Im (t:Tok):(Ec t).drop 4= []:=rfl
theorem Gg (t:Tok):(Ec t).all (fun d=>d.one)=true:=rfl
section
variable {G:Nat->DVal} {H:Ac}
theorem Lx (c:UInt8) (r:List UInt8):Dd (c::r)=if Ez c then(if Qc (Dg (c::r)) then(⟨2,0,Dg (c::r),0⟩,(Dg (c::r)).length) else if Kh (Dg (c::r)) then(⟨1,0,Dg (c::r),0⟩,(Dg (c::r)).length) else(Za,0))
  else if Fi c then(match Ak8 (Dg (c::r)) with | some v=>(⟨3,0,[],v⟩,(Dg (c::r)).length) | none=>(Za,0)) else(⟨4,0,(c::r).take (Qd (c::r)),0⟩,Qd (c::r)):=rfl
def Ae0 (p:Tok×Nat):DVal:= .tuple [.agg (Ec p.1),dI p.2]
end
def Cc (l:List Tok):DVal:= .vslice (l.flatMap Ec) l.length
section
end
def Bu8 (a b:Tok):Bool:=decide ({ a with line:=b.line }=b)
def Px:List Tok->List Tok->Bool
 | [],[]=>true
 | a::l,b::m=>Bu8 a b&&Px l m
 | _,_=>false
section
variable {G:Nat->DVal} {H:Ac}
theorem An8: ∀(l m:List Tok),Px l m=true->l.length=m.length
 | [],[],_=>rfl
 | [],_::_,h=>by cases h
 | _::_,[],h=>by cases h
 | a::l,b::m,h=>by
  rw[Px,Bool.and_eq_true] at h;rw[List.length_cons,List.length_cons,An8 l m h.2]
theorem Bo6: ∀ {l m:List Tok} {k:Nat} (h1:k<l.length) (h2:k<m.length),Px (l.drop k) (m.drop k)=(Bu8 l[k] m[k]&&Px (l.drop (k+1)) (m.drop (k+1))):=fun h1 h2=>by
 rw[List.drop_eq_getElem_cons h1,List.drop_eq_getElem_cons h2,Px]
end
theorem Hz.sub1' {H H':Ac} {v v':DVal} (h:Hz H v H' v') {pre post:List DVal} (hp:Ul.looses pre=true) (hq:Ul.looses post=true) (w:World) (hw:Av w H): ∀xs,Aq w H (pre++v::post) xs->Aq w H' (pre++v'::post) xs:=by
 intro xs hx;have e:xs=xs.take pre.length++xs.drop pre.length:=(List.take_append_drop _ _).symm;have h1:=hx.take pre.length;have h2:=hx.drop pre.length;rw[List.take_left] at h1;rw[List.drop_left] at h2;rw[e];refine(Jq _ _ hp h1).append ?_;simp only[Aq] at h2⊢
 obtain⟨y,ys,h3,h4,h5⟩:=h2;rw[h3];exact⟨y,ys,rfl,(h w hw).2.2 y h4,Jq _ _ hq h5⟩
theorem Hz.tuple1' {H H':Ac} {v v':DVal} (h:Hz H v H' v') {pre post:List DVal} (hp:Ul.looses pre=true) (hq:Ul.looses post=true):Hz H (.tuple (pre++v::post)) H' (.tuple (pre++v'::post)):=fun w hw=>
 ⟨(h w hw).1,(h w hw).2.1,fun x hx=>by
  simp only[Rel] at hx⊢
  obtain⟨xs,rfl,hl⟩:=hx;exact⟨xs,rfl,h.sub1' hp hq w hw _ hl⟩⟩
theorem Dj.dLen {H H':Ac} {e t:TypeId} {size n:Nat} {cs:List DVal} {v:DVal} (h:Dj H e size n cs v H') {dst:Option Nat} {K:DK} {s:DS}:Dl.dLen dst (some (.slice t)) v K s=Bb dst (dI n) K s:=by
 rcases h with⟨rfl,_,rfl,_⟩ | ⟨r,_,_,rfl,_,_⟩
 ·rfl
 ·rfl
section
variable {G:Nat->DVal} {H:Ac}
theorem Hr {H':Ac} (h:Sub H H') (ds:List DVal) (hd:Ul.looses ds=true):Hz H' (.tuple (.nilSlice::ds)) H (.tuple (Cc []::ds)):=
 (Hz.sub h _).trans (Hz.tuple1' (pre:= []) (Dj.nil 31 4 (Sub.refl H)).ghost rfl hd)
end
section
variable {G:Nat->DVal} {H:Ac}
theorem Pa (G:Nat->DVal) (H:Ac) (b:UInt8):Ai Tryz.prog G 124 [.int .u8 b.toNat] H (Au (.bool (Ez b)) H):=by
 refine Ad Tryz.func124 Tryz.call124 rfl (by kernel_rfl) ?_;have hd:Ez b=(decide ((65:Int)<=b.toNat)&&decide ((b.toNat:Int)<=90) || decide ((97:Int)<=b.toNat)&&decide ((b.toNat:Int)<=122)):=by
  rw[Ez,decide_eq_decide.2 (show 65<=b.toNat↔(65:Int)<=b.toNat by omega),decide_eq_decide.2 (show b.toNat<=90↔(b.toNat:Int)<=90 by omega),decide_eq_decide.2 (show 97<=b.toNat↔(97:Int)<=b.toNat by omega),decide_eq_decide.2 (show b.toNat<=122↔(b.toNat:Int)<=122 by omega)]
 rw[hd];generalize (b.toNat:Int)=n;by_cases h1:65<=n
 ·by_cases h2:n<=90
  ·simp(disch:=omega) only[go_sem,↓reduceIte,h1,h2];exact Nu.refl ⟨by simp,rfl⟩
  ·by_cases h3:97<=n
   ·simp(disch:=omega) only[go_sem,↓reduceIte,h1,h2,h3];exact Nu.refl ⟨by simp,rfl⟩
   ·simp(disch:=omega) only[go_sem,↓reduceIte,h1,h2,h3];exact Nu.refl ⟨by simp,rfl⟩
 ·have h3: ¬97<=n:=by omega
  simp(disch:=omega) only[go_sem,↓reduceIte,h1,h3];exact Nu.refl ⟨by simp,rfl⟩
theorem Qv (G:Nat->DVal) (H:Ac) (b:UInt8):Ai Tryz.prog G 127 [.int .u8 b.toNat] H (Au (.bool (Fi b)) H):=by
 refine Ad Tryz.func127 Tryz.call127 rfl (by kernel_rfl) ?_;by_cases h1:48<=b.toNat
 ·have h1':(48:Int)<=(b.toNat:Int):=by omega
  simp(disch:=omega) only[go_sem,↓reduceIte,h1'];refine Nu.refl ⟨?_,rfl⟩;rw[Fi,decide_eq_decide.2 (show(b.toNat:Int)<=57↔b.toNat<=57 by omega),decide_eq_true h1,Bool.true_and]
 ·have h1': ¬(48:Int)<=(b.toNat:Int):=by omega
  simp(disch:=omega) only[go_sem,↓reduceIte,h1'];refine Nu.refl ⟨?_,rfl⟩;rw[Fi,decide_eq_false h1];rfl
theorem Ae1 (G:Nat->DVal) (H:Ac) (b:UInt8):Ai Tryz.prog G 153 [.int .u8 b.toNat] H (Au (.bool (Dt b)) H):=by
 refine Ad Tryz.func153 Tryz.call153 rfl (by kernel_rfl) ?_;simp(disch:=omega) only[go_sem,↓reduceIte];refine(Pa G _ b).mono ?_;rintro _ H1 ⟨rfl,rfl⟩;cases hl:Ez b with
 | true=>
  simp(disch:=omega) only[go_sem,↓reduceIte];exact Nu.refl ⟨by rw[Dt,hl];rfl,rfl⟩
 | false=>
  simp(disch:=omega) only[go_sem,↓reduceIte];refine(Qv G _ b).mono ?_;rintro _ H1 ⟨rfl,rfl⟩;cases hd:Fi b with
  | true=>
   simp(disch:=omega) only[go_sem,↓reduceIte];exact Nu.refl ⟨by rw[Dt,hl,hd];rfl,rfl⟩
  | false=>
   by_cases h95:b=95
   ·subst h95;simp(disch:=omega) only[go_sem,↓reduceIte];exact Nu.refl ⟨rfl,rfl⟩
   ·have h95': ¬(b.toNat:Int)=95:=Lw (d:=95) h95;simp(disch:=omega) only[go_sem,↓reduceIte,h95'];exact Nu.refl ⟨by rw[Dt,hl,hd,decide_eq_false h95];rfl,rfl⟩
theorem Db1 (G:Nat->DVal) (H:Ac) (l:List (List UInt8)) (s:List UInt8) (hl:l.length<=1000000):Ai Tryz.prog G 154 [Rz l, .str s] H (Au (.bool (decide (s∈l))) H):=by
 refine Ad Tryz.func154 Tryz.call154 rfl (by kernel_rfl) ?_;simp(disch:=omega) only[go_sem,↓reduceIte,Rz];obtain⟨I,hI⟩: ∃I:Nat->(Nat->DVal)->Ac->Prop,∀k env heap,I k env heap↔(env 0= .vslice (l.map .str) l.length/\env 1= .str s/\env 5=dI k/\k<=l.length/\(∀x∈l.take k,x≠s)/\heap=H):=⟨_,fun _ _ _=>Iff.rfl⟩;refine Bt4.run I (fun k=>l.length-k) 0 ((hI _ _ _).2 ?_) ?_
 ·simp(disch:=omega) only[go_sem,↓reduceIte];(repeat' apply And.intro)<;>(try first | rfl | assumption | omega);intro x hx;simp at hx
 ·intro k env heap hi;obtain⟨e0,e1,e5,hk,hn,rfl⟩:=(hI _ _ _).1 hi;by_cases hlt:k<l.length
  ·have hlt':(k:Int)<(l.length:Int):=by omega
   have hg:(l.map DVal.str)[k]? =some (.str l[k]):=by rw[List.getElem?_map,List.getElem?_eq_getElem hlt];rfl
   by_cases hw:l[k]=s
   ·simp(disch:=omega) only[go_sem,↓reduceIte,e0,e1,e5,hlt',hlt,hg,hw,Int.toNat_natCast];exact Nu.refl ⟨by rw[decide_eq_true (by rw[<-hw];exact List.getElem_mem hlt)],rfl⟩
   ·have hwd:IntKind.i64.wrap ((k:Int)+1)=((k+1:Nat):Int):=by rw[IntKind.wrap_i64];omega
    simp(disch:=omega) only[go_sem,↓reduceIte,e0,e1,e5,hlt',hlt,hg,hw,Int.toNat_natCast];refine⟨k+1,_,Ni.refl _,(hI _ _ _).2 ?_,by omega⟩;simp(disch:=omega) only[go_sem,↓reduceIte,e0,e1,e5,hwd];(repeat' apply And.intro)<;>(try first | rfl | assumption | omega);exact It (p:=fun x=>x≠s) hlt hn hw
  ·have:k=l.length:=by omega
   subst this;simp(disch:=omega) only[go_sem,↓reduceIte,e0,e1,e5];rw[List.take_length] at hn;exact Nu.refl ⟨by rw[decide_eq_false (fun h=>hn s h rfl)],rfl⟩
def Ya:List (List UInt8):= [[61,62],[46,46],[58,61],[47,61],[60,61],[62,61],[60,62],[40],[41],[44],[59],[58],[46],[39],[43],[45],[42],[47],[61],[60],[62],[124]]
theorem Bo7 (G:Nat->DVal) (H:Ac):Ai Tryz.prog G 155 [] H (Au (Rz An4) H):=by
 refine Ad Tryz.func155 Tryz.call155 rfl (by kernel_rfl) ?_;simp(disch:=omega) only[go_sem,↓reduceIte];change Bi5 _ _ _ _ (some (An4.map .str)) _ _;simp(disch:=omega) only[go_sem,↓reduceIte];intro r hr;dsimp only at hr;simp(disch:=omega) only[go_sem,↓reduceIte];refine Nu.fzA r hr ?_;simp only[fz,if_pos,List.drop_zero];refine Nu.refl ⟨?_,rfl⟩;rfl
theorem Bo8 (G:Nat->DVal) (H:Ac):Ai Tryz.prog G 156 [] H (Au (Rz Ya) H):=by
 refine Ad Tryz.func156 Tryz.call156 rfl (by kernel_rfl) ?_;simp(disch:=omega) only[go_sem,↓reduceIte];change Bi5 _ _ _ _ (some (Ya.map .str)) _ _;simp(disch:=omega) only[go_sem,↓reduceIte];intro r hr;dsimp only at hr;simp(disch:=omega) only[go_sem,↓reduceIte];refine Nu.fzA r hr ?_;simp only[fz,if_pos,List.drop_zero];refine Nu.refl ⟨?_,rfl⟩;rfl
theorem Rn (G:Nat->DVal) (H:Ac) (s:List UInt8):Ai Tryz.prog G 125 [.str s] H (Au (.bool (Qc s)) H):=by
 refine Ad Tryz.func125 Tryz.call125 rfl (by kernel_rfl) ?_;simp(disch:=omega) only[go_sem,↓reduceIte];refine(Bo7 G _).mono ?_;rintro _ H1 ⟨rfl,rfl⟩;simp(disch:=omega) only[go_sem,↓reduceIte];refine(Db1 G _ An4 s (by decide)).mono ?_;rintro _ H1 ⟨rfl,rfl⟩;simp(disch:=omega) only[go_sem,↓reduceIte];exact Nu.refl ⟨rfl,rfl⟩
end
section
variable {G:Nat->DVal} {H:Ac}
theorem Pb (G:Nat->DVal) (H:Ac) (s:List UInt8):Ai Tryz.prog G 126 [.str s] H (Au (.bool (Kh s)) H):=by
 refine Ad Tryz.func126 Tryz.call126 rfl (by kernel_rfl) ?_
 match s with
 | []=>
  simp(disch:=omega) only[go_sem,↓reduceIte,List.length_nil]
  exact Nu.refl ⟨rfl,rfl⟩
 | c::r=>
  obtain⟨s,hs⟩: ∃s,s=c::r:=⟨_,rfl⟩
  have h0:s[0]? =some c:=by rw[hs];rfl
  have hpos:0<s.length:=by rw[hs];simp
  have hdef:Kh s=(Ez c&&decide (s.length<=32)&&s.all Dt&&!Qc s):=by rw[hs];rfl
  rw[<-hs,hdef]
  have h1: ¬(s.length:Int)<1:=by omega
  by_cases hl:s.length<=32
  ·have hl': ¬(32:Int)<(s.length:Int):=by omega
   simp(disch:=omega) only[go_sem,↓reduceIte,h1,hl',h0]
   refine(Pa G _ c).mono ?_
   rintro _ H1 ⟨rfl,rfl⟩
   cases hle:Ez c with
   | false=>
    simp(disch:=omega) only[go_sem,↓reduceIte]
    exact Nu.refl ⟨rfl,rfl⟩
   | true=>
    simp(disch:=omega) only[go_sem,↓reduceIte]
    refine(Rn G _ s).mono ?_
    rintro _ H1 ⟨rfl,rfl⟩
    cases hk:Qc s with
    | true=>
     simp(disch:=omega) only[go_sem,↓reduceIte]
     exact Nu.refl ⟨by simp,rfl⟩
    | false=>
     simp(disch:=omega) only[go_sem,↓reduceIte]
     obtain⟨I,hI⟩: ∃I:Nat->(Nat->DVal)->Ac->Prop,∀k env heap,I k env heap↔(env 0= .str s/\env 3=dI k/\k<=s.length/\(s.take k).all Dt=true/\heap=H1):=⟨_,fun _ _ _=>Iff.rfl⟩
     refine Bt4.run I (fun k=>s.length-k) 0 ((hI _ _ _).2 ?_) ?_
     ·simp(disch:=omega) only[go_sem,↓reduceIte]
      (repeat' apply And.intro)<;>(try first | rfl | assumption | omega)
     ·intro k env heap hi
      obtain⟨e0,e3,hk2,hw,rfl⟩:=(hI _ _ _).1 hi
      by_cases hlt:k<s.length
      ·have hlt':(k:Int)<(s.length:Int):=by omega
       have hg:s[k]? =some s[k]:=List.getElem?_eq_getElem hlt
       have hwd:IntKind.i64.wrap ((k:Int)+1)=((k+1:Nat):Int):=by rw[IntKind.wrap_i64];omega
       simp(disch:=omega) only[go_sem,↓reduceIte,e0,e3,hlt',hg,Int.toNat_natCast]
       refine(Ae1 G _ s[k]).mono ?_
       rintro _ H2 ⟨rfl,rfl⟩
       cases hb:Dt s[k] with
       | true=>
        simp(disch:=omega) only[go_sem,↓reduceIte,e0,e3]
        refine⟨k+1,_,Ni.refl _,(hI _ _ _).2 ?_,by omega⟩
        simp(disch:=omega) only[go_sem,↓reduceIte,e0,e3,hwd]
        (repeat' apply And.intro)<;>(try first | rfl | assumption | omega)
        rw[List.take_add_one,hg,List.all_append,hw];simpa using hb
       | false=>
        simp(disch:=omega) only[go_sem,↓reduceIte,e0,e3]
        have:s.all Dt=false:=by
         rw[List.all_eq_false];exact⟨s[k],List.getElem_mem hlt,by rw[hb];simp⟩
        exact Nu.refl ⟨by rw[this],rfl⟩
      ·have:k=s.length:=by omega
       subst this
       simp(disch:=omega) only[go_sem,↓reduceIte,e0,e3]
       rw[List.take_length] at hw
       exact Nu.refl ⟨by rw[hw],rfl⟩
  ·have hl':(32:Int)<(s.length:Int):=by omega
   simp(disch:=omega) only[go_sem,↓reduceIte,h1,hl',h0]
   exact Nu.refl ⟨by simp,rfl⟩
end
theorem Cp0 (a b:Tok):Bu8 a b=(decide (a.kind=b.kind)&&(decide (a.text=b.text)&&decide (a.n=b.n))):=by
 rw[Bu8];cases a;cases b;simp only[Tok.mk.injEq,Bool.decide_and,decide_true,Bool.true_and]
theorem Bc7 {l m:List Tok} (h:l.length≠m.length):Px l m=false:=by
 cases e:Px l m with
 | false=>rfl
 | true=>exact absurd (An8 l m e) h
section
variable {G:Nat->DVal} {H:Ac}
theorem Sw (G:Nat->DVal) (H:Ac) (l m:List Tok) (hl:l.length<=1000000000):Ai Tryz.prog G 53 [Cc l,Cc m] H (Au (.bool (Px l m)) H):=by
 refine Ad Tryz.func53 Tryz.call53 rfl (by kernel_rfl) ?_;by_cases hlen:l.length=m.length
 ·have hlen':(l.length:Int)=(m.length:Int):=by omega
  simp(disch:=omega) only[go_sem,↓reduceIte,Cc,hlen'];obtain⟨I,hI⟩: ∃I:Nat->(Nat->DVal)->Ac->Prop,∀k env heap,I k env heap↔(env 0= .vslice (l.flatMap Ec) l.length/\env 1= .vslice (m.flatMap Ec) m.length/\env 5=dI k/\k<=l.length/\Px l m=Px (l.drop k) (m.drop k)/\heap=H):=⟨_,fun _ _ _=>Iff.rfl⟩;refine Bt4.run I (fun k=>l.length-k) 0 ((hI _ _ _).2 ?_) ?_
  ·simp(disch:=omega) only[go_sem,↓reduceIte];(repeat' apply And.intro)<;>(try first | rfl | assumption | omega)
  ·intro k env heap hi;obtain⟨e0,e1,e5,hk,hsm,rfl⟩:=(hI _ _ _).1 hi;have hfl:=An Bm l;have hfm:=An Bm m;by_cases hlt:k<l.length
   ·have hlt':(k:Int)<(m.length:Int):=by omega
    have hlt2:(k:Int)<(l.length:Int):=by omega
    have hkm:k<m.length:=by omega
    have g0:(l.flatMap Ec)[k*4]? =some (.int .u8 l[k].kind):=Bs Bm l k hlt 0 (by omega);have g2:(l.flatMap Ec)[k*4+2]? =some (.str l[k].text):=Bs Bm l k hlt 2 (by omega);have g3:(l.flatMap Ec)[k*4+3]? =some (dI l[k].n):=Bs Bm l k hlt 3 (by omega);have m0:(m.flatMap Ec)[k*4]? =some (.int .u8 m[k].kind):=Bs Bm m k hkm 0 (by omega);have m2:(m.flatMap Ec)[k*4+2]? =some (.str m[k].text):=Bs Bm m k hkm 2 (by omega);have m3:(m.flatMap Ec)[k*4+3]? =some (dI m[k].n):=Bs Bm m k hkm 3 (by omega);have hwd:IntKind.i64.wrap ((k:Int)+1)=((k+1:Nat):Int):=by rw[IntKind.wrap_i64];omega
    have hst:=Bo6 hlt hkm;rw[hst,Cp0] at hsm;simp(disch:=omega) only[go_sem,↓reduceIte,e0,e1,e5,hlt',hlt2,hfl,hfm,Int.toNat_natCast];refine Aj (by kernel_rfl) (.take 0 (.take 1 (.take 2 (.take 3 (.take 4 (.take 5 (.take 6 (.take 7 (.take 8 (.take 9 (.take 10 (.take 11 (.take 12 (.take 13 (.take 14 (.take 15 (.take 16 (.take 17 (.take 18 (.take 19 (.take 20 (.take 21 (.take 22 (.take 23 (.take 24 (.take 25 (.take 26 (.take 27 (.take 28 (.take 29 (.take 30 (.take 31 (.take 32 (.take 33 (.take 34 (.take 35 (.take 36 .done))))))))))))))))))))))))))))))))))))) (by kernel_rfl) ?_;by_cases h1:l[k].kind=m[k].kind
    ·by_cases h2:l[k].text=m[k].text
     ·by_cases h3:l[k].n=m[k].n
      ·rw[decide_eq_true h1,decide_eq_true h2,decide_eq_true h3,Bool.true_and,Bool.true_and,Bool.true_and] at hsm;simp(disch:=omega) only[go_sem,↓reduceIte,e0,e1,e5,hlt',hlt2,hfl,hfm,Int.toNat_natCast,g0,g2,g3,m0,m2,m3,h1,h2,h3];refine⟨k+1,_,Ni.refl _,(hI _ _ _).2 ?_,by omega⟩;simp(disch:=omega) only[go_sem,↓reduceIte,e0,e1,e5,hwd];(repeat' apply And.intro)<;>(try first | rfl | assumption | omega)
      ·rw[decide_eq_false h3,Bool.and_false,Bool.and_false,Bool.false_and] at hsm;simp(disch:=omega) only[go_sem,↓reduceIte,e0,e1,e5,hlt',hlt2,hfl,hfm,Int.toNat_natCast,g0,g2,g3,m0,m2,m3,h1,h2,h3];exact Nu.refl ⟨by rw[hsm],rfl⟩
     ·rw[decide_eq_false h2,Bool.false_and,Bool.and_false,Bool.false_and] at hsm;simp(disch:=omega) only[go_sem,↓reduceIte,e0,e1,e5,hlt',hlt2,hfl,hfm,Int.toNat_natCast,g0,g2,g3,m0,m2,m3,h1,h2];exact Nu.refl ⟨by rw[hsm],rfl⟩
    ·rw[decide_eq_false h1,Bool.false_and,Bool.false_and] at hsm;simp(disch:=omega) only[go_sem,↓reduceIte,e0,e1,e5,hlt',hlt2,hfl,hfm,Int.toNat_natCast,g0,g2,g3,m0,m2,m3,h1];exact Nu.refl ⟨by rw[hsm],rfl⟩
   ·have:k=l.length:=by omega
    subst this;have hlt': ¬(l.length:Int)<(m.length:Int):=by omega
    simp(disch:=omega) only[go_sem,↓reduceIte,e0,e1,e5,hlt'];refine Nu.refl ⟨?_,rfl⟩;rw[hsm,List.drop_length,hlen,List.drop_length];rfl
 ·have hlen': ¬(l.length:Int)=(m.length:Int):=by omega
  simp(disch:=omega) only[go_sem,↓reduceIte,Cc,hlen'];exact Nu.refl ⟨by rw[Bc7 hlen],rfl⟩
end
end Go.Dl

-- Chapter 3: expressions: the plain laws, part 1: trees.
namespace Go.Dl
open Go
set_option maxRecDepth 10000
mutual
inductive Ex where
 | mk (kind oper n:Int) (s:List UInt8) (l:List Ex) (a:List As) (line ent t:Int)
inductive As where
 | mk (c:List Ch) (e:Ex)
inductive Ch where
 | mk (kind:Int) (l:List Ex)
end
def Ex.kind:Ex->Int | .mk k _ _ _ _ _ _ _ _=>k
def Ex.oper:Ex->Int | .mk _ o _ _ _ _ _ _ _=>o
def Ex.n:Ex->Int | .mk _ _ n _ _ _ _ _ _=>n
def Ex.s:Ex->List UInt8 | .mk _ _ _ s _ _ _ _ _=>s
def Ex.l:Ex->List Ex | .mk _ _ _ _ l _ _ _ _=>l
def Ex.a:Ex->List As | .mk _ _ _ _ _ a _ _ _=>a
def Ex.line:Ex->Int | .mk _ _ _ _ _ _ li _ _=>li
def Ex.ent:Ex->Int | .mk _ _ _ _ _ _ _ en _=>en
def Ex.t:Ex->Int | .mk _ _ _ _ _ _ _ _ t=>t
def As.c:As->List Ch | .mk c _=>c
def As.e:As->Ex | .mk _ e=>e
def Ch.kind:Ch->Int | .mk k _=>k
def Ch.l:Ch->List Ex | .mk _ l=>l
def ex0:Ex:= .mk 0 0 0 [] [] [] 0 0 0
instance:Inhabited Ex:=⟨ex0⟩
instance:Inhabited As:=⟨.mk [] ex0⟩
instance:Inhabited Ch:=⟨.mk 0 []⟩
mutual
def Eg:Ex->Nat
 | .mk _ _ _ _ l a _ _ _=>1+Ae2 l+Wj a
def Ae2:List Ex->Nat
 | []=>0
 | x::l=>Eg x+Ae2 l
def Bc8:As->Nat
 | .mk c e=>Wk c+Eg e
def Wj:List As->Nat
 | []=>0
 | x::l=>Bc8 x+Wj l
def Bu9:Ch->Nat
 | .mk _ l=>Ae2 l
def Wk:List Ch->Nat
 | []=>0
 | x::l=>Bu9 x+Wk l
end
def Bw (x:As):List Ex:=x.c.flatMap Ch.l++ [x.e]
def parts (e:Ex):List Ex:=e.l++e.a.flatMap Bw
def Fa (l:List Ex):Nat:=(l.map Eg).sum
theorem Wl: ∀l:List Ex,Ae2 l=Fa l
 | []=>rfl
 | x::l=>by rw[Ae2,Wl l,Fa,Fa,List.map_cons,List.sum_cons]
theorem Iu (l m:List Ex):Fa (l++m)=Fa l+Fa m:=by simp [Fa]
theorem Ae3: ∀l:List Ch,Wk l=Fa (l.flatMap Ch.l)
 | []=>rfl
 | .mk k x::l=>by rw[Wk,Bu9,Ae3 l,Wl,List.flatMap_cons,Iu];rfl
theorem Ce0 (x:As):Bc8 x=Fa (Bw x):=by
 cases x;rw[Bc8,Ae3,Bw,Iu];simp [Fa,As.c,As.e]
theorem Ae4: ∀l:List As,Wj l=Fa (l.flatMap Bw)
 | []=>rfl
 | x::l=>by rw[Wj,Ce0,Ae4 l,List.flatMap_cons,Iu]
theorem Js (e:Ex):Eg e=1+Fa (parts e):=by
 cases e;rw[Eg,Wl,Ae4,parts,Iu,Nat.add_assoc];rfl
theorem Cp1 {l:List Ex} {x:Ex} (h:x∈l):Eg x<=Fa l:=by
 induction l with
 | nil=>cases h
 | cons y l ih=>
  rw[Fa,List.map_cons,List.sum_cons];rcases List.mem_cons.1 h with rfl | h
  ·omega
  ·have:=ih h;unfold Fa at this;omega
theorem Bc9 {e x:Ex} (h:x∈parts e):Eg x<Eg e:=by
 rw[Js e];have:=Cp1 h;omega
theorem Cd {e x:Ex} (h:x∈e.l):x∈parts e:=List.mem_append_left _ h
theorem Mz {e x:Ex} {a:As} (ha:a∈e.a) (h:x∈Bw a):x∈parts e:=List.mem_append_right _ (List.mem_flatMap.2 ⟨a,ha,h⟩)
theorem La (a:As):a.e∈Bw a:=List.mem_append_right _ (by simp)
theorem Up {a:As} {c:Ch} {x:Ex} (hc:c∈a.c) (h:x∈c.l):x∈Bw a:=List.mem_append_left _ (List.mem_flatMap.2 ⟨c,hc,h⟩)
theorem Ex.ind {p:Ex->Prop} (h: ∀e,(∀x∈parts e,p x)->p e) (e:Ex):p e:=by
 have key: ∀n e,Eg e<n->p e:=by
  intro n
  induction n with
  | zero=>intro e he;omega
  | succ n ih=>
   intro e he;refine h e fun x hx=>ih x ?_;have:=Bc9 hx;omega
 exact key _ e (Nat.lt_succ_self _)
def Bc (e:Ex):Bool:=decide (3<=e.kind)&&decide (e.kind<=8)
def Fv (e:Ex) (k:Nat):Bool:=decide (e.l.length=k)&&Bc (e.l.getD 0 ex0)
def Ki:List As->Bool
 | a::b::r=>(a.c.isEmpty || !b.c.isEmpty)&&Ki (b::r)
 | _=>true
def Bu:List Ch->Bool
 | [c]=>decide (c.kind=1)&&(match c.l with | [x]=>decide (x.kind=3) | _=>false)
 | _=>false
def Cr (n:Nat) (c:Ch):Bool:=
 if c.kind=1 then decide (c.l.length=1) else if c.kind=2 then decide (c.l.length=2) else decide (c.kind=3)&&decide (c.l.length=0)&&decide (n<=1)
def Cq (l:List Ch):Bool:=decide (0<l.length)&&decide (l.length<=16)&&l.all (Cr l.length)
def Gl (l:List As):Bool:=decide (0<l.length)&&decide (l.length<=8)&&Ki l&&l.all fun a=>a.c.isEmpty || Bu a.c
def Qw (l:List Ch):Bool:=match l with | c::_=>decide (c.kind=3) | []=>false
def Ei:List As->Bool
 | []=>true
 | a::r=>(a.c.isEmpty || Cq a.c&&(!Qw a.c || r.isEmpty))&&Ei r
def Zn:List As->Bool
 | [a]=>a.c.isEmpty
 | _=>false
def Ej (l:List As):Bool:=decide (0<l.length)&&decide (l.length<=32)&&Ki l&&!Zn l&&Ei l
def zO (e:Ex):Bool:=decide (e.oper=0)
def zN (e:Ex):Bool:=decide (e.n=0)
def zS (e:Ex):Bool:=decide (e.s= [])
def zA (e:Ex):Bool:=e.a.isEmpty
def Af (e:Ex):Bool:=
 if e.kind=1 then e.l.isEmpty&&decide (0<=e.n)&&decide (e.n<=2147483647)&&zO e&&zS e&&zA e
 else if e.kind=2 then e.l.isEmpty&&zO e&&zN e&&zS e&&zA e
 else if e.kind=3 then e.l.isEmpty&&Kh e.s&&zO e&&zN e&&zA e
 else if e.kind=4\/e.kind=6 then Fv e 1&&Kh e.s&&zO e&&zN e&&zA e
 else if e.kind=5 then Fv e 1&&zO e&&zN e&&zS e&&zA e
 else if e.kind=7 then Fv e 1&&Gl e.a&&zO e&&zN e&&zS e
 else if e.kind=8 then Fv e 2&&zO e&&zN e&&zS e&&zA e
 else if e.kind=9 then e.l.isEmpty&&Ej e.a&&zO e&&zN e&&zS e
 else if e.kind=10 then decide (e.l.length=3)&&zO e&&zN e&&zS e&&zA e
 else if e.kind=11 then decide (e.l.length=1)&&decide (18<=e.oper)&&decide (e.oper<=21)&&zN e&&zS e&&zA e
 else if e.kind=12 then decide (e.l.length=2)&&decide (1<=e.oper)&&decide (e.oper<=17)&&zN e&&zS e&&zA e
 else if e.kind=13\/e.kind=14 then(decide (e.l.length=3) || decide (e.l.length=2)&&Bc (e.l.getD 1 ex0))&&zO e&&zN e&&zS e&&zA e
 else false
mutual
def Ed (d:Nat):Ex->Bool
 | .mk k o n s l a li en t=>decide (d<=32)&&Af (.mk k o n s l a li en t)&&Ae5 (d+1) l&&Zo (d+1) a
def Ae5 (d:Nat):List Ex->Bool
 | []=>true
 | x::l=>Ed d x&&Ae5 d l
def Bo9 (d:Nat):As->Bool
 | .mk c e=>Zp d c&&Ed d e
def Zo (d:Nat):List As->Bool
 | []=>true
 | x::l=>Bo9 d x&&Zo d l
def Cp2 (d:Nat):Ch->Bool
 | .mk _ l=>Ae5 d l
def Zp (d:Nat):List Ch->Bool
 | []=>true
 | x::l=>Cp2 d x&&Zp d l
end
theorem Sx (d:Nat): ∀l:List Ex,Ae5 d l=l.all (Ed d)
 | []=>rfl
 | x::l=>by rw[Ae5,Sx d l,List.all_cons]
theorem Yb (d:Nat): ∀l:List Ch,Zp d l=(l.flatMap Ch.l).all (Ed d)
 | []=>rfl
 | .mk k x::l=>by rw[Zp,Cp2,Yb d l,Sx,List.flatMap_cons,List.all_append];rfl
theorem Bp0 (d:Nat) (x:As):Bo9 d x=(Bw x).all (Ed d):=by
 cases x;rw[Bo9,Yb,Bw,List.all_append];simp [As.c,As.e]
theorem Yc (d:Nat): ∀l:List As,Zo d l=(l.flatMap Bw).all (Ed d)
 | []=>rfl
 | x::l=>by rw[Zo,Bp0,Yc d l,List.flatMap_cons,List.all_append]
theorem Nw (d:Nat) (e:Ex):Ed d e=(decide (d<=32)&&Af e&&(parts e).all (Ed (d+1))):=by
 cases e;rw[Ed,Sx,Yc,parts,List.all_append,Bool.and_assoc (decide (d<=32)&&_)];rfl
def Ia (e:Ex):Bool:=Ed 1 e&&decide (Eg e<=256)
def exX:Ex:= .mk 3 0 0 [120] [] [] 0 0 0
def Bd0 (l:List As):Bool:=Ia (.mk 7 0 0 [] [exX] l 0 0 0)
def Qy (l:List Ch):Bool:=Cq l&&l.all fun c=>c.l.all Ia
def Cb (e:Ex):Int:=
 if e.kind=13\/e.kind=14 then 1
 else if e.kind=11 then(if e.oper=18\/e.oper=19 then 2 else if e.oper=20\/e.oper=21 then 4 else 5)
 else if e.kind=12 then(if 13<=e.oper/\e.oper<=17 then 0 else if 7<=e.oper/\e.oper<=12 then 1 else if e.oper=1\/e.oper=2 then 2 else if 3<=e.oper/\e.oper<=6 then 3 else 5)
 else 5
mutual
def Gr:Ex->Ex->Bool
 | .mk k o n s l a _ _ _,f=>decide (k=f.kind)&&decide (o=f.oper)&&decide (n=f.n)&&decide (s=f.s)&&Gv l f.l&&Gw a f.a
def Gv:List Ex->List Ex->Bool
 | [],[]=>true
 | x::l,y::m=>Gr x y&&Gv l m
 | _,_=>false
def Nx:As->As->Bool
 | .mk c e,y=>Gm c y.c&&Gr e y.e
def Gw:List As->List As->Bool
 | [],[]=>true
 | x::l,y::m=>Nx x y&&Gw l m
 | _,_=>false
def Na:Ch->Ch->Bool
 | .mk k l,y=>decide (k=y.kind)&&Gv l y.l
def Gm:List Ch->List Ch->Bool
 | [],[]=>true
 | x::l,y::m=>Na x y&&Gm l m
 | _,_=>false
end
theorem Bd1 (e f:Ex):Gr e f=(decide (e.kind=f.kind)&&decide (e.oper=f.oper)&&decide (e.n=f.n)&&decide (e.s=f.s)&&Gv e.l f.l&&Gw e.a f.a):=by
 cases e;rw[Gr];rfl
mutual
def Fw:Ex->List Int
 | .mk _ _ _ _ l a li _ _=>li::(Uq l++Zq a)
def Uq:List Ex->List Int
 | []=> []
 | x::l=>Fw x++Uq l
def Bp1:As->List Int
 | .mk c e=>Zr c++Fw e
def Zq:List As->List Int
 | []=> []
 | x::l=>Bp1 x++Zq l
def Cp3:Ch->List Int
 | .mk _ l=>Uq l
def Zr:List Ch->List Int
 | []=> []
 | x::l=>Cp3 x++Zr l
end
theorem Pc: ∀l:List Ex,Uq l=l.flatMap Fw
 | []=>rfl
 | x::l=>by rw[Uq,Pc l,List.flatMap_cons]
theorem Ur: ∀l:List Ch,Zr l=(l.flatMap Ch.l).flatMap Fw
 | []=>rfl
 | .mk k x::l=>by rw[Zr,Cp3,Ur l,Pc,List.flatMap_cons,List.flatMap_append];rfl
theorem Bd2 (x:As):Bp1 x=(Bw x).flatMap Fw:=by
 cases x;rw[Bp1,Ur,Bw,List.flatMap_append];simp [As.c,As.e]
theorem Us: ∀l:List As,Zq l=(l.flatMap Bw).flatMap Fw
 | []=>rfl
 | x::l=>by rw[Zq,Bd2,Us l,List.flatMap_cons,List.flatMap_append]
theorem An9 (e:Ex):Fw e=e.line::(parts e).flatMap Fw:=by
 cases e;rw[Fw,Pc,Us,parts,List.flatMap_append];rfl
end Go.Dl

-- Chapter 3: expressions: the plain laws, part 2: reading.
namespace Go.Dl
open Go
set_option maxRecDepth 10000
inductive Res (α:Type) where
 | bot
 | fail (k:Nat)
 | ok (x:α) (k:Nat)
def Res.then {α β:Type}:Res α->(α->Nat->Res β)->Res β
 | .bot,_=> .bot
 | .fail k,_=> .fail k
 | .ok x k,f=>f x k
structure PS where
 expr:Nat->Res Ex
 rest:Ex->Nat->Res Ex
 restL:Nat->Ex->Nat->Res Ex
 relation:Ex->Nat->Res Ex
 simple:Nat->Res Ex
 addL:Ex->Nat->Res Ex
 term:Nat->Res Ex
 mulL:Ex->Nat->Res Ex
 factor:Nat->Res Ex
 primary:Nat->Res Ex
 paren:Nat->Res Ex
 assoc:Nat->Res As
 assocsL:List As->Nat->Res (List As)
 choice:Nat->Res Ch
 choicesL:List Ch->Nat->Res (List Ch)
 arg:Nat->Res As
 argsL:List As->Nat->Res (List As)
 name:Nat->Res Ex
 nameL:Int->Ex->Nat->Res Ex
def Do0:PS:=⟨fun _=> .bot,fun _ _=> .bot,fun _ _ _=> .bot,fun _ _=> .bot,fun _=> .bot,fun _ _=> .bot,fun _=> .bot,fun _ _=> .bot,fun _=> .bot,fun _=> .bot,fun _=> .bot,fun _=> .bot,fun _ _=> .bot,fun _=> .bot,fun _ _=> .bot,fun _=> .bot,fun _ _=> .bot,fun _=> .bot,fun _ _ _=> .bot⟩
def Ji:List UInt8:= [116,104,101,110]
def Kj:List UInt8:= [101,108,115,101]
def wIf:List UInt8:= [105,102]
def wIn:List UInt8:= [105,110]
def Rt:List UInt8:= [110,111,116]
def Wm:List UInt8:= [97,108,108]
def Sb:List UInt8:= [110,117,108,108]
def Ff:List UInt8:= [111,116,104,101,114,115]
def Dl1:List UInt8:= [97,110,100]
def wOr:List UInt8:= [111,114]
def Do1:List UInt8:= [120,111,114]
def Do2:List UInt8:= [109,111,100]
def Do3:List UInt8:= [114,101,109]
def Dr4:List UInt8:= [97,98,115]
def Ce:List UInt8:= [40]
def Cp:List UInt8:= [41]
def Gn:List UInt8:= [44]
def Dk:List UInt8:= [124]
def Lb:List UInt8:= [46]
def Dz:List UInt8:= [46,46]
def Ga:List UInt8:= [39]
def Ap:List UInt8:= [61,62]
def Cp4:List (List (List UInt8)):= [[],[[43]],[[45]],[[42]],[[47]],[Do2],[Do3],[[61]],[[47,61]],[[60]],[[60,61]],[[62]],[[62,61]],[Dl1],[wOr],[Do1],[Dl1,Ji],[wOr,Kj],[[43]],[[45]],[Dr4],[Rt]]
def Bp (o:Nat):List (List UInt8):=Cp4.getD o []
section
variable (l:List Tok)
def tk (k:Nat):Tok:=l.getD k Za
def Ea (s:List UInt8):Int:=if Qc s then 2 else 4
def isW (k:Nat):List (List UInt8)->Bool
 | []=>true
 | s::r=>decide ((tk l k).kind=Ea s)&&decide ((tk l k).text=s)&&isW (k+1) r
def opF (want k:Nat):List Nat->Nat×Nat
 | []=>(0,k)
 | o::r=>if isW l k (Bp o) then(if want≠0/\o≠want then(0,k) else(o,k+(Bp o).length)) else opF want k r
def both (o:Nat) (a b:Ex):Ex:= .mk 12 o 0 [] [a,b] [] a.line 0 0
def Kk (o:Nat) (line:Int) (x:Ex):Ex:=if o=0 then x else .mk 11 o 0 [] [x] [] line 0 0
def must {α:Type} (s:List UInt8) (k:Nat) (f:Nat->Res α):Res α:=if isW l k [s] then f (k+1) else .fail k
def Fp {α:Type} (k:Nat) (f:List UInt8->Nat->Res α):Res α:=if(tk l k).kind=1 then f (tk l k).text (k+1) else .fail k
def Ut (line:Int) (a:List As):Ex:=match a with
 | [x]=>if x.c= [] then x.e else .mk 9 0 0 [] [] a line 0 0
 | _=> .mk 9 0 0 [] [] a line 0 0
def Ct:List Nat:= [17,16,15,14,13]
def Gx:List Nat:= [12,11,10,9,8,7]
def Fb:List Nat:= [19,18]
def Fj:List Nat:= [2,1]
def Jt:List Nat:= [6,5,4,3]
def Gy:List Nat:= [21,20]
def inK (x:Ex) (kind:Int) (k:Nat) (p:PS):Res Ex:=
 (p.simple k).then fun y k=>if isW l k [Dz] then(p.simple (k+1)).then fun z k=> .ok (.mk kind 0 0 [] [x,y,z] [] x.line 0 0) k
  else if Bc y then .ok (.mk kind 0 0 [] [x,y] [] x.line 0 0) k else .fail k
def Ba (p:PS):PS where
 expr k:=(p.simple k).then fun x k=>p.rest x k
 rest x k:=(p.relation x k).then fun x k=>p.restL (opF l 0 k Ct).1 x k
 restL o x k:=if o=0 then .ok x k else
  let q:=opF l o k Ct
  if q.1=0 then .ok x k else(p.simple q.2).then fun y k=>(p.relation y k).then fun y k=>p.restL o (both o x y) k
 relation x k:=
  let q:=opF l 0 k Gx
  if q.1≠0 then(p.simple q.2).then fun y k=> .ok (both q.1 x y) k
  else if isW l k [wIn] then inK l x 13 (k+1) p
  else if isW l k [Rt,wIn] then inK l x 14 (k+2) p
  else .ok x k
 simple k:=
  let q:=opF l 0 k Fb
  (p.term q.2).then fun x k'=>p.addL (Kk q.1 (tk l k).line x) k'
 addL x k:=
  let q:=opF l 0 k Fj
  if q.1=0 then .ok x k else(p.term q.2).then fun y k=>p.addL (both q.1 x y) k
 term k:=(p.factor k).then fun x k=>p.mulL x k
 mulL x k:=
  let q:=opF l 0 k Jt
  if q.1=0 then .ok x k else(p.factor q.2).then fun y k=>p.mulL (both q.1 x y) k
 factor k:=
  let q:=opF l 0 k Gy
  (p.primary q.2).then fun x k'=> .ok (Kk q.1 (tk l k).line x) k'
 primary k:=
  if(tk l k).kind=3 then .ok (.mk 1 0 (tk l k).n [] [] [] (tk l k).line 0 0) (k+1)
  else if isW l k [Sb] then .ok (.mk 2 0 0 [] [] [] (tk l k).line 0 0) (k+1)
  else if isW l k [Ce] then p.paren k
  else p.name k
 paren k:=must l Ce k fun k1=>
  if isW l k1 [wIf] then(p.expr (k1+1)).then fun a k=>must l Ji k fun k=>(p.expr k).then fun b k=>must l Kj k fun k=>(p.expr k).then fun c k'=>must l Cp k' fun k'=> .ok (.mk 10 0 0 [] [a,b,c] [] (tk l (k1-1)).line 0 0) k'
  else(p.assoc k1).then fun a k=>(p.assocsL [a] k).then fun az k=>must l Cp k fun k=> .ok (Ut (tk l (k1-1)).line az) k
 assoc k:=(p.choice k).then fun c k=>
  if c.kind=1/\isW l k [Dk]=false/\isW l k [Ap]=false then .ok (.mk [] (c.l.getD 0 ex0)) k
  else if c.kind=3 then must l Ap k fun k=>(p.expr k).then fun e k=> .ok (.mk [c] e) k
  else(p.choicesL [c] k).then fun cs k=>must l Ap k fun k=>(p.expr k).then fun e k=> .ok (.mk cs e) k
 assocsL az k:=if isW l k [Gn] then(p.assoc (k+1)).then fun a k=>p.assocsL (az++ [a]) k else .ok az k
 choice k:=if isW l k [Ff] then .ok (.mk 3 []) (k+1) else
  (p.simple k).then fun x k=>if isW l k [Dz] then(p.simple (k+1)).then fun y k=> .ok (.mk 2 [x,y]) k
   else(p.rest x k).then fun x k=> .ok (.mk 1 [x]) k
 choicesL cs k:=if isW l k [Dk] then(p.choice (k+1)).then fun c k=>p.choicesL (cs++ [c]) k else .ok cs k
 arg k:=if(tk l k).kind=1/\isW l (k+1) [Ap]=true then(p.expr (k+2)).then fun e k'=> .ok (.mk [.mk 1 [.mk 3 0 0 (tk l k).text [] [] (tk l k).line 0 0]] e) k'
  else(p.expr k).then fun e k=> .ok (.mk [] e) k
 argsL az k:=if isW l k [Gn] then(p.arg (k+1)).then fun a k=>p.argsL (az++ [a]) k else .ok az k
 name k:=Fp l k fun s k1=>p.nameL (tk l k).line (.mk 3 0 0 s [] [] (tk l k).line 0 0) k1
 nameL line x k:=
  if isW l k [Lb,Wm] then p.nameL line (.mk 5 0 0 [] [x] [] line 0 0) (k+2)
  else if isW l k [Lb] then Fp l (k+1) fun s k=>p.nameL line (.mk 4 0 0 s [x] [] line 0 0) k
  else if isW l k [Ce] then(p.arg (k+1)).then fun a k=>(p.argsL [a] k).then fun az k=>must l Cp k fun k=>p.nameL line (.mk 7 0 0 [] [x] az line 0 0) k
  else if isW l k [Ga,Ce] then(p.paren (k+1)).then fun y k=>p.nameL line (.mk 8 0 0 [] [x,y] [] line 0 0) k
  else if isW l k [Ga] then Fp l (k+1) fun s k=>p.nameL line (.mk 6 0 0 s [x] [] line 0 0) k
  else .ok x k
def P:Nat->PS
 | 0=>Do0
 | n+1=>Ba l (P n)
end
end Go.Dl

-- Chapter 3: expressions: the plain laws, part 3: reading comes to an answer, the same whatever the fuel.
namespace Go.Dl
open Go
set_option maxRecDepth 10000
def Res.Le {α:Type} (r r':Res α):Prop:=r= .bot\/r=r'
theorem Res.Le.refl {α:Type} (r:Res α):r.Le r:= .inr rfl
theorem Db2 {α β:Type} {r r':Res α} {f g:α->Nat->Res β} (h:r.Le r') (k: ∀x k,(f x k).Le (g x k)):(r.then f).Le (r'.then g):=by
 rcases h with rfl | rfl
 ·exact .inl rfl
 ·cases r with
  | bot=>exact .inl rfl
  | fail k=>exact .inr rfl
  | ok x n=>exact k x n
theorem Bp2 {α:Type} {c:Prop} [Decidable c] {a b a' b':Res α} (h:a.Le a') (k:b.Le b'):(if c then a else b).Le (if c then a' else b'):=by
 split
 ·exact h
 ·exact k
section
variable {l:List Tok}
theorem Db3 {α:Type} {s:List UInt8} {k:Nat} {f g:Nat->Res α} (h: ∀k,(f k).Le (g k)):(must l s k f).Le (must l s k g):=Bp2 (h _) (.refl _)
theorem Cp5 {α:Type} {k:Nat} {f g:List UInt8->Nat->Res α} (h: ∀s k,(f s k).Le (g s k)):(Fp l k f).Le (Fp l k g):=Bp2 (h _ _) (.refl _)
structure PS.Le (p q:PS):Prop where
 expr: ∀k,(p.expr k).Le (q.expr k)
 rest: ∀x k,(p.rest x k).Le (q.rest x k)
 restL: ∀o x k,(p.restL o x k).Le (q.restL o x k)
 relation: ∀x k,(p.relation x k).Le (q.relation x k)
 simple: ∀k,(p.simple k).Le (q.simple k)
 addL: ∀x k,(p.addL x k).Le (q.addL x k)
 term: ∀k,(p.term k).Le (q.term k)
 mulL: ∀x k,(p.mulL x k).Le (q.mulL x k)
 factor: ∀k,(p.factor k).Le (q.factor k)
 primary: ∀k,(p.primary k).Le (q.primary k)
 paren: ∀k,(p.paren k).Le (q.paren k)
 assoc: ∀k,(p.assoc k).Le (q.assoc k)
 assocsL: ∀a k,(p.assocsL a k).Le (q.assocsL a k)
 choice: ∀k,(p.choice k).Le (q.choice k)
 choicesL: ∀a k,(p.choicesL a k).Le (q.choicesL a k)
 arg: ∀k,(p.arg k).Le (q.arg k)
 argsL: ∀a k,(p.argsL a k).Le (q.argsL a k)
 name: ∀k,(p.name k).Le (q.name k)
 nameL: ∀i x k,(p.nameL i x k).Le (q.nameL i x k)
theorem Cp6 (q:PS):Do0.Le q:=by constructor<;>intros<;>exact .inl rfl
theorem Cp7 {p q:PS} (h:p.Le q):(Ba l p).Le (Ba l q):=by
 constructor<;>intros<;>dsimp only[Ba,inK]<;>repeat' first
  | exact Res.Le.refl _
  | exact h.expr _
  | exact h.rest _ _
  | exact h.restL _ _ _
  | exact h.relation _ _
  | exact h.simple _
  | exact h.addL _ _
  | exact h.term _
  | exact h.mulL _ _
  | exact h.factor _
  | exact h.primary _
  | exact h.paren _
  | exact h.assoc _
  | exact h.assocsL _ _
  | exact h.choice _
  | exact h.choicesL _ _
  | exact h.arg _
  | exact h.argsL _ _
  | exact h.name _
  | exact h.nameL _ _ _
  | refine Db2 ?_ fun _ _=> ?_
  | refine Db3 fun _=> ?_
  | refine Cp5 fun _ _=> ?_
  | refine Bp2 ?_ ?_
theorem Ce1: ∀n,(P l n).Le (P l (n+1))
 | 0=>Cp6 _
 | n+1=>Cp7 (Ce1 n)
def Adv (l:List Tok) {α:Type} (lb:Nat):Res α->Prop
 | .bot=>True
 | .fail k=>k<=l.length
 | .ok _ k=>lb<=k/\k<=l.length
theorem Bh {α β:Type} {a b:Nat} {r:Res α} {f:α->Nat->Res β} (h:Adv l a r) (k: ∀x n,a<=n->n<=l.length->Adv l b (f x n)):Adv l b (r.then f):=by
 cases r with
 | bot=>trivial
 | fail n=>exact h
 | ok x n=>exact k x n h.1 h.2
theorem Et {α:Type} {a k:Nat} {x:α} (h:a<=k) (h2:k<=l.length):Adv l a (.ok x k):=⟨h,h2⟩
theorem Cs {α:Type} {a b:Nat} {r:Res α} (h:Adv l a r) (hb:b<=a):Adv l b r:=by
 cases r with
 | bot=>trivial
 | fail n=>exact h
 | ok x n=>exact⟨Nat.le_trans hb h.1,h.2⟩
theorem Db4 {k:Nat} (h:l.length<=k):tk l k=Za:=by rw[tk,List.getD,List.getElem?_eq_none h];rfl
theorem Jj {k:Nat} (h:(tk l k).kind≠0):k<l.length:=by
 rcases Nat.lt_or_ge k l.length with h2 | h2
 ·exact h2
 ·rw[Db4 h2] at h;exact absurd rfl h
theorem Cp8 (s:List UInt8):Ea s≠0:=by unfold Ea;split<;>decide
theorem Am: ∀ {ws:List (List UInt8)} {k:Nat},isW l k ws=true->k<=l.length->k+ws.length<=l.length
 | [],k,_,hk=>hk
 | s::r,k,h,_=>by
  rw[isW,Bool.and_eq_true,Bool.and_eq_true,decide_eq_true_eq] at h;have h1:k<l.length:=Jj (by rw[h.1.1];exact Cp8 s);have:=Am h.2 h1;rw[List.length_cons];omega
theorem Ce2: ∀o,o<22->o≠0->0<(Bp o).length:=by decide+kernel
theorem Ca {want k:Nat}: ∀ {os:List Nat},(∀o∈os,o<22/\o≠0)->k<=l.length->((opF l want k os).1=0->(opF l want k os).2=k)/\((opF l want k os).1≠0->k+1<=(opF l want k os).2)/\(opF l want k os).2<=l.length/\k<=(opF l want k os).2
 | [],_,hk=>⟨fun _=>rfl,fun h=>absurd rfl h,hk,Nat.le_refl _⟩
 | o::r,h,hk=>by
  have ih:=Ca (want:=want) (os:=r) (fun x hx=>h x (by simp [hx])) hk;rw[opF];split
  ·rename_i hw
   split
   ·exact⟨fun _=>rfl,fun h=>absurd rfl h,hk,Nat.le_refl _⟩
   ·have h1:=Am hw hk;have h2:=Ce2 o (h o (by simp)).1 (h o (by simp)).2;exact⟨fun e=>absurd e (h o (by simp)).2,fun _=>by dsimp only;omega,h1,by dsimp only;omega⟩
  ·exact ih
theorem Kl {α:Type} {s:List UInt8} {k a:Nat} {f:Nat->Res α} (hk:k<=l.length) (h:k+1<=l.length->Adv l a (f (k+1))):Adv l a (must l s k f):=by
 unfold must;split
 ·rename_i hw
  exact h (Am hw hk)
 ·exact hk
theorem Wn {α:Type} {k a:Nat} {f:List UInt8->Nat->Res α} (hk:k<=l.length) (h:k+1<=l.length-> ∀s,Adv l a (f s (k+1))):Adv l a (Fp l k f):=by
 unfold Fp;split
 ·rename_i hw
  exact h (Jj (by rw[hw];decide)) _
 ·exact hk
structure PS.Adv (l:List Tok) (p:PS):Prop where
 expr: ∀k,k<=l.length->Dl.Adv l (k+1) (p.expr k)
 rest: ∀x k,k<=l.length->Dl.Adv l k (p.rest x k)
 restL: ∀o x k,k<=l.length->Dl.Adv l k (p.restL o x k)
 relation: ∀x k,k<=l.length->Dl.Adv l k (p.relation x k)
 simple: ∀k,k<=l.length->Dl.Adv l (k+1) (p.simple k)
 addL: ∀x k,k<=l.length->Dl.Adv l k (p.addL x k)
 term: ∀k,k<=l.length->Dl.Adv l (k+1) (p.term k)
 mulL: ∀x k,k<=l.length->Dl.Adv l k (p.mulL x k)
 factor: ∀k,k<=l.length->Dl.Adv l (k+1) (p.factor k)
 primary: ∀k,k<=l.length->Dl.Adv l (k+1) (p.primary k)
 paren: ∀k,k<=l.length->Dl.Adv l (k+1) (p.paren k)
 assoc: ∀k,k<=l.length->Dl.Adv l (k+1) (p.assoc k)
 assocsL: ∀a k,k<=l.length->Dl.Adv l k (p.assocsL a k)
 choice: ∀k,k<=l.length->Dl.Adv l (k+1) (p.choice k)
 choicesL: ∀a k,k<=l.length->Dl.Adv l k (p.choicesL a k)
 arg: ∀k,k<=l.length->Dl.Adv l (k+1) (p.arg k)
 argsL: ∀a k,k<=l.length->Dl.Adv l k (p.argsL a k)
 name: ∀k,k<=l.length->Dl.Adv l (k+1) (p.name k)
 nameL: ∀i x k,k<=l.length->Dl.Adv l k (p.nameL i x k)
theorem Dr5:(∀o∈Ct,o<22/\o≠0)/\(∀o∈Gx,o<22/\o≠0)/\(∀o∈Fb,o<22/\o≠0)/\(∀o∈Fj,o<22/\o≠0)/\(∀o∈Jt,o<22/\o≠0)/\ ∀o∈Gy,o<22/\o≠0:=by decide
theorem Bv0 {p:PS} (h:p.Adv l) {x:Ex} {kind:Int} {k:Nat} (hk:k<=l.length):Dl.Adv l k (inK l x kind k p):=by
 refine Bh (h.simple k hk) fun y n h1 h2=> ?_;split
 ·rename_i hw
  have:=Am hw h2;refine Bh (h.simple (n+1) (by simpa using this)) fun z m h3 h4=>Et (by omega) h4
 ·split
  ·exact Et (by omega) h2
  ·exact h2
theorem Ce3 {p:PS} (h:p.Adv l):(Ba l p).Adv l where
 expr k hk:=Bh (h.simple k hk) fun x n h1 h2=>Cs (h.rest x n h2) (by omega)
 rest x k hk:=Bh (h.relation x k hk) fun x n h1 h2=>Cs (h.restL _ x n h2) (by omega)
 restL o x k hk:=by
  dsimp only[Ba]
  split
  ·exact Et (by omega) hk
  ·obtain⟨q1,q2,q3,q4⟩:=Ca (want:=o) Dr5.1 hk
   split
   ·exact Et (by omega) hk
   ·rename_i hq
    have:=q2 hq
    exact Bh (h.simple _ q3) fun y n h1 h2=>Bh (h.relation y n h2) fun z m h3 h4=>Cs (h.restL _ _ m h4) (by omega)
 relation x k hk:=by
  dsimp only[Ba]
  obtain⟨q1,q2,q3,q4⟩:=Ca (want:=0) Dr5.2.1 hk
  split
  ·rename_i hq
   have:=q2 hq
   exact Bh (h.simple _ q3) fun y n h1 h2=>Et (by omega) h2
  ·split
   ·rename_i hw
    have:=Am hw hk
    exact Cs (Bv0 h (by simpa using this)) (by omega)
   ·split
    ·rename_i hw
     have:=Am hw hk
     exact Cs (Bv0 h (by simpa using this)) (by omega)
    ·exact Et (by omega) hk
 simple k hk:=by
  obtain⟨q1,q2,q3,q4⟩:=Ca (want:=0) Dr5.2.2.1 hk
  exact Bh (h.term _ q3) fun x n h1 h2=>Cs (h.addL _ n h2) (by omega)
 addL x k hk:=by
  dsimp only[Ba]
  obtain⟨q1,q2,q3,q4⟩:=Ca (want:=0) Dr5.2.2.2.1 hk
  split
  ·exact Et (by omega) hk
  ·exact Bh (h.term _ q3) fun x n h1 h2=>Cs (h.addL _ n h2) (by omega)
 term k hk:=Bh (h.factor k hk) fun x n h1 h2=>Cs (h.mulL _ n h2) (by omega)
 mulL x k hk:=by
  dsimp only[Ba]
  obtain⟨q1,q2,q3,q4⟩:=Ca (want:=0) Dr5.2.2.2.2.1 hk
  split
  ·exact Et (by omega) hk
  ·exact Bh (h.factor _ q3) fun x n h1 h2=>Cs (h.mulL _ n h2) (by omega)
 factor k hk:=by
  obtain⟨q1,q2,q3,q4⟩:=Ca (want:=0) Dr5.2.2.2.2.2 hk
  exact Bh (h.primary _ q3) fun x n h1 h2=>Et (by omega) h2
 primary k hk:=by
  dsimp only[Ba]
  split
  ·rename_i hq
   have:=Jj (l:=l) (k:=k) (by rw[hq];decide)
   exact Et (by omega) this
  ·split
   ·rename_i hw
    have:=Am hw hk
    exact Et (by omega) (by simpa using this)
   ·split
    ·exact h.paren k hk
    ·exact h.name k hk
 paren k hk:=by
  dsimp only[Ba]
  refine Kl hk fun hk1=> ?_
  split
  ·rename_i hw
   have:=Am hw hk1
   refine Bh (h.expr _ (by simpa using this)) fun a n1 h1 h2=>Kl h2 fun h3=>Bh (h.expr _ h3) fun b n2 h4 h5=>Kl h5 fun h6=>Bh (h.expr _ h6) fun c n3 h7 h8=>Kl h8 fun h9=>Et (by omega) h9
  ·exact Bh (h.assoc _ hk1) fun a n1 h1 h2=>Bh (h.assocsL _ _ h2) fun az n2 h3 h4=>Kl h4 fun h5=>Et (by omega) h5
 assoc k hk:=by
  refine Bh (h.choice k hk) fun c n h1 h2=> ?_
  split
  ·exact Et (by omega) h2
  ·split
   ·exact Kl h2 fun h3=>Bh (h.expr _ h3) fun e m h4 h5=>Et (by omega) h5
   ·exact Bh (h.choicesL _ _ h2) fun cs m h3 h4=>Kl h4 fun h5=>Bh (h.expr _ h5) fun e m h6 h7=>Et (by omega) h7
 assocsL az k hk:=by
  dsimp only[Ba]
  split
  ·rename_i hw
   have:=Am hw hk
   exact Bh (h.assoc _ (by simpa using this)) fun a n h1 h2=>Cs (h.assocsL _ n h2) (by omega)
  ·exact Et (by omega) hk
 choice k hk:=by
  dsimp only[Ba]
  split
  ·rename_i hw
   have:=Am hw hk
   exact Et (by omega) (by simpa using this)
  ·refine Bh (h.simple k hk) fun x n h1 h2=> ?_
   split
   ·rename_i hw
    have:=Am hw h2
    exact Bh (h.simple _ (by simpa using this)) fun y m h3 h4=>Et (by omega) h4
   ·exact Bh (h.rest x n h2) fun y m h3 h4=>Et (by omega) h4
 choicesL az k hk:=by
  dsimp only[Ba]
  split
  ·rename_i hw
   have:=Am hw hk
   exact Bh (h.choice _ (by simpa using this)) fun a n h1 h2=>Cs (h.choicesL _ n h2) (by omega)
  ·exact Et (by omega) hk
 arg k hk:=by
  dsimp only[Ba]
  split
  ·rename_i hw
   have:=Jj (l:=l) (k:=k) (by rw[hw.1];decide)
   have:=Am hw.2 this
   exact Bh (h.expr _ (by simpa using this)) fun y m h3 h4=>Et (by omega) h4
  ·exact Bh (h.expr k hk) fun y m h3 h4=>Et (by omega) h4
 argsL az k hk:=by
  dsimp only[Ba]
  split
  ·rename_i hw
   have:=Am hw hk
   exact Bh (h.arg _ (by simpa using this)) fun a n h1 h2=>Cs (h.argsL _ n h2) (by omega)
  ·exact Et (by omega) hk
 name k hk:=Wn hk fun h1 s=>h.nameL _ _ _ h1
 nameL i x k hk:=by
  dsimp only[Ba]
  split
  ·rename_i hw
   have:=Am hw hk
   exact Cs (h.nameL _ _ _ (by simpa using this)) (by omega)
  ·split
   ·rename_i hw
    have:=Am hw hk
    exact Wn (by simpa using this) fun h1 s=>Cs (h.nameL _ _ _ h1) (by omega)
   ·split
    ·rename_i hw
     have:=Am hw hk
     exact Bh (h.arg _ (by simpa using this)) fun a n h1 h2=>Bh (h.argsL _ _ h2) fun az m h3 h4=>Kl h4 fun h5=>Cs (h.nameL _ _ _ h5) (by omega)
    ·split
     ·rename_i hw
      have:=Am hw hk
      simp only[List.length_cons,List.length_nil] at this
      exact Bh (h.paren _ (by omega)) fun a n h1 h2=>Cs (h.nameL _ _ _ h2) (by omega)
     ·split
      ·rename_i hw
       have:=Am hw hk
       exact Wn (by simpa using this) fun h1 s=>Cs (h.nameL _ _ _ h1) (by omega)
      ·exact Et (by omega) hk
theorem Bn: ∀n,(P l n).Adv l
 | 0=>by constructor<;>intros<;>trivial
 | n+1=>Ce3 (Bn n)
end
end Go.Dl

-- Chapter 3: expressions as data.
namespace Go.Dl
open Go Go.Proofs
set_option maxRecDepth 100000
mutual
def dEx:Ex->List DVal
 | .mk k o n s l a li en t=> [.int .u8 k, .int .u8 o, .int .i64 n, .str s, .vslice (At9 l) l.length, .vslice (Bd3 a) a.length, .int .i64 li, .int .i64 en, .int .i64 t]
def At9:List Ex->List DVal
 | []=> []
 | x::l=>dEx x++At9 l
def dAs:As->List DVal
 | .mk c e=> .vslice (Bd4 c) c.length::dEx e
def Bd3:List As->List DVal
 | []=> []
 | x::l=>dAs x++Bd3 l
def dCh:Ch->List DVal
 | .mk k l=> [.int .u8 k, .vslice (At9 l) l.length]
def Bd4:List Ch->List DVal
 | []=> []
 | x::l=>dCh x++Bd4 l
end
theorem Wo: ∀l:List Ex,At9 l=l.flatMap dEx
 | []=>rfl
 | x::l=>by rw[At9,Wo l,List.flatMap_cons]
theorem Ao0: ∀l:List As,Bd3 l=l.flatMap dAs
 | []=>rfl
 | x::l=>by rw[Bd3,Ao0 l,List.flatMap_cons]
theorem Ao1: ∀l:List Ch,Bd4 l=l.flatMap dCh
 | []=>rfl
 | x::l=>by rw[Bd4,Ao1 l,List.flatMap_cons]
theorem Bl (k o n:Int) (s:List UInt8) (l:List Ex) (a:List As) (li en t:Int):dEx (.mk k o n s l a li en t)= [.int .u8 k, .int .u8 o, .int .i64 n, .str s, .vslice (l.flatMap dEx) l.length, .vslice (a.flatMap dAs) a.length, .int .i64 li, .int .i64 en, .int .i64 t]:=by
 rw[dEx,Wo,Ao0]
theorem Iz (e:Ex):dEx e= [.int .u8 e.kind, .int .u8 e.oper, .int .i64 e.n, .str e.s, .vslice (e.l.flatMap dEx) e.l.length, .vslice (e.a.flatMap dAs) e.a.length, .int .i64 e.line, .int .i64 e.ent, .int .i64 e.t]:=by
 cases e;rw[Bl];rfl
theorem Sy (x:As):dAs x= .vslice (x.c.flatMap dCh) x.c.length::dEx x.e:=by
 cases x;rw[dAs,Ao1];rfl
theorem Pd (x:Ch):dCh x= [.int .u8 x.kind, .vslice (x.l.flatMap dEx) x.l.length]:=by
 cases x;rw[dCh,Wo];rfl
theorem Ah (e:Ex):(dEx e).length=9:=by rw[Iz];rfl
theorem Bi (e:As):(dAs e).length=10:=by rw[Sy,List.length_cons,Ah]
theorem Bd (e:Ch):(dCh e).length=2:=by rw[Pd];rfl
theorem De9 (e:Ex):(dEx e).take 9=dEx e:=List.take_of_length_le (by rw[Ah];decide)
theorem Do4 (e:As):(dAs e).take 10=dAs e:=List.take_of_length_le (by rw[Bi];decide)
theorem Do5 (e:Ch):(dCh e).take 2=dCh e:=List.take_of_length_le (by rw[Bd];decide)
theorem Do6 (e:Ex):(dEx e).drop 9= []:=List.drop_of_length_le (by rw[Ah];decide)
theorem Al (e:Ex):(dEx e).all (fun d=>d.one)=true:=by rw[Iz];rfl
theorem Db5 (e:As):(dAs e).all (fun d=>d.one)=true:=by rw[Sy,List.all_cons,Al];rfl
theorem Bv1 (e:Ch):(dCh e).all (fun d=>d.one)=true:=by rw[Pd];rfl
theorem Df0 (e:Ex):(dEx e)[0]? =some (.int .u8 e.kind):=by rw[Iz];rfl
theorem Do7 (e:Ex):(dEx e)[1]? =some (.int .u8 e.oper):=by rw[Iz];rfl
theorem Do8 (e:Ex):(dEx e)[2]? =some (.int .i64 e.n):=by rw[Iz];rfl
theorem Do9 (e:Ex):(dEx e)[3]? =some (.str e.s):=by rw[Iz];rfl
theorem Dp0 (e:Ex):(dEx e)[4]? =some (.vslice (e.l.flatMap dEx) e.l.length):=by rw[Iz];rfl
theorem Dp1 (e:Ex):(dEx e)[5]? =some (.vslice (e.a.flatMap dAs) e.a.length):=by rw[Iz];rfl
theorem Dp2 (e:Ex):(dEx e)[6]? =some (.int .i64 e.line):=by rw[Iz];rfl
theorem Uu (e:As):(dAs e)[0]? =some (.vslice (e.c.flatMap dCh) e.c.length):=by rw[Sy];rfl
theorem Uv (e:As):((dAs e).drop 1).take 9=dEx e.e:=by rw[Sy];exact De9 _
theorem Bv2 (e:Ch):(dCh e)[0]? =some (.int .u8 e.kind):=by rw[Pd];rfl
theorem Yd (e:Ch):(dCh e)[1]? =some (.vslice (e.l.flatMap dEx) e.l.length):=by rw[Pd];rfl
def dXs (l:List Ex):DVal:= .vslice (l.flatMap dEx) l.length
def dAl (l:List As):DVal:= .vslice (l.flatMap dAs) l.length
def dCl (l:List Ch):DVal:= .vslice (l.flatMap dCh) l.length
attribute [go_sem] Ah Bi Bd De9 Do4 Do5 Do6 Al Db5 Bv1 Df0 Do7 Do8 Do9 Dp0 Dp1 Dp2 Uu Uv Bv2 Yd List.append_nil
section
variable {G:Nat->DVal} {H:Ac}
theorem Du (G:Nat->DVal) (H:Ac) (e:Ex):Ai Tryz.prog G 56 [.agg (dEx e)] H (Au (.bool (Bc e)) H):=by
 refine Ad Tryz.func56 Tryz.call56 rfl (by kernel_rfl) ?_;simp(disch:=omega) only[go_sem,↓reduceIte,DVal.cells];intro r hr;dsimp only at hr;by_cases h1:3<=e.kind
 ·simp(disch:=omega) only[go_sem,↓reduceIte,h1];exact Nu.dropA r hr (Nu.refl ⟨by rw[Bc,decide_eq_true h1,Bool.true_and],rfl⟩)
 ·simp(disch:=omega) only[go_sem,↓reduceIte,h1];exact Nu.dropA r hr (Nu.refl ⟨by rw[Bc,decide_eq_false h1,Bool.false_and],rfl⟩)
theorem Km (G:Nat->DVal) (H:Ac) (e:Ex):Ai Tryz.prog G 106 [.agg (dEx e)] H (Au (.bool (Bc e)) H):=by
 refine Ad Tryz.func106 Tryz.call106 rfl (by kernel_rfl) ?_;simp(disch:=omega) only[go_sem,↓reduceIte,DVal.cells];intro r hr;dsimp only at hr;by_cases h3:e.kind=3
 ·simp(disch:=omega) only[go_sem,↓reduceIte,h3];exact Nu.dropA r hr (Nu.refl ⟨by rw[Bc,h3];rfl,rfl⟩)
 by_cases h4:e.kind=4
 ·simp(disch:=omega) only[go_sem,↓reduceIte,h3,h4];exact Nu.dropA r hr (Nu.refl ⟨by rw[Bc,h4];rfl,rfl⟩)
 by_cases h5:e.kind=5
 ·simp(disch:=omega) only[go_sem,↓reduceIte,h3,h4,h5];exact Nu.dropA r hr (Nu.refl ⟨by rw[Bc,h5];rfl,rfl⟩)
 by_cases h6:e.kind=6
 ·simp(disch:=omega) only[go_sem,↓reduceIte,h3,h4,h5,h6];exact Nu.dropA r hr (Nu.refl ⟨by rw[Bc,h6];rfl,rfl⟩)
 by_cases h7:e.kind=7
 ·simp(disch:=omega) only[go_sem,↓reduceIte,h3,h4,h5,h6,h7];exact Nu.dropA r hr (Nu.refl ⟨by rw[Bc,h7];rfl,rfl⟩)
 by_cases h8:e.kind=8
 ·simp(disch:=omega) only[go_sem,↓reduceIte,h3,h4,h5,h6,h7,h8];exact Nu.dropA r hr (Nu.refl ⟨by rw[Bc,h8];rfl,rfl⟩)
 ·simp(disch:=omega) only[go_sem,↓reduceIte,h3,h4,h5,h6,h7,h8];refine Nu.dropA r hr (Nu.refl ⟨?_,rfl⟩);rw[Bc,<-Bool.decide_and,decide_eq_false (by omega)]
end
end Go.Dl

-- Chapter 3: slices of trees: the library's functions.
namespace Go.Dl
open Go Go.Proofs
set_option maxRecDepth 100000
mutual
def Cv:Ex->Nat
 | .mk _ _ _ _ l a _ _ _=>1+Fk l+Cw a
def Fk:List Ex->Nat
 | []=>0
 | x::l=>Cv x+Fk l
def Ny:As->Nat
 | .mk c e=>Fd c+Cv e
def Cw:List As->Nat
 | []=>0
 | x::l=>Ny x+Cw l
def Uw:Ch->Nat
 | .mk _ l=>1+Fk l
def Fd:List Ch->Nat
 | []=>0
 | x::l=>Uw x+Fd l
end
theorem Bd5 (e:Ex):1<=Cv e:=by cases e;rw[Cv];omega
theorem Cp9 (a:As):1<=Ny a:=by cases a;rw[Ny];have:=Bd5 (‹Ex›);omega
theorem Cq0 (c:Ch):1<=Uw c:=by cases c;rw[Uw];omega
theorem Pe (e:Ex):Cv e=1+Fk e.l+Cw e.a:=by cases e;rw[Cv];rfl
theorem Lc (a:As):Ny a=Fd a.c+Cv a.e:=by cases a;rw[Ny];rfl
theorem In (c:Ch):Uw c=1+Fk c.l:=by cases c;rw[Uw];rfl
theorem Nz: ∀ {l:List Ex} {x:Ex},x∈l->Cv x<=Fk l
 | y::l,x,h=>by
  rw[Fk];rcases List.mem_cons.1 h with rfl | h
  ·omega
  ·have:=Nz h;omega
theorem Oa: ∀ {l:List As} {x:As},x∈l->Ny x<=Cw l
 | y::l,x,h=>by
  rw[Cw];rcases List.mem_cons.1 h with rfl | h
  ·omega
  ·have:=Oa h;omega
theorem Hs: ∀ {l:List Ch} {x:Ch},x∈l->Uw x<=Fd l
 | y::l,x,h=>by
  rw[Fd];rcases List.mem_cons.1 h with rfl | h
  ·omega
  ·have:=Hs h;omega
theorem Gz: ∀l:List Ex,l.length<=Fk l
 | []=>Nat.le_refl _
 | x::l=>by rw[Fk,List.length_cons];have:=Gz l;have:=Bd5 x;omega
theorem Ro: ∀l:List As,l.length<=Cw l
 | []=>Nat.le_refl _
 | x::l=>by rw[Cw,List.length_cons];have:=Ro l;have:=Cp9 x;omega
theorem Ht: ∀l:List Ch,l.length<=Fd l
 | []=>Nat.le_refl _
 | x::l=>by rw[Fd,List.length_cons];have:=Ht l;have:=Cq0 x;omega
theorem Bv3 {e:Ex}:e.l.length<=Cv e:=by have:=Gz e.l;rw[Pe];omega
theorem Bv4 {e:Ex}:e.a.length<=Cv e:=by have:=Ro e.a;rw[Pe];omega
theorem Dl2 {e x:Ex} (h:x∈e.l):Cv x<Cv e:=by have:=Nz h;rw[Pe e];omega
theorem Ae6 {e:Ex} {a:As} (h:a∈e.a):Ny a<Cv e:=by have:=Oa h;rw[Pe e];omega
theorem Db6 (G:Nat->DVal) (H:Ac) (p:Ex->Bool) (l:List Ex) (g:FuncId) (xs ys:List DVal) (hl:l.length<=1099511627776)
  (hp: ∀x∈l,Ai Tryz.prog G g (xs++ [.agg (dEx x)]++ys) H (Au (.bool (p x)) H)):
  Ai Tryz.prog G 98 [.vslice (l.flatMap dEx) l.length, .func (.func g) xs ys] H (Au (dI (At6 p l)) H):=by
 refine Ad Tryz.func98 Tryz.call98 rfl (by kernel_rfl) ?_;simp(disch:=omega) only[go_sem,↓reduceIte];refine Bt4.run (fun(i:Nat) env heap=>heap=H/\env 0= .vslice (l.flatMap dEx) l.length/\env 1= .func (.func g) xs ys/\env 7=dI l.length/\env 8=dI i/\i<=l.length/\ ∀x∈l.take i,p x=false) (fun i=>l.length-i) 0 ?_ ?_
 ·simp(disch:=omega) only[go_sem,↓reduceIte];simp
 ·rintro i env heap ⟨rfl,h0,h1,h7,h8,hi,hn⟩;by_cases hlt:i<l.length
  ·have hget:=Bt Ah l i hlt;simp(disch:=omega) only[go_sem,↓reduceIte,h0,h1,h7,h8,hget,An Ah];have hc:=hp l[i] (List.getElem_mem hlt)
   skip
   refine hc.mono ?_;rintro _ H ⟨rfl,rfl⟩;cases hx:p l[i] with
   | true=>
    simp(disch:=omega) only[go_sem,↓reduceIte,h0,h1,h7,h8];exact Nu.refl ⟨by rw[At7 hlt hx hn],rfl⟩
   | false=>
    simp(disch:=omega) only[go_sem,↓reduceIte,h0,h1,h7,h8];refine⟨i+1,_,Ni.refl _,?_,by omega⟩;simp(disch:=omega) only[go_sem,↓reduceIte,h0,h1,h7,h8];(repeat' apply And.intro)<;>(try first | rfl | assumption | omega);exact It hlt hn hx
  ·simp(disch:=omega) only[go_sem,↓reduceIte,h0,h1,h7,h8];have:i=l.length:=by omega
   subst this;rw[List.take_length] at hn;exact Nu.refl ⟨by rw[At8 hn],rfl⟩
theorem Bp3 (G:Nat->DVal) (H:Ac) (p:Ex->Bool) (l:List Ex) (g:FuncId) (xs ys:List DVal) (hl:l.length<=1099511627776)
  (hp: ∀x∈l,Ai Tryz.prog G g (xs++ [.agg (dEx x)]++ys) H (Au (.bool (p x)) H)):
  Ai Tryz.prog G 47 [.vslice (l.flatMap dEx) l.length, .func (.func g) xs ys] H (Au (.bool (l.any p)) H):=by
 refine Ad Tryz.func47 Tryz.call47 rfl (by kernel_rfl) ?_;simp(disch:=omega) only[go_sem,↓reduceIte];refine(Db6 G H p l g xs ys hl hp).mono ?_;rintro _ H ⟨rfl,rfl⟩;simp(disch:=omega) only[go_sem,↓reduceIte];exact Nu.refl ⟨by rw[Ad3],rfl⟩
theorem Db7 (G:Nat->DVal) (H:Ac) (p:As->Bool) (l:List As) (g:FuncId) (xs ys:List DVal) (hl:l.length<=1099511627776)
  (hp: ∀x∈l,Ai Tryz.prog G g (xs++ [.agg (dAs x)]++ys) H (Au (.bool (p x)) H)):
  Ai Tryz.prog G 162 [.vslice (l.flatMap dAs) l.length, .func (.func g) xs ys] H (Au (dI (At6 p l)) H):=by
 refine Ad Tryz.func162 Tryz.call162 rfl (by kernel_rfl) ?_;simp(disch:=omega) only[go_sem,↓reduceIte];refine Bt4.run (fun(i:Nat) env heap=>heap=H/\env 0= .vslice (l.flatMap dAs) l.length/\env 1= .func (.func g) xs ys/\env 7=dI l.length/\env 8=dI i/\i<=l.length/\ ∀x∈l.take i,p x=false) (fun i=>l.length-i) 0 ?_ ?_
 ·simp(disch:=omega) only[go_sem,↓reduceIte];simp
 ·rintro i env heap ⟨rfl,h0,h1,h7,h8,hi,hn⟩;by_cases hlt:i<l.length
  ·have hget:=Bt Bi l i hlt;simp(disch:=omega) only[go_sem,↓reduceIte,h0,h1,h7,h8,hget,An Bi];have hc:=hp l[i] (List.getElem_mem hlt)
   skip
   refine hc.mono ?_;rintro _ H ⟨rfl,rfl⟩;cases hx:p l[i] with
   | true=>
    simp(disch:=omega) only[go_sem,↓reduceIte,h0,h1,h7,h8];exact Nu.refl ⟨by rw[At7 hlt hx hn],rfl⟩
   | false=>
    simp(disch:=omega) only[go_sem,↓reduceIte,h0,h1,h7,h8];refine⟨i+1,_,Ni.refl _,?_,by omega⟩;simp(disch:=omega) only[go_sem,↓reduceIte,h0,h1,h7,h8];(repeat' apply And.intro)<;>(try first | rfl | assumption | omega);exact It hlt hn hx
  ·simp(disch:=omega) only[go_sem,↓reduceIte,h0,h1,h7,h8];have:i=l.length:=by omega
   subst this;rw[List.take_length] at hn;exact Nu.refl ⟨by rw[At8 hn],rfl⟩
theorem Bp4 (G:Nat->DVal) (H:Ac) (p:As->Bool) (l:List As) (g:FuncId) (xs ys:List DVal) (hl:l.length<=1099511627776)
  (hp: ∀x∈l,Ai Tryz.prog G g (xs++ [.agg (dAs x)]++ys) H (Au (.bool (p x)) H)):
  Ai Tryz.prog G 136 [.vslice (l.flatMap dAs) l.length, .func (.func g) xs ys] H (Au (.bool (l.any p)) H):=by
 refine Ad Tryz.func136 Tryz.call136 rfl (by kernel_rfl) ?_;simp(disch:=omega) only[go_sem,↓reduceIte];refine(Db7 G H p l g xs ys hl hp).mono ?_;rintro _ H ⟨rfl,rfl⟩;simp(disch:=omega) only[go_sem,↓reduceIte];exact Nu.refl ⟨by rw[Ad3],rfl⟩
theorem Db8 (G:Nat->DVal) (H:Ac) (p:Ch->Bool) (l:List Ch) (g:FuncId) (xs ys:List DVal) (hl:l.length<=1099511627776)
  (hp: ∀x∈l,Ai Tryz.prog G g (xs++ [.agg (dCh x)]++ys) H (Au (.bool (p x)) H)):
  Ai Tryz.prog G 97 [.vslice (l.flatMap dCh) l.length, .func (.func g) xs ys] H (Au (dI (At6 p l)) H):=by
 refine Ad Tryz.func97 Tryz.call97 rfl (by kernel_rfl) ?_;simp(disch:=omega) only[go_sem,↓reduceIte];refine Bt4.run (fun(i:Nat) env heap=>heap=H/\env 0= .vslice (l.flatMap dCh) l.length/\env 1= .func (.func g) xs ys/\env 7=dI l.length/\env 8=dI i/\i<=l.length/\ ∀x∈l.take i,p x=false) (fun i=>l.length-i) 0 ?_ ?_
 ·simp(disch:=omega) only[go_sem,↓reduceIte];simp
 ·rintro i env heap ⟨rfl,h0,h1,h7,h8,hi,hn⟩;by_cases hlt:i<l.length
  ·have hget:=Bt Bd l i hlt;simp(disch:=omega) only[go_sem,↓reduceIte,h0,h1,h7,h8,hget,An Bd];have hc:=hp l[i] (List.getElem_mem hlt)
   skip
   refine hc.mono ?_;rintro _ H ⟨rfl,rfl⟩;cases hx:p l[i] with
   | true=>
    simp(disch:=omega) only[go_sem,↓reduceIte,h0,h1,h7,h8];exact Nu.refl ⟨by rw[At7 hlt hx hn],rfl⟩
   | false=>
    simp(disch:=omega) only[go_sem,↓reduceIte,h0,h1,h7,h8];refine⟨i+1,_,Ni.refl _,?_,by omega⟩;simp(disch:=omega) only[go_sem,↓reduceIte,h0,h1,h7,h8];(repeat' apply And.intro)<;>(try first | rfl | assumption | omega);exact It hlt hn hx
  ·simp(disch:=omega) only[go_sem,↓reduceIte,h0,h1,h7,h8];have:i=l.length:=by omega
   subst this;rw[List.take_length] at hn;exact Nu.refl ⟨by rw[At8 hn],rfl⟩
theorem Ae7 (G:Nat->DVal) (H:Ac) (p:Ch->Bool) (l:List Ch) (g:FuncId) (xs ys:List DVal) (hl:l.length<=1099511627776)
  (hp: ∀x∈l,Ai Tryz.prog G g (xs++ [.agg (dCh x)]++ys) H (Au (.bool (p x)) H)):
  Ai Tryz.prog G 45 [.vslice (l.flatMap dCh) l.length, .func (.func g) xs ys] H (Au (.bool (l.any p)) H):=by
 refine Ad Tryz.func45 Tryz.call45 rfl (by kernel_rfl) ?_;simp(disch:=omega) only[go_sem,↓reduceIte];refine(Db8 G H p l g xs ys hl hp).mono ?_;rintro _ H ⟨rfl,rfl⟩;simp(disch:=omega) only[go_sem,↓reduceIte];exact Nu.refl ⟨by rw[Ad3],rfl⟩
end Go.Dl

-- Chapter 3: what is valid: arguments, choices, associations.
namespace Go.Dl
open Go Go.Proofs
set_option maxRecDepth 100000
theorem Wp: ∀ {l:List As},Ki l=true↔ ∀i (h:i+1<l.length),(l[i].c.isEmpty || !l[i+1].c.isEmpty)=true
 | []=>⟨fun _ i h=>absurd h (by simp),fun _=>rfl⟩
 | [a]=>⟨fun _ i h=>absurd h (by simp),fun _=>rfl⟩
 | a::b::r=>by
  rw[Ki,Bool.and_eq_true,Wp (l:=b::r)];constructor
  ·rintro⟨h1,h2⟩ i h;cases i with
   | zero=>exact h1
   | succ i=>exact h2 i (by simpa using h)
  ·intro h;exact⟨h 0 (by simp),fun i hi=>h (i+1) (by simpa using hi)⟩
theorem Ab {α:Type} (l:List α):l.isEmpty=decide (l.length=0):=by cases l<;>rfl
def Ao2 (a b:As):Int:=(if(a.c.length:Int)<1 then(a.c.length:Int) else 1)-(if(b.c.length:Int)<1 then(b.c.length:Int) else 1)
section
variable {G:Nat->DVal} {H:Ac}
theorem Ak9 (G:Nat->DVal) (H:Ac) (a b:As):Ai Tryz.prog G 161 [.agg (dAs a), .agg (dAs b)] H (Au (dI (Ao2 a b)) H):=by
 have hw:IntKind.i64.wrap ((if(a.c.length:Int)<1 then(a.c.length:Int) else 1)-(if(b.c.length:Int)<1 then(b.c.length:Int) else 1))=Ao2 a b:=by unfold Ao2;rw[IntKind.wrap_i64];split<;>split<;>omega
 refine Ad Tryz.func161 Tryz.call161 rfl (by kernel_rfl) ?_;simp(disch:=omega) only[go_sem,↓reduceIte,DVal.cells];intro r2 hr2;dsimp only at hr2;simp(disch:=omega) only[go_sem,↓reduceIte,DVal.cells];intro r3 hr3;dsimp only at hr3;obtain⟨m2,m1,hr3'⟩:=De7.1 hr3;simp(disch:=omega) only[go_sem,↓reduceIte,m1,m2,hw];exact Nu.sub (show Sub H _ from(by repeat (first | exact Sub.refl _ | assumption | refine Sub.up ?_ (by assumption) _))) (Nu.refl ⟨rfl,rfl⟩)
theorem Al0 (G:Nat->DVal) (H:Ac) (l:List As) (hl:l.length<=1099511627776):
  Ai Tryz.prog G 160 [.vslice (l.flatMap dAs) l.length, .func (.func 161) [] []] H (Au (.bool (Ki l)) H):=by
 have hw:IntKind.i64.wrap ((l.length:Int)-1)=(l.length:Int)-1:=by rw[IntKind.wrap_i64];omega
 refine Ad Tryz.func160 Tryz.call160 rfl (by kernel_rfl) ?_;simp(disch:=omega) only[go_sem,↓reduceIte,hw];refine Bt4.run (fun(j:Nat) env heap=>heap=H/\env 0= .vslice (l.flatMap dAs) l.length/\env 1= .func (.func 161) [] []/\env 5=dI ((j:Int)-1)/\j<=l.length/\ ∀i (_:j<=i+1) (h:i+1<l.length),(l[i].c.isEmpty || !l[i+1].c.isEmpty)=true) (fun j=>j) l.length ?_ ?_
 ·simp(disch:=omega) only[go_sem,↓reduceIte];(repeat' apply And.intro)<;>(try first | rfl | assumption | omega)
 ·rintro j env heap ⟨rfl,h0,h1,h5,hj,hn⟩;by_cases hlt:1<j
  ·obtain⟨i,rfl⟩: ∃i,j=i+2:=⟨j-2,by omega⟩;have e5:((i+2:Nat):Int)-1=((i+1:Nat):Int):=by omega
   have hg1:=Bt Bi l (i+1) (by omega);have hg0:=Bt Bi l i (by omega);rw[e5] at h5;have hw2:IntKind.i64.wrap (((i+1:Nat):Int)-1)=(i:Int):=by rw[IntKind.wrap_i64];omega
   simp(disch:=omega) only[go_sem,↓reduceIte,h0,h1,h5];refine Aj (by kernel_rfl) (.take 0 (.take 1 (.take 2 (.take 3 (.take 4 (.take 5 (.take 6 (.take 7 (.take 8 (.take 9 (.go 10 [] (.take 11 .done)))))))))))) (by kernel_rfl) ?_;simp(disch:=omega) only[go_sem,↓reduceIte,h0,h1,h5,hg1,hg0,hw2,An Bi];refine(Ak9 G _ l[i+1] l[i]).mono ?_;rintro _ H ⟨rfl,rfl⟩;by_cases c:Ao2 l[i+1] l[i]<0
   ·simp(disch:=omega) only[go_sem,↓reduceIte,h0,h1,h5,c];refine Nu.refl ⟨?_,rfl⟩;have:Ki l=false:=by
     rw[<-Bool.not_eq_true,Wp];intro h;have:=h i (by omega);rw[Ab,Ab,Bool.or_eq_true,Bool.not_eq_true',decide_eq_true_eq,decide_eq_false_iff_not] at this;unfold Ao2 at c;split at c<;>split at c<;>omega
    rw[this]
   ·simp(disch:=omega) only[go_sem,↓reduceIte,h0,h1,h5,hw2,c];refine⟨i+1,_,Ni.refl _,?_,by omega⟩;simp(disch:=omega) only[go_sem,↓reduceIte,h0,h1,h5,hw2];(repeat' apply And.intro)<;>(try first | rfl | assumption | omega)
    ·rw[show((i+1:Nat):Int)-1=i by omega]
    intro i' hi1 hi2;by_cases e:i'=i
    ·subst e;rw[Ab,Ab,Bool.or_eq_true,Bool.not_eq_true',decide_eq_true_eq,decide_eq_false_iff_not];unfold Ao2 at c;split at c<;>split at c<;>omega
    ·exact hn i' (by omega) hi2
  ·have: ¬(0:Int)<(j:Int)-1:=by omega
   simp(disch:=omega) only[go_sem,↓reduceIte,h0,h1,h5,this];refine Nu.refl ⟨?_,rfl⟩;rw[Wp.2 fun i h=>hn i (by omega) h]
theorem Ux (G:Nat->DVal) (H:Ac) (l:List As) (hl:l.length<=1099511627776):Ai Tryz.prog G 135 [.vslice (l.flatMap dAs) l.length] H (Au (.bool (Ki l)) H):=by
 refine Ad Tryz.func135 Tryz.call135 rfl (by kernel_rfl) ?_;simp(disch:=omega) only[go_sem,↓reduceIte];refine(Al0 G _ l hl).mono ?_;rintro _ H1 ⟨rfl,rfl⟩;simp(disch:=omega) only[go_sem,↓reduceIte];exact Nu.refl ⟨rfl,rfl⟩
theorem Ly (G:Nat->DVal) (H:Ac) (e:Ex) (k:Nat) (hk:0<k):Ai Tryz.prog G 90 [.agg (dEx e), .int .i64 k] H (Au (.bool (Fv e k)) H):=by
 refine Ad Tryz.func90 Tryz.call90 rfl (by kernel_rfl) ?_;simp(disch:=omega) only[go_sem,↓reduceIte,DVal.cells];intro r hr;dsimp only at hr;by_cases h1:e.l.length=k
 ·have h1':(e.l.length:Int)=(k:Int):=by omega
  have hp:0<e.l.length:=by omega
  have hg:=Bt Ah e.l 0 hp;have hfl:=An Ah e.l;have hgd:e.l.getD 0 ex0=e.l[0]:=by rw[List.getD,List.getElem?_eq_getElem hp];rfl
  rw[Nat.zero_mul,List.drop_zero] at hg;simp(disch:=omega) only[go_sem,↓reduceIte,h1',hfl,hg];refine(Du G _ e.l[0]).mono ?_;rintro _ H1 ⟨rfl,rfl⟩;simp(disch:=omega) only[go_sem,↓reduceIte];exact Nu.dropA r hr (Nu.refl ⟨by rw[Fv,decide_eq_true h1,Bool.true_and,hgd],rfl⟩)
 ·have h1': ¬(e.l.length:Int)=(k:Int):=by omega
  simp(disch:=omega) only[go_sem,↓reduceIte,h1'];exact Nu.dropA r hr (Nu.refl ⟨by rw[Fv,decide_eq_false h1,Bool.false_and],rfl⟩)
end
end Go.Dl

-- Chapter 3: what is valid: choices, arguments.
namespace Go.Dl
open Go Go.Proofs
set_option maxRecDepth 100000
theorem ch0 {l:List Ch} (h:0<l.length):(l.flatMap dCh)[0]? =some (.int .u8 l[0].kind)/\(l.flatMap dCh)[1]? =some (.vslice (l[0].l.flatMap dEx) l[0].l.length):=by
 have h0:=Bs Bd l 0 h 0 (by decide);have h1:=Bs Bd l 0 h 1 (by decide);rw[Bv2] at h0;rw[Yd] at h1;exact⟨by simpa using h0,by simpa using h1⟩
theorem Dp3 {l:List Ex} (h:0<l.length):(l.flatMap dEx)[0]? =some (.int .u8 l[0].kind):=by
 have h0:=Bs Ah l 0 h 0 (by decide);rw[Df0] at h0;simpa using h0
section
variable {G:Nat->DVal} {H:Ac}
theorem Bd6 (G:Nat->DVal) (H:Ac) (l:List Ch):Ai Tryz.prog G 138 [.vslice (l.flatMap dCh) l.length] H (Au (.bool (Bu l)) H):=by
 have hfl:=An Bd l;refine Ad Tryz.func138 Tryz.call138 rfl (by kernel_rfl) ?_;by_cases h1:l.length=1
 ·have h1':(l.length:Int)=1:=by omega
  obtain⟨g0,g1⟩:=ch0 (l:=l) (by omega);obtain⟨c,rfl⟩:=List.length_eq_one_iff.1 h1;rw[List.getElem_cons_zero] at g0 g1;by_cases h2:c.kind=1
  ·by_cases h3:c.l.length=1
   ·have h3':(c.l.length:Int)=1:=by omega
    have g2:=Dp3 (l:=c.l) (by omega);have hfe:=An Ah c.l;obtain⟨x,hx⟩:=List.length_eq_one_iff.1 h3;have e:c.l[0]=x:=by simp [hx]
    rw[e] at g2;have hs:Bu [c]=decide (x.kind=3):=by simp [Bu,h2,hx]
    simp(disch:=omega) only[go_sem,↓reduceIte,h1',hfl,g0,g1,h2,h3',g2,hfe];exact Nu.refl ⟨by rw[hs],rfl⟩
   ·have h3': ¬(c.l.length:Int)=1:=by omega
    have hs:Bu [c]=false:=by
     rw[Bu];split
     ·rename_i hx;rw[hx] at h3;simp at h3
     ·simp
    simp(disch:=omega) only[go_sem,↓reduceIte,h1',hfl,g0,g1,h2,h3'];exact Nu.refl ⟨by rw[hs],rfl⟩
  ·simp(disch:=omega) only[go_sem,↓reduceIte,h1',hfl,g0,g1,h2];exact Nu.refl ⟨by simp [Bu,h2],rfl⟩
 ·have h1': ¬(l.length:Int)=1:=by omega
  have hs:Bu l=false:=by
   unfold Bu;split
   ·simp at h1
   ·rfl
  simp(disch:=omega) only[go_sem,↓reduceIte,h1'];exact Nu.refl ⟨by rw[hs],rfl⟩
theorem Zb (G:Nat->DVal) (H:Ac) (a:As):Ai Tryz.prog G 137 [.agg (dAs a)] H (Au (.bool (!(a.c.isEmpty || Bu a.c))) H):=by
 refine Ad Tryz.func137 Tryz.call137 rfl (by kernel_rfl) ?_;simp(disch:=omega) only[go_sem,↓reduceIte,DVal.cells];intro r hr;dsimp only at hr;by_cases h1:0<a.c.length
 ·have h1':(0:Int)<(a.c.length:Int):=by omega
  have he:a.c.isEmpty=false:=by rw[Ab];exact decide_eq_false (by omega)
  simp(disch:=omega) only[go_sem,↓reduceIte,h1'];refine(Bd6 G _ a.c).mono ?_;rintro _ H1 ⟨rfl,rfl⟩;simp(disch:=omega) only[go_sem,↓reduceIte];exact Nu.dropA r hr (Nu.refl ⟨by rw[he,Bool.false_or],rfl⟩)
 ·have h1': ¬(0:Int)<(a.c.length:Int):=by omega
  have he:a.c.isEmpty=true:=by rw[Ab];exact decide_eq_true (by omega)
  simp(disch:=omega) only[go_sem,↓reduceIte,h1'];exact Nu.dropA r hr (Nu.refl ⟨by rw[he];rfl,rfl⟩)
theorem Zs {α:Type} (p:α->Bool) (l:List α):l.any (fun x=>!p x)=!l.all p:=by
 induction l with
 | nil=>rfl
 | cons x l ih=>rw[List.any_cons,List.all_cons,ih,Bool.not_and]
theorem Ae8 (G:Nat->DVal) (H:Ac) (l:List As) (hl:l.length<=1099511627776):Ai Tryz.prog G 91 [.vslice (l.flatMap dAs) l.length] H (Au (.bool (Gl l)) H):=by
 refine Ad Tryz.func91 Tryz.call91 rfl (by kernel_rfl) ?_;by_cases h1:0<l.length
 ·have h1':(0:Int)<(l.length:Int):=by omega
  by_cases h2:l.length<=8
  ·have h2':(l.length:Int)<=8:=by omega
   simp(disch:=omega) only[go_sem,↓reduceIte,h1',h2'];refine(Ux G _ l hl).mono ?_;rintro _ H1 ⟨rfl,rfl⟩;cases h3:Ki l with
   | false=>
    simp(disch:=omega) only[go_sem,↓reduceIte];exact Nu.refl ⟨by rw[Gl,h3,Bool.and_false,Bool.false_and],rfl⟩
   | true=>
    simp(disch:=omega) only[go_sem,↓reduceIte];refine(Bp4 G _ (fun a=>!(a.c.isEmpty || Bu a.c)) l 137 [] [] hl fun x _=>Zb G _ x).mono ?_;rintro _ H1 ⟨rfl,rfl⟩;rw[Zs];simp(disch:=omega) only[go_sem,↓reduceIte];exact Nu.refl ⟨by rw[Gl,h3,decide_eq_true h1,decide_eq_true h2,Bool.true_and,Bool.true_and,Bool.true_and,Bool.not_not],rfl⟩
  ·have h2': ¬(l.length:Int)<=8:=by omega
   simp(disch:=omega) only[go_sem,↓reduceIte,h1',h2'];exact Nu.refl ⟨by rw[Gl,decide_eq_false h2,Bool.and_false,Bool.false_and,Bool.false_and],rfl⟩
 ·have h1': ¬(0:Int)<(l.length:Int):=by omega
  simp(disch:=omega) only[go_sem,↓reduceIte,h1'];exact Nu.refl ⟨by rw[Gl,decide_eq_false h1,Bool.false_and,Bool.false_and,Bool.false_and],rfl⟩
def Ju:List (DVal×DVal):= [(.int .u8 1, .int .i64 1),(.int .u8 2, .int .i64 2),(.int .u8 3, .int .i64 0)]
theorem Bd7 (G:Nat->DVal) (H:Ac) (n:Nat) (l:List Ch) (c:Ch) (r1 rm r3:Nat) (h1:H r1=some (.cells [.vslice (l.flatMap dCh) l.length] 41)) (hm:H rm=some (.map Ju)) (h3:H r3=some (.cells [.omap rm] 116)):
  Ai Tryz.prog G 96 ([]++ [.agg (dCh c)]++ [.optr r3 0, .optr r1 0]) H (Au (.bool (!Cr l.length c)) H):=by
 refine Ad Tryz.func96 Tryz.call96 rfl (by kernel_rfl) ?_;simp(disch:=omega) only[go_sem,↓reduceIte,DVal.cells,List.nil_append,List.cons_append];intro r hr;dsimp only at hr;have n1:r1≠r:=Ae hr h1;have n3:r3≠r:=Ae hr h3;have nm:rm≠r:=Ae hr hm;by_cases k1:c.kind=1
 ·simp(disch:=omega) only[go_sem,↓reduceIte,n1,n3,nm,h1,hm,h3,k1,Ju];refine⟨_,rfl,?_⟩;by_cases q:c.l.length=1
  ·have q':(c.l.length:Int)=1:=by omega
   simp(disch:=omega) only[go_sem,↓reduceIte,n1,n3,nm,h1,hm,h3,k1,Ju,q'];exact Nu.dropA r hr (Nu.refl ⟨by simp [Cr,k1,q],rfl⟩)
  ·have q': ¬(1:Int)=(c.l.length:Int):=by omega
   simp(disch:=omega) only[go_sem,↓reduceIte,n1,n3,nm,h1,hm,h3,k1,Ju,q'];exact Nu.dropA r hr (Nu.refl ⟨by simp [Cr,k1,q],rfl⟩)
 by_cases k2:c.kind=2
 ·simp(disch:=omega) only[go_sem,↓reduceIte,n1,n3,nm,h1,hm,h3,k2,Ju];refine⟨_,rfl,?_⟩;by_cases q:c.l.length=2
  ·have q':(c.l.length:Int)=2:=by omega
   simp(disch:=omega) only[go_sem,↓reduceIte,n1,n3,nm,h1,hm,h3,k2,Ju,q'];exact Nu.dropA r hr (Nu.refl ⟨by simp [Cr,k2,q],rfl⟩)
  ·have q': ¬(2:Int)=(c.l.length:Int):=by omega
   simp(disch:=omega) only[go_sem,↓reduceIte,n1,n3,nm,h1,hm,h3,k2,Ju,q'];exact Nu.dropA r hr (Nu.refl ⟨by simp [Cr,k2,q],rfl⟩)
 by_cases k3:c.kind=3
 ·simp(disch:=omega) only[go_sem,↓reduceIte,n1,n3,nm,h1,hm,h3,k3,Ju];refine⟨_,rfl,?_⟩;by_cases q:c.l.length=0
  ·have q':(c.l.length:Int)=0:=by omega
   simp(disch:=omega) only[go_sem,↓reduceIte,n1,n3,nm,h1,hm,h3,k3,Ju,q'];refine Nu.dropA r hr (Nu.refl ⟨?_,rfl⟩);have e:Cr l.length c=decide (l.length<=1):=by simp [Cr,k3,q]
   by_cases q2:l.length<=1
   ·rw[e,decide_eq_true q2,decide_eq_false (show¬(1:Int)<(l.length:Int) by omega)];rfl
   ·rw[e,decide_eq_false q2,decide_eq_true (show(1:Int)<(l.length:Int) by omega)];rfl
  ·have q': ¬(0:Int)=(c.l.length:Int):=by omega
   simp(disch:=omega) only[go_sem,↓reduceIte,n1,n3,nm,h1,hm,h3,k3,Ju,q'];exact Nu.dropA r hr (Nu.refl ⟨by simp [Cr,k3,q],rfl⟩)
 ·simp(disch:=omega) only[go_sem,↓reduceIte,n1,n3,nm,h1,hm,h3,k1,k2,k3,Ju];exact Nu.dropA r hr (Nu.refl ⟨by simp [Cr,k1,k2,k3],rfl⟩)
theorem Sz (G:Nat->DVal) (H:Ac) (l:List Ch) (hl:l.length<=1099511627776):Ai Tryz.prog G 44 [.vslice (l.flatMap dCh) l.length] H (Au (.bool (Cq l)) H):=by
 refine Ad Tryz.func44 Tryz.call44 rfl (by kernel_rfl) ?_;simp(disch:=omega) only[go_sem,↓reduceIte,DVal.cells];intro r1 hr1;dsimp only at hr1;simp(disch:=omega) only[go_sem,↓reduceIte,DVal.cells];intro rm hrm;dsimp only at hrm;obtain⟨m1,m2,hrm'⟩:=De7.1 hrm;simp(disch:=omega) only[go_sem,↓reduceIte,DVal.cells,m1,m2];intro r3 hr3;dsimp only at hr3;obtain⟨p1,p2,hr3a⟩:=De7.1 hr3;obtain⟨p3,p4,hr3'⟩:=De7.1 hr3a;have hsub:Sub H (upd (upd (upd H r1 (some (.cells [.vslice (l.flatMap dCh) l.length] 41))) rm (some (.map Ju))) r3 (some (.cells [.omap rm] 116))):=((Sub.refl H).new hr1 _ |>.new hrm _).new hr3 _;by_cases h1:0<l.length
 ·have h1':(0:Int)<(l.length:Int):=by omega
  by_cases h2:l.length<=16
  ·have h2':(l.length:Int)<=16:=by omega
   simp(disch:=omega) only[go_sem,↓reduceIte,m1,m2,p1,p2,p3,p4,h1',h2'];refine(Ae7 G _ (fun c=>!Cr l.length c) l 96 [] [.optr r3 0, .optr r1 0] hl fun x _=>Bd7 G _ l.length l x r1 rm r3 (by simp [upd,m1,m2,p1,p2,p3,p4]) (by simp [upd,m1,m2,p1,p2,p3,p4,Ju]) (by simp [upd])).mono ?_;rintro _ H1 ⟨rfl,rfl⟩;rw[Zs];simp(disch:=omega) only[go_sem,↓reduceIte,m1,m2,p1,p2,p3,p4];exact Nu.sub hsub (Nu.refl ⟨by rw[Cq,decide_eq_true h1,decide_eq_true h2,Bool.true_and,Bool.true_and,Bool.not_not],rfl⟩)
  ·have h2': ¬(l.length:Int)<=16:=by omega
   simp(disch:=omega) only[go_sem,↓reduceIte,m1,m2,p1,p2,p3,p4,h1',h2'];exact Nu.sub hsub (Nu.refl ⟨by rw[Cq,decide_eq_false h2,Bool.and_false,Bool.false_and],rfl⟩)
 ·have h1': ¬(0:Int)<(l.length:Int):=by omega
  simp(disch:=omega) only[go_sem,↓reduceIte,m1,m2,p1,p2,p3,p4,h1'];exact Nu.sub hsub (Nu.refl ⟨by rw[Cq,decide_eq_false h1,Bool.false_and,Bool.false_and],rfl⟩)
end
end Go.Dl

-- Chapter 3: what is valid: associations.
namespace Go.Dl
open Go Go.Proofs
set_option maxRecDepth 100000
theorem Ja {l:List Ch} (h:0<l.length):Qw l=decide (l[0].kind=3):=by
 cases l with
 | nil=>simp at h
 | cons c l=>rfl
theorem Pf {l:List As} {k:Nat} (hk:k<l.length):Ei (l.drop k)=((l[k].c.isEmpty || Cq l[k].c&&(!Qw l[k].c || decide (k+1=l.length)))&&Ei (l.drop (k+1))):=by
 rw[List.drop_eq_getElem_cons hk,Ei,Ab (l.drop (k+1)),List.length_drop];have:(l.length-(k+1)=0)↔k+1=l.length:=by omega
 simp only[this]
theorem Ye {l:List As}:Zn l=(decide (l.length=1)&&(l.getD 0 default).c.isEmpty):=
 match l with
 | []=>rfl
 | [a]=>by simp [Zn]
 | a::b::l=>by simp [Zn]
theorem as0 {l:List As} (h:0<l.length):(l.flatMap dAs)[0]? =some (.vslice (l[0].c.flatMap dCh) l[0].c.length):=by
 have h0:=Bs Bi l 0 h 0 (by decide);rw[Uu] at h0;simpa using h0
section
variable {G:Nat->DVal} {H:Ac}
theorem Uy (G:Nat->DVal) (H:Ac) (l:List As) (hl:l.length<=1099511627776) (hb: ∀a∈l,a.c.length<=1099511627776):Ai Tryz.prog G 92 [.vslice (l.flatMap dAs) l.length] H (Au (.bool (Ej l)) H):=by
 refine Ad Tryz.func92 Tryz.call92 rfl (by kernel_rfl) ?_;by_cases h1:l.length=0
 ·have h1':(l.length:Int)=0:=by omega
  simp(disch:=omega) only[go_sem,↓reduceIte,h1'];exact Nu.refl ⟨by rw[Ej,decide_eq_false (show¬0<l.length by omega),Bool.false_and,Bool.false_and,Bool.false_and,Bool.false_and],rfl⟩
 have h1': ¬(l.length:Int)=0:=by omega
 have hpos:0<l.length:=by omega
 by_cases h2:32<l.length
 ·have h2':(32:Int)<(l.length:Int):=by omega
  simp(disch:=omega) only[go_sem,↓reduceIte,h1',h2'];exact Nu.refl ⟨by rw[Ej,decide_eq_false (show¬l.length<=32 by omega),Bool.and_false,Bool.false_and,Bool.false_and,Bool.false_and],rfl⟩
 have h2': ¬(32:Int)<(l.length:Int):=by omega
 simp(disch:=omega) only[go_sem,↓reduceIte,h1',h2'];refine(Ux G _ l hl).mono ?_;rintro _ H1 ⟨rfl,rfl⟩;have hd:Ej l=(Ki l&&(!(decide (l.length=1)&&(l.getD 0 default).c.isEmpty)&&Ei l)):=by
  rw[Ej,decide_eq_true hpos,decide_eq_true (show l.length<=32 by omega),Bool.true_and,Bool.true_and,Ye,Bool.and_assoc]
 rw[hd];cases h3:Ki l with
 | false=>
  simp(disch:=omega) only[go_sem,↓reduceIte];exact Nu.refl ⟨rfl,rfl⟩
 | true=>
  have hg0:=as0 hpos;have hgd:l.getD 0 default=l[0]:=by rw[List.getD,List.getElem?_eq_getElem hpos];rfl
  have hfl:=An Bi l;rw[hgd];by_cases h4:l.length=1/\l[0].c.length=0
  ·have h4a:(l.length:Int)=1:=by omega
   have h4b:(l[0].c.length:Int)=0:=by omega
   have e4:l[0].c.isEmpty=true:=by rw[Ab];exact decide_eq_true h4.2
   simp(disch:=omega) only[go_sem,↓reduceIte,h4a,h4b,hg0,hfl];exact Nu.refl ⟨by simp [e4],rfl⟩
  ·have e4:(decide (l.length=1)&&l[0].c.isEmpty)=false:=by
    rw[Ab,<-Bool.decide_and];exact decide_eq_false h4
   rw[e4];by_cases h5:l.length=1
   ·have h5':((l.length:Int)=1)=True:=eq_true (by omega);have h6': ¬(l[0].c.length:Int)=0:=by omega
    simp(disch:=omega) only[go_sem,↓reduceIte,h5',h6',hg0,hfl];obtain⟨I,hI⟩: ∃I:Nat->(Nat->DVal)->Ac->Prop,∀k env heap,I k env heap↔(env 0= .vslice (l.flatMap dAs) l.length/\env 31= .vslice (l.flatMap dAs) l.length/\env 32=dI l.length/\env 33=dI k/\k<=l.length/\Ei l=Ei (l.drop k)/\Sub H1 heap):=⟨_,fun _ _ _=>Iff.rfl⟩;refine Bt4.run I (fun k=>l.length-k) 0 ((hI _ _ _).2 ?_) ?_
    ·simp(disch:=omega) only[go_sem,↓reduceIte];(repeat' apply And.intro)<;>(try first | rfl | assumption | omega);exact Sub.refl _
    ·intro k env heap hi;obtain⟨e0,e31,e32,e33,hk,hall,hsub⟩:=(hI _ _ _).1 hi;by_cases hlt:k<l.length
     ·have hlt':(k:Int)<(l.length:Int):=by omega
      have hget:=Bt Bi l k hlt;have hwd:IntKind.i64.wrap ((k:Int)+1)=((k+1:Nat):Int):=by rw[IntKind.wrap_i64];omega
      have hwl:IntKind.i64.wrap ((l.length:Int)-1)=(l.length:Int)-1:=by rw[IntKind.wrap_i64];omega
      have hba:=hb l[k] (List.getElem_mem hlt);rw[Pf hlt] at hall;simp(disch:=omega) only[go_sem,↓reduceIte,e0,e31,e32,e33,hlt',hget,hfl,Int.toNat_natCast];intro r4 hr4;dsimp only at hr4;by_cases q1:0<l[k].c.length
      ·have q1':(0:Int)<(l[k].c.length:Int):=by omega
       have e1:l[k].c.isEmpty=false:=by rw[Ab];exact decide_eq_false (by omega)
       rw[e1,Bool.false_or] at hall;simp(disch:=omega) only[go_sem,↓reduceIte,e0,e31,e32,e33,q1'];refine(Sz G _ l[k].c hba).mono ?_;rintro _ H2 ⟨rfl,rfl⟩;cases q2:Cq l[k].c with
       | false=>
        rw[q2,Bool.false_and,Bool.false_and] at hall;simp(disch:=omega) only[go_sem,↓reduceIte,e0,e31,e32,e33];exact Nu.sub (hsub.new hr4 _) (Nu.refl ⟨by rw[hall],rfl⟩)
       | true=>
        obtain⟨g0,_⟩:=ch0 q1;have hfc:=An Bd l[k].c;rw[q2,Bool.true_and,Ja q1] at hall;by_cases q3:l[k].c[0].kind=3
        ·rw[decide_eq_true q3,Bool.not_true,Bool.false_or] at hall;by_cases q4:k+1=l.length
         ·have q4': ¬(k:Int)<(l.length:Int)-1:=by omega
          rw[decide_eq_true q4,Bool.true_and] at hall;simp(disch:=omega) only[go_sem,↓reduceIte,e0,e31,e32,e33,g0,hfc,q3,q4',hwl];refine⟨k+1,_,Ni.refl _,(hI _ _ _).2 ?_,by omega⟩;simp(disch:=omega) only[go_sem,↓reduceIte,e0,e31,e32,e33,hwd];(repeat' apply And.intro)<;>(try first | rfl | assumption | omega);all_goals exact hsub.new hr4 _
         ·have q4':(k:Int)<(l.length:Int)-1:=by omega
          rw[decide_eq_false q4,Bool.false_and] at hall;simp(disch:=omega) only[go_sem,↓reduceIte,e0,e31,e32,e33,g0,hfc,q3,q4',hwl];exact Nu.sub (hsub.new hr4 _) (Nu.refl ⟨by rw[hall],rfl⟩)
        ·rw[decide_eq_false q3,Bool.not_false,Bool.true_or,Bool.true_and] at hall;simp(disch:=omega) only[go_sem,↓reduceIte,e0,e31,e32,e33,g0,hfc,q3];refine⟨k+1,_,Ni.refl _,(hI _ _ _).2 ?_,by omega⟩;simp(disch:=omega) only[go_sem,↓reduceIte,e0,e31,e32,e33,hwd];(repeat' apply And.intro)<;>(try first | rfl | assumption | omega);all_goals exact hsub.new hr4 _
      ·have q1': ¬(0:Int)<(l[k].c.length:Int):=by omega
       have e1:l[k].c.isEmpty=true:=by rw[Ab];exact decide_eq_true (by omega)
       rw[e1,Bool.true_or,Bool.true_and] at hall;simp(disch:=omega) only[go_sem,↓reduceIte,e0,e31,e32,e33,q1'];refine⟨k+1,_,Ni.refl _,(hI _ _ _).2 ?_,by omega⟩;simp(disch:=omega) only[go_sem,↓reduceIte,e0,e31,e32,e33,hwd];(repeat' apply And.intro)<;>(try first | rfl | assumption | omega);all_goals exact hsub.new hr4 _
     ·have:k=l.length:=by omega
      subst this;rw[List.drop_length] at hall;simp(disch:=omega) only[go_sem,↓reduceIte,e0,e31,e32,e33];exact Nu.sub hsub (Nu.refl ⟨by rw[hall];rfl,rfl⟩)
   ·have h5': ¬(l.length:Int)=1:=by omega
    simp(disch:=omega) only[go_sem,↓reduceIte,h5'];obtain⟨I,hI⟩: ∃I:Nat->(Nat->DVal)->Ac->Prop,∀k env heap,I k env heap↔(env 0= .vslice (l.flatMap dAs) l.length/\env 31= .vslice (l.flatMap dAs) l.length/\env 32=dI l.length/\env 33=dI k/\k<=l.length/\Ei l=Ei (l.drop k)/\Sub H1 heap):=⟨_,fun _ _ _=>Iff.rfl⟩;refine Bt4.run I (fun k=>l.length-k) 0 ((hI _ _ _).2 ?_) ?_
    ·simp(disch:=omega) only[go_sem,↓reduceIte];(repeat' apply And.intro)<;>(try first | rfl | assumption | omega);exact Sub.refl _
    ·intro k env heap hi;obtain⟨e0,e31,e32,e33,hk,hall,hsub⟩:=(hI _ _ _).1 hi;by_cases hlt:k<l.length
     ·have hlt':(k:Int)<(l.length:Int):=by omega
      have hget:=Bt Bi l k hlt;have hwd:IntKind.i64.wrap ((k:Int)+1)=((k+1:Nat):Int):=by rw[IntKind.wrap_i64];omega
      have hwl:IntKind.i64.wrap ((l.length:Int)-1)=(l.length:Int)-1:=by rw[IntKind.wrap_i64];omega
      have hba:=hb l[k] (List.getElem_mem hlt);rw[Pf hlt] at hall;simp(disch:=omega) only[go_sem,↓reduceIte,e0,e31,e32,e33,hlt',hget,hfl,Int.toNat_natCast];intro r4 hr4;dsimp only at hr4;by_cases q1:0<l[k].c.length
      ·have q1':(0:Int)<(l[k].c.length:Int):=by omega
       have e1:l[k].c.isEmpty=false:=by rw[Ab];exact decide_eq_false (by omega)
       rw[e1,Bool.false_or] at hall;simp(disch:=omega) only[go_sem,↓reduceIte,e0,e31,e32,e33,q1'];refine(Sz G _ l[k].c hba).mono ?_;rintro _ H2 ⟨rfl,rfl⟩;cases q2:Cq l[k].c with
       | false=>
        rw[q2,Bool.false_and,Bool.false_and] at hall;simp(disch:=omega) only[go_sem,↓reduceIte,e0,e31,e32,e33];exact Nu.sub (hsub.new hr4 _) (Nu.refl ⟨by rw[hall],rfl⟩)
       | true=>
        obtain⟨g0,_⟩:=ch0 q1;have hfc:=An Bd l[k].c;rw[q2,Bool.true_and,Ja q1] at hall;by_cases q3:l[k].c[0].kind=3
        ·rw[decide_eq_true q3,Bool.not_true,Bool.false_or] at hall;by_cases q4:k+1=l.length
         ·have q4': ¬(k:Int)<(l.length:Int)-1:=by omega
          rw[decide_eq_true q4,Bool.true_and] at hall;simp(disch:=omega) only[go_sem,↓reduceIte,e0,e31,e32,e33,g0,hfc,q3,q4',hwl];refine⟨k+1,_,Ni.refl _,(hI _ _ _).2 ?_,by omega⟩;simp(disch:=omega) only[go_sem,↓reduceIte,e0,e31,e32,e33,hwd];(repeat' apply And.intro)<;>(try first | rfl | assumption | omega);all_goals exact hsub.new hr4 _
         ·have q4':(k:Int)<(l.length:Int)-1:=by omega
          rw[decide_eq_false q4,Bool.false_and] at hall;simp(disch:=omega) only[go_sem,↓reduceIte,e0,e31,e32,e33,g0,hfc,q3,q4',hwl];exact Nu.sub (hsub.new hr4 _) (Nu.refl ⟨by rw[hall],rfl⟩)
        ·rw[decide_eq_false q3,Bool.not_false,Bool.true_or,Bool.true_and] at hall;simp(disch:=omega) only[go_sem,↓reduceIte,e0,e31,e32,e33,g0,hfc,q3];refine⟨k+1,_,Ni.refl _,(hI _ _ _).2 ?_,by omega⟩;simp(disch:=omega) only[go_sem,↓reduceIte,e0,e31,e32,e33,hwd];(repeat' apply And.intro)<;>(try first | rfl | assumption | omega);all_goals exact hsub.new hr4 _
      ·have q1': ¬(0:Int)<(l[k].c.length:Int):=by omega
       have e1:l[k].c.isEmpty=true:=by rw[Ab];exact decide_eq_true (by omega)
       rw[e1,Bool.true_or,Bool.true_and] at hall;simp(disch:=omega) only[go_sem,↓reduceIte,e0,e31,e32,e33,q1'];refine⟨k+1,_,Ni.refl _,(hI _ _ _).2 ?_,by omega⟩;simp(disch:=omega) only[go_sem,↓reduceIte,e0,e31,e32,e33,hwd];(repeat' apply And.intro)<;>(try first | rfl | assumption | omega);all_goals exact hsub.new hr4 _
     ·have:k=l.length:=by omega
      subst this;rw[List.drop_length] at hall;simp(disch:=omega) only[go_sem,↓reduceIte,e0,e31,e32,e33];exact Nu.sub hsub (Nu.refl ⟨by rw[hall];rfl,rfl⟩)
end
end Go.Dl

-- Chapter 3: each.
namespace Go.Dl
open Go Go.Proofs
set_option maxRecDepth 100000
def Bd8 {σ:Type} (R:Ex->σ->Bool->σ->Prop):List Ex->σ->Bool->σ->Prop
 | [],s,b,s'=>b=true/\s'=s
 | x::l,s,b,s'=> ∃b1 s1,R x s b1 s1/\((b1=true/\Bd8 R l s1 b s')\/(b1=false/\b=false/\s'=s1))
def Yf {σ:Type} (R:Ex->σ->Bool->σ->Prop) (all:List Ex) (s0:σ) (rest:List Ex) (s:σ):Prop:= ∀b s',Bd8 R rest s b s'->Bd8 R all s0 b s'
section
variable {σ:Type} {R:Ex->σ->Bool->σ->Prop} {all rest:List Ex} {s0 s s1:σ} {x:Ex}
theorem Yf.next (h:Yf R all s0 (x::rest) s) (k:R x s true s1):Yf R all s0 rest s1:=fun b s' hr=>h b s' ⟨true,s1,k, .inl ⟨rfl,hr⟩⟩
theorem Yf.no (h:Yf R all s0 (x::rest) s) (k:R x s false s1):Bd8 R all s0 false s1:=h false s1 ⟨false,s1,k, .inr ⟨rfl,rfl,rfl⟩⟩
theorem Yf.fin (h:Yf R all s0 [] s):Bd8 R all s0 true s:=h true s ⟨rfl,rfl⟩
end
def Qe (r:Nat) (H H':Ac):Prop:= ∀b o,b≠r->H b=some o->H' b=some o
theorem Qe.refl (r:Nat) (H:Ac):Qe r H H:=fun _ _ _ h=>h
theorem Qe.trans {r:Nat} {H H' H'':Ac} (h:Qe r H H') (k:Qe r H' H''):Qe r H H'':=fun b o hb hh=>k b o hb (h b o hb hh)
theorem Qe.new {r:Nat} {H H':Ac} (h:Qe r H H') {q:Nat} (hq:H' q=none) (x:Option DObj):Qe r H (upd H' q x):=fun b o hb hh=>by
 have:=h b o hb hh;have:b≠q:=fun e=>by rw[e,hq] at this;cases this
 simp only[upd,if_neg this];exact h b o hb hh
theorem Qe.set {r:Nat} {H H':Ac} (h:Qe r H H') (x:Option DObj):Qe r H (upd H' r x):=fun b o hb hh=>by
 simp only[upd,if_neg hb];exact h b o hb hh
theorem Qe.sub {r:Nat} {H H':Ac} (h:Qe r H H') {H0:Ac} (k:Sub H0 H) (hr:H0 r=none):Sub H0 H':=fun b o hb=>h b o (fun e=>by rw[e,hr] at hb;cases hb) (k b o hb)
def Lz (s:Int):DObj:= .cells [.int .i64 s] 3
section
variable {G:Nat->DVal}
def Dp4 (R:Ex->Int->Bool->Int->Prop) (all:List Ex) (s0:Int) (r:Nat) (H0:Ac) (e:DEnd) (H':Ac):Prop:=
 ∃b s',e= .ret (.bool b)/\Bd8 R all s0 b s'/\H' r=some (Lz s')/\Qe r H0 H'
def Df1 (R:Ex->Int->Bool->Int->Prop) (x:Ex) (s:Int) (r:Nat) (H:Ac) (e:DEnd) (H':Ac):Prop:=
 ∃b s',e= .ret (.bool b)/\R x s b s'/\H' r=some (Lz s')/\Qe r H H'
set_option maxHeartbeats 4000000 in
theorem Ao3 (G:Nat->DVal) (H0:Ac) (e:Ex) (hb:Cv e<=1099511627776) (g:FuncId) (xs ys:List DVal) (R:Ex->Int->Bool->Int->Prop) (r:Nat) (s0:Int) (hr:H0 r=some (Lz s0))
  (hf: ∀x∈parts e,∀s H,H r=some (Lz s)->Qe r H0 H->Ai Tryz.prog G g (xs++ [.agg (dEx x)]++ys) H (Df1 R x s r H)):
  Ai Tryz.prog G 41 [.agg (dEx e), .func (.func g) xs ys] H0 (Dp4 R (parts e) s0 r H0):=by
 have hal:= @Bv4 e;have hll:= @Bv3 e;have hfl:=An Ah e.l;have hfa:=An Bi e.a;refine Ad Tryz.func41 Tryz.call41 rfl (by kernel_rfl) ?_;simp(disch:=omega) only[go_sem,↓reduceIte,DVal.cells];intro r2 hr2;dsimp only at hr2;have n2:r≠r2:=Ae hr2 hr;have n2':r2≠r:=n2.symm;simp(disch:=omega) only[go_sem,↓reduceIte];obtain⟨I,hI⟩: ∃I:Nat×Int->(Nat->DVal)->Ac->Prop,∀k env heap,I k env heap↔(env 1= .func (.func g) xs ys/\env 2= .optr r2 0/\env 14= .vslice (e.l.flatMap dEx) e.l.length/\env 15=dI e.l.length/\env 16=dI k.1/\k.1<=e.l.length/\heap r=some (Lz k.2)/\heap r2=some (.cells (dEx e) 27)/\Qe r H0 heap/\Yf R (parts e) s0 (e.l.drop k.1++e.a.flatMap Bw) k.2):=⟨_,fun _ _ _=>Iff.rfl⟩;refine Bt4.run I (fun k=>e.l.length-k.1) (0,s0) ((hI _ _ _).2 ?_) ?_
 ·simp(disch:=omega) only[go_sem,↓reduceIte,n2,n2'];(repeat' apply And.intro)<;>(try first | rfl | assumption | omega)
  ·exact(Qe.refl r H0).new hr2 _
  ·exact fun b s' h=>h
 ·rintro⟨k,s⟩ env heap hi;obtain⟨e1,e2,e14,e15,e16,hk,hh,hh2,ht,hc⟩:=(hI _ _ _).1 hi;dsimp only at e16 hk hh hc;by_cases hlt:k<e.l.length
  ·have hlt':(k:Int)<(e.l.length:Int):=by omega
   have hget:=Bt Ah e.l k hlt;have hwd:IntKind.i64.wrap ((k:Int)+1)=((k+1:Nat):Int):=by rw[IntKind.wrap_i64];omega
   rw[List.drop_eq_getElem_cons hlt,List.cons_append] at hc;simp(disch:=omega) only[go_sem,↓reduceIte,e1,e2,e14,e15,e16,hlt',hget,hfl,Int.toNat_natCast];intro r6 hr6;dsimp only at hr6;have n6:r≠r6:=Ae hr6 hh;have n62:r2≠r6:=Ae hr6 hh2;have ht6:=ht.new hr6 (some (.cells (dEx e.l[k]) 27));simp(disch:=omega) only[go_sem,↓reduceIte,e1,e2,e14,e15,e16];refine(hf e.l[k] (Cd (List.getElem_mem hlt)) s _ (by simp only[upd,if_neg n6];exact hh) ht6).mono ?_;rintro _ H2 ⟨b,s1,rfl,hR,hh',ht'⟩;have hh2':H2 r2=some (.cells (dEx e) 27):=ht' r2 _ n2' (by simp only[upd,if_neg n62];exact hh2);cases b with
   | false=>
    simp(disch:=omega) only[go_sem,↓reduceIte,e1,e2,e14,e15,e16];exact Nu.refl ⟨false,s1,rfl,hc.no hR,hh',ht6.trans ht'⟩
   | true=>
    simp(disch:=omega) only[go_sem,↓reduceIte,e1,e2,e14,e15,e16];refine⟨(k+1,s1),_,Ni.refl _,(hI _ _ _).2 ?_,by dsimp only;omega⟩;simp(disch:=omega) only[go_sem,↓reduceIte,e1,e2,e14,e15,e16,hwd];(repeat' apply And.intro)<;>(try first | rfl | assumption | omega)
    ·exact ht6.trans ht'
    ·exact hc.next hR
  ·have:k=e.l.length:=by omega
   subst this;rw[List.drop_length,List.nil_append] at hc;simp(disch:=omega) only[go_sem,↓reduceIte,e1,e2,e14,e15,e16,hh2];obtain⟨J,hJ⟩: ∃J:Nat×Int->(Nat->DVal)->Ac->Prop,∀k env heap,J k env heap↔(env 1= .func (.func g) xs ys/\env 26= .vslice (e.a.flatMap dAs) e.a.length/\env 27=dI e.a.length/\env 28=dI k.1/\k.1<=e.a.length/\heap r=some (Lz k.2)/\Qe r H0 heap/\Yf R (parts e) s0 ((e.a.drop k.1).flatMap Bw) k.2):=⟨_,fun _ _ _=>Iff.rfl⟩;refine Bt4.run J (fun k=>e.a.length-k.1) (0,s) ((hJ _ _ _).2 ?_) ?_
   ·simp(disch:=omega) only[go_sem,↓reduceIte,e1,e2,hh2];(repeat' apply And.intro)<;>(try first | rfl | assumption | omega)
   ·rintro⟨j,s⟩ env heap hi;obtain⟨e1,e26,e27,e28,hj,hh,ht,hc⟩:=(hJ _ _ _).1 hi;dsimp only at e28 hj hh hc;by_cases hjl:j<e.a.length
    ·have hjl':(j:Int)<(e.a.length:Int):=by omega
     have hget:=Bt Bi e.a j hjl;have hwj:IntKind.i64.wrap ((j:Int)+1)=((j+1:Nat):Int):=by rw[IntKind.wrap_i64];omega
     have hma:=List.getElem_mem hjl;have hba:=Ae6 hma;obtain⟨a,ha⟩: ∃a,a=e.a[j]:=⟨_,rfl⟩;rw[List.drop_eq_getElem_cons hjl,List.flatMap_cons,Bw,List.append_assoc,<-ha] at hc;rw[<-ha] at hget hma hba;have hbc:=Ht a.c;have hfc:=An Bd a.c;rw[Lc] at hba;simp(disch:=omega) only[go_sem,↓reduceIte,e1,e26,e27,e28,hjl',hget,hfa,Int.toNat_natCast];intro r8 hr8;dsimp only at hr8;have n8:r≠r8:=Ae hr8 hh;have ht8:=ht.new hr8 (some (.cells (dAs a) 44));simp(disch:=omega) only[go_sem,↓reduceIte,e1,e26,e27,e28];obtain⟨K,hK⟩: ∃K:Nat×Int->(Nat->DVal)->Ac->Prop,∀k env heap,K k env heap↔(env 1= .func (.func g) xs ys/\env 8= .optr r8 0/\env 26= .vslice (e.a.flatMap dAs) e.a.length/\env 27=dI e.a.length/\env 28=dI j/\env 33= .vslice (a.c.flatMap dCh) a.c.length/\env 34=dI a.c.length/\env 35=dI k.1/\k.1<=a.c.length/\heap r=some (Lz k.2)/\heap r8=some (.cells (dAs a) 44)/\Qe r H0 heap/\Yf R (parts e) s0 ((a.c.drop k.1).flatMap Ch.l++([a.e]++(e.a.drop (j+1)).flatMap Bw)) k.2):=⟨_,fun _ _ _=>Iff.rfl⟩;refine Bt4.run K (fun k=>a.c.length-k.1) (0,s) ((hK _ _ _).2 ?_) ?_
     ·simp(disch:=omega) only[go_sem,↓reduceIte,e1,e26,e27,e28,n8];(repeat' apply And.intro)<;>(try first | rfl | assumption | omega)
     ·rintro⟨m,s⟩ env heap hi;obtain⟨e1,e8,e26,e27,e28,e33,e34,e35,hm,hh,hh8,ht,hc⟩:=(hK _ _ _).1 hi;dsimp only at e35 hm hh hc;by_cases hml:m<a.c.length
      ·have hml':(m:Int)<(a.c.length:Int):=by omega
       have hget:=Bt Bd a.c m hml;have hwm:IntKind.i64.wrap ((m:Int)+1)=((m+1:Nat):Int):=by rw[IntKind.wrap_i64];omega
       have hmc:=List.getElem_mem hml;have hbm:=Hs hmc;obtain⟨c,hcc⟩: ∃c,c=a.c[m]:=⟨_,rfl⟩;rw[List.drop_eq_getElem_cons hml,List.flatMap_cons,List.append_assoc,<-hcc] at hc;rw[<-hcc] at hget hmc hbm;have hbl:=Gz c.l;have hfx:=An Ah c.l;rw[In] at hbm;simp(disch:=omega) only[go_sem,↓reduceIte,e1,e8,e26,e27,e28,e33,e34,e35,hml',hget,hfc,Int.toNat_natCast];intro r10 hr10;dsimp only at hr10;have n10:r≠r10:=Ae hr10 hh;have n108:r8≠r10:=Ae hr10 hh8;have ht10:=ht.new hr10 (some (.cells (dCh c) 47));simp(disch:=omega) only[go_sem,↓reduceIte,e1,e8,e26,e27,e28,e33,e34,e35];obtain⟨M,hM⟩: ∃M:Nat×Int->(Nat->DVal)->Ac->Prop,∀k env heap,M k env heap↔(env 1= .func (.func g) xs ys/\env 8= .optr r8 0/\env 26= .vslice (e.a.flatMap dAs) e.a.length/\env 27=dI e.a.length/\env 28=dI j/\env 33= .vslice (a.c.flatMap dCh) a.c.length/\env 34=dI a.c.length/\env 35=dI m/\env 40= .vslice (c.l.flatMap dEx) c.l.length/\env 41=dI c.l.length/\env 42=dI k.1/\k.1<=c.l.length/\heap r=some (Lz k.2)/\heap r8=some (.cells (dAs a) 44)/\Qe r H0 heap/\Yf R (parts e) s0 (c.l.drop k.1++((a.c.drop (m+1)).flatMap Ch.l++([a.e]++(e.a.drop (j+1)).flatMap Bw))) k.2):=⟨_,fun _ _ _=>Iff.rfl⟩;refine Bt4.run M (fun k=>c.l.length-k.1) (0,s) ((hM _ _ _).2 ?_) ?_
       ·simp(disch:=omega) only[go_sem,↓reduceIte,e1,e8,e26,e27,e28,e33,e34,e35,n10,n108];(repeat' apply And.intro)<;>(try first | rfl | assumption | omega)
       ·rintro⟨q,s⟩ env heap hi;obtain⟨e1,e8,e26,e27,e28,e33,e34,e35,e40,e41,e42,hq,hh,hh8,ht,hc⟩:=(hM _ _ _).1 hi;dsimp only at e42 hq hh hc;by_cases hql:q<c.l.length
        ·have hql':(q:Int)<(c.l.length:Int):=by omega
         have hget:=Bt Ah c.l q hql;have hwq:IntKind.i64.wrap ((q:Int)+1)=((q+1:Nat):Int):=by rw[IntKind.wrap_i64];omega
         rw[List.drop_eq_getElem_cons hql,List.cons_append] at hc;simp(disch:=omega) only[go_sem,↓reduceIte,e1,e8,e26,e27,e28,e33,e34,e35,e40,e41,e42,hql',hget,hfx,Int.toNat_natCast];intro r12 hr12;dsimp only at hr12;have n12:r≠r12:=Ae hr12 hh;have n128:r8≠r12:=Ae hr12 hh8;have ht12:=ht.new hr12 (some (.cells (dEx c.l[q]) 27));simp(disch:=omega) only[go_sem,↓reduceIte,e1,e8,e26,e27,e28,e33,e34,e35,e40,e41,e42];refine(hf c.l[q] (Mz hma (Up hmc (List.getElem_mem hql))) s _ (by simp only[upd,if_neg n12];exact hh) ht12).mono ?_;rintro _ H2 ⟨b,s1,rfl,hR,hh',ht'⟩;have hh8':H2 r8=some (.cells (dAs a) 44):=ht' r8 _ n8.symm (by simp only[upd,if_neg n128];exact hh8);cases b with
         | false=>
          simp(disch:=omega) only[go_sem,↓reduceIte,e1,e8,e26,e27,e28,e33,e34,e35,e40,e41,e42];exact Nu.refl ⟨false,s1,rfl,hc.no hR,hh',ht12.trans ht'⟩
         | true=>
          simp(disch:=omega) only[go_sem,↓reduceIte,e1,e8,e26,e27,e28,e33,e34,e35,e40,e41,e42];refine⟨(q+1,s1),_,Ni.refl _,(hM _ _ _).2 ?_,by dsimp only;omega⟩;simp(disch:=omega) only[go_sem,↓reduceIte,e1,e8,e26,e27,e28,e33,e34,e35,e40,e41,e42,hwq];(repeat' apply And.intro)<;>(try first | rfl | assumption | omega)
          ·exact ht12.trans ht'
          ·exact hc.next hR
        ·have:q=c.l.length:=by omega
         subst this;rw[List.drop_length,List.nil_append] at hc;simp(disch:=omega) only[go_sem,↓reduceIte,e1,e8,e26,e27,e28,e33,e34,e35,e40,e41,e42];refine⟨(m+1,s),_,Ni.refl _,(hK _ _ _).2 ?_,by dsimp only;omega⟩;simp(disch:=omega) only[go_sem,↓reduceIte,e1,e8,e26,e27,e28,e33,e34,e35,hwm];(repeat' apply And.intro)<;>(try first | rfl | assumption | omega)
      ·have:m=a.c.length:=by omega
       subst this;rw[List.drop_length,List.flatMap_nil,List.nil_append,List.cons_append,List.nil_append] at hc;have hda:=Uv a;simp(disch:=omega) only[go_sem,↓reduceIte,e1,e8,e26,e27,e28,e33,e34,e35,hh8,hda];refine(hf a.e (Mz hma (La a)) s _ hh ht).mono ?_;rintro _ H2 ⟨b,s1,rfl,hR,hh',ht'⟩;cases b with
       | false=>
        simp(disch:=omega) only[go_sem,↓reduceIte,e1,e8,e26,e27,e28,e33,e34,e35];exact Nu.refl ⟨false,s1,rfl,hc.no hR,hh',ht.trans ht'⟩
       | true=>
        simp(disch:=omega) only[go_sem,↓reduceIte,e1,e8,e26,e27,e28,e33,e34,e35];refine⟨(j+1,s1),_,Ni.refl _,(hJ _ _ _).2 ?_,by dsimp only;omega⟩;simp(disch:=omega) only[go_sem,↓reduceIte,e1,e8,e26,e27,e28,e33,e34,e35,hwj];(repeat' apply And.intro)<;>(try first | rfl | assumption | omega)
        ·exact ht.trans ht'
        ·exact hc.next hR
    ·have:j=e.a.length:=by omega
     subst this;rw[List.drop_length,List.flatMap_nil] at hc;simp(disch:=omega) only[go_sem,↓reduceIte,e1,e26,e27,e28];exact Nu.refl ⟨true,s,rfl,hc.fin,hh,ht⟩
end
end Go.Dl
