/- The data level and the contracts of the functions that are reached (part 4). -/
import Derived.Lib.IndexMore
import Derived.Lib.IndexAny
import Derived.Lib.TrimByte
import Derived.Lib.Strings
import Derived.Lib.Repeat
import Derived.Lib.CountLaws
import Derived.Lib.ParseIntB
import Derived.Lib.Fields
import Derived.Laws.RangeString
import Derived.Laws.RangeAny
import Derived.Test.YtddbdpcgikmiaaaGreatDoorPnc
set_option linter.unusedSimpArgs false
set_option linter.unusedVariables false
set_option linter.unusedSectionVars false
-- Chapter 2: tokens: the plain laws, part 
namespace Go.Dl
open Go
set_option maxRecDepth 10000
def isS (t:Tok) (of:List UInt8):Bool:=decide (t.kind=4)&&(match t.text with | [c]=>decide (c∈of) | _=>false)
def Do7 (t:Tok):Bool:=isS t [46] || decide (t.kind=4)&&decide (t.text= [46,46])
def Zm (a b:Tok):Bool:=
 if isS b [44,59,41,39] || isS a [40,39] then false else if isS a [46] then Do7 b else if isS b [46] then Do7 a else true
def Gw (t:Tok):List UInt8:=(if t.kind=3 then Lib.itoa t.n else [])++t.text
def Qo:Option Tok->List Tok->List UInt8
 | _,[]=> []
 | none,t::l=>Gw t++Qo (some t) l
 | some a,t::l=>(if Zm a t then [32] else [])++(Gw t++Qo (some t) l)
def Uo (l:List Tok):List UInt8:=Qo none l
def Te (l:List Tok):Bool:=l.all Vc
def Do8 (t:Tok):Tok:= { t with line:=0 }
theorem Bi7 {w:List UInt8} (h:Lo w=true): ∃c r,w=c::r/\Dj c=true/\w.length<=32/\w.all Ea=true/\Tw w=false:=by
 unfold Lo at h
 simp only[jF,decide_eq_true_eq,Bool.not_eq_true'] at h
 obtain⟨⟨⟨h1,h2⟩,h3⟩,h4⟩:=h
 match w with
 | []=>cases h1
 | c::r=>exact⟨c,r,rfl,h1,h2,h3,h4⟩
theorem Et5: ∀w∈Ay8,w.length<=32/\w.all Dj=true/\w≠ []:=by decide+kernel
theorem Up {c:UInt8} (h:Dj c=true):Ea c=true:=by simp [Ea,h]
theorem Bw2 {w:List UInt8} (h:Tw w=true): ∃c r,w=c::r/\Dj c=true/\w.length<=32/\w.all Ea=true:=by
 have hm:w∈Ay8:=of_decide_eq_true h
 obtain⟨h1,h2,h3⟩:=Et5 w hm
 match w,h3 with
 | [],h3=>exact absurd rfl h3
 | c::r,_=>
  rw[List.all_eq_true] at h2
  exact⟨c,r,rfl,h2 c (by simp),h1,List.all_eq_true.2 fun x hx=>Up (h2 x hx)⟩
theorem Eb1: ∀c∈Ae8,Dj c=false/\Eh c=false/\Ea c=false/\c≠32:=by decide+kernel
theorem Eb2: ∀p∈Rr,Dj p.1=false/\Eh p.1=false/\Ea p.1=false/\p.1≠32/\p.1≠45/\p.2∈([62,46,61]:List UInt8):=by decide+kernel
theorem At5 {w:List UInt8} (h:Co7 w=true):(∃a,w= [a]/\a∈Ae8)\/ ∃a b,w= [a,b]/\(a,b)∈Rr:=by
 unfold Co7 at h
 simp only[jF,decide_eq_true_eq] at h
 obtain⟨h1,h2⟩:=h
 match w with
 | []=>exact absurd rfl h1
 | [a]=>
  simp only[Nq,jQ] at h2
  split at h2
  ·rename_i hm;exact .inl ⟨a,rfl,hm⟩
  ·cases h2
 | [a,b]=>
  simp only[Nq,jA,jB] at h2
  split at h2
  ·rename_i hm;exact .inr ⟨a,b,rfl,hm⟩
  ·split at h2<;>omega
 | a::b::c::r=>
  simp only[Nq,jA] at h2
  split at h2<;>(try split at h2)<;>omega
theorem Bi8: ∀(k n:Nat),n<10^(k+1)->Lib.nDigits n<=k+1
 | 0,n,h=>by rw[Lib.nDigits_small (by simpa using h)];exact Nat.le_refl _
 | k+1,n,h=>by
  by_cases h9:n<10
  ·rw[Lib.nDigits_small h9];omega
  ·rw[Lib.nDigits_big h9];have:=Bi8 k (n/10) (by rw[Nat.div_lt_iff_lt_mul (by omega)];rw[Nat.pow_succ] at h;exact h);omega
theorem Ce1 {n:Nat} (h:n<=2147483647):(Lib.decDigits n).length<=10:=by
 rw[Lib.decDigits_length];exact Bi8 9 n (by omega)
theorem Ce2 (u:Nat): ∀b∈Lib.decDigits u,Eh b=true:=by
 induction u using Nat.strongRecOn with
 | ind u ih=>
  have one: ∀d:Nat,d<10->Eh (UInt8.ofNat (48+d))=true:=fun d hd=>by
   unfold Eh;rw[UInt8.toNat_ofNat',jF,decide_eq_true_eq,decide_eq_true_eq];omega
  intro b hb;rw[Lib.decDigits] at hb;split at hb
  ·rename_i h
   rw[List.mem_singleton] at hb;subst hb;exact one u h
  ·rename_i h
   rcases List.mem_append.1 hb with hb | hb
   ·exact ih (u/10) (by omega) b hb
   ·rw[List.mem_singleton] at hb;subst hb;exact one _ (by omega)
theorem Co9 (u:Nat): ∃c r,Lib.decDigits u=c::r/\Eh c=true:=by
 have h:=Ce2 u
 have y:Lib.decDigits u≠ []:=by rw[Lib.decDigits];split<;>simp
 match hd:Lib.decDigits u,y with
 | [],y=>exact absurd rfl y
 | c::r,_=>rw[hd] at h;exact⟨c,r,rfl,h c (by simp)⟩
theorem Bw3 (w:List UInt8) (c:UInt8):Tx (w++ [c])=10*Tx w+(c.toNat-48):=by simp [Tx,List.foldl_append]
theorem Et6 (u:Nat):Tx (Lib.decDigits u)=u:=by
 induction u using Nat.strongRecOn with
 | ind u ih=>
  have one: ∀d:Nat,d<10->(UInt8.ofNat (48+d)).toNat-48=d:=fun d hd=>by rw[UInt8.toNat_ofNat'];omega
  rw[Lib.decDigits];split
  ·rename_i h
   show 10*0+((UInt8.ofNat (48+u)).toNat-48)=u;rw[one u h];omega
  ·rename_i h
   rw[Bw3,ih (u/10) (by omega),one _ (by omega)];omega
theorem Wz {c:UInt8} (h:Eh c=true):Ea c=true:=by simp [Ea,h]
theorem Ce3 {c:UInt8} (h:Eh c=true):Dj c=false:=by
 unfold Eh at h;simp only[jF,decide_eq_true_eq] at h;unfold Dj;rw[Bool.or_eq_false_iff,Bool.and_eq_false_iff,Bool.and_eq_false_iff];exact⟨.inl (decide_eq_false (by omega)), .inl (decide_eq_false (by omega))⟩
theorem Bi9 {n:Int} (h:0<=n):Lib.itoa n=Lib.decDigits n.toNat:=by rw[Lib.itoa,if_neg (by omega)]
def At6 (t:Tok) (r:List UInt8):Prop:=r= []\/ ∃c r',r=c::r'/\(if t.kind=4 then∀a,t.text= [a]->(a,c)∉Rr else Ea c=false)
theorem Zn: ∀w:List UInt8,w.all Ea=true->Et w=w
 | [],_=>rfl
 | c::w,h=>by
  rw[List.all_cons,jF] at h;show List.takeWhile Ea (c::w)=_;rw[List.takeWhile_cons,h.1];have:=Zn w h.2;unfold Et at this;simp [this]
theorem At7 {w r:List UInt8} (hw:w.all Ea=true) (hr:r= []\/ ∃c r',r=c::r'/\Ea c=false):Et (w++r)=w:=by
 have h:Et w=w:=Zn w hw;rcases hr with rfl | ⟨c,r',rfl,hc⟩
 ·rw[jH,h]
 ·rw[Bi2 _ _ _ hc,h]
theorem At8 {t:Tok} (h:Vc t=true):(t.kind=1/\t.n=0/\Lo t.text=true)\/(t.kind=2/\t.n=0/\Tw t.text=true)\/(t.kind=4/\t.n=0/\Co7 t.text=true)\/(t.kind=3/\t.text= []/\0<=t.n/\t.n<=2147483647):=by
 unfold Vc at h;split at h
 ·rename_i k
  simp only[jF,decide_eq_true_eq] at h;exact .inl ⟨k,h⟩
 ·split at h
  ·rename_i k
   simp only[jF,decide_eq_true_eq] at h;exact .inr (.inl ⟨k,h⟩)
  ·split at h
   ·rename_i k
    simp only[jF,decide_eq_true_eq] at h;exact .inr (.inr (.inl ⟨k,h⟩))
   ·simp only[jF,decide_eq_true_eq] at h;exact .inr (.inr (.inr ⟨h.1.1.1,h.1.1.2,h.1.2,h.2⟩))
theorem Dd6 {t:Tok} (h:Vc t=true) {r:List UInt8} (hr:At6 t r):Ei (Gw t++r)=(Do8 t,(Gw t).length):=by
 obtain⟨k,li,D,n⟩:=t;rcases At8 h with⟨rfl,h1,h2⟩ | ⟨rfl,h1,h2⟩ | ⟨rfl,h1,h2⟩ | ⟨rfl,h1,h2,h3⟩
 ·dsimp only at h1 h2;subst h1;obtain⟨c,w,rfl,hc,_,ha,hk⟩:=Bi7 h2;have hw:=At7 ha (by simpa [At6] using hr);have e:Gw ⟨1,li,c::w,0⟩=c::w:=rfl;rw[e];show(if Dj c then _ else _)=_;rw[if_pos hc];rw[hw,hk,h2];rfl
 ·dsimp only at h1 h2;subst h1;obtain⟨c,w,rfl,hc,_,ha⟩:=Bw2 h2;have hw:=At7 ha (by simpa [At6] using hr);have e:Gw ⟨2,li,c::w,0⟩=c::w:=rfl;rw[e];show(if Dj c then _ else _)=_;rw[if_pos hc];rw[hw,h2];rfl
 ·dsimp only at h1 h2;subst h1;have e:Gw ⟨4,li,D,0⟩=D:=rfl;rw[e];rcases At5 h2 with⟨a,rfl,ha⟩ | ⟨a,b,rfl,E⟩
  ·obtain⟨y,C,_,_⟩:=Eb1 a ha;have hs:Nq (a::r)=1:=by
    rcases hr with rfl | ⟨c,r',rfl,hc⟩
    ·simp only[Nq,if_pos ha]
    ·rw[if_pos rfl] at hc;simp only[Nq,if_neg (hc a rfl),if_pos ha]
   show(if Dj a then _ else if Eh a then _ else _)=_;rw[y,C];show(Tok.mk 4 0 ((a::r).take (Nq (a::r))) 0,Nq (a::r))=_;rw[hs];rfl
  ·obtain⟨y,C,_,_⟩:=Eb2 _ E;have hs:Nq (a::b::r)=2:=by simp only[Nq,if_pos E]
   show(if Dj a then _ else if Eh a then _ else _)=_;rw[y,C];show(Tok.mk 4 0 ((a::b::r).take (Nq (a::b::r))) 0,Nq (a::b::r))=_;rw[hs];rfl
 ·dsimp only at h1 h2 h3;subst h1;obtain⟨u,rfl⟩: ∃u:Nat,n=u:=⟨n.toNat,by omega⟩;have e:Gw ⟨3,li,[],(u:Int)⟩=Lib.decDigits u:=by
   show Lib.itoa (u:Int)++ []=_;rw[Bi9 (by omega),jH];rfl
  rw[e];obtain⟨c,w,I,hc⟩:=Co9 u;have hd:=Ce2 u;have hl:=Ce1 (n:=u) (by omega);have hv:=Et6 u;rw[I] at hd hl hv⊢
  have ha:(c::w).all Eh=true:=List.all_eq_true.2 hd;have hw:=At7 (w:=c::w) (List.all_eq_true.2 fun x hx=>Wz (hd x hx)) (by simpa [At6] using hr);show(if Dj c then _ else if Eh c then _ else _)=_;rw[Ce3 hc,hc,hw];have hi:Bc4 (c::w)=some u:=by rw[Bc4,if_pos ⟨hl,ha,by rw[hv];omega⟩,hv]
  rw[if_neg (by simp),if_pos rfl,hi];rfl
theorem Dd7 {t:Tok} (h:Vc t=true): ∃c r,Gw t=c::r/\((Ea c=true/\t.kind≠4/\(c::r).all Ea=true/\(c::r).length<=32)\/
  t.kind=4/\((t.text= [c]/\r= []/\c∈Ae8)\/ ∃b,t.text= [c,b]/\r= [b]/\(c,b)∈Rr)):=by
 obtain⟨k,li,D,n⟩:=t;rcases At8 h with⟨rfl,h1,h2⟩ | ⟨rfl,h1,h2⟩ | ⟨rfl,h1,h2⟩ | ⟨rfl,h1,h2,h3⟩
 ·obtain⟨c,w,e,hc,hl,ha,hk⟩:=Bi7 h2;dsimp only at e;subst e;exact⟨c,w,rfl, .inl ⟨Up hc,by simp,ha,hl⟩⟩
 ·obtain⟨c,w,e,hc,hl,ha⟩:=Bw2 h2;dsimp only at e;subst e;exact⟨c,w,rfl, .inl ⟨Up hc,by simp,ha,hl⟩⟩
 ·rcases At5 h2 with⟨a,e,ha⟩ | ⟨a,b,e,y⟩<;>(dsimp only at e;subst e)
  ·exact⟨a,[],rfl, .inr ⟨rfl, .inl ⟨rfl,rfl,ha⟩⟩⟩
  ·exact⟨a,[b],rfl, .inr ⟨rfl, .inr ⟨b,rfl,rfl,y⟩⟩⟩
 ·dsimp only at h1 h2 h3;subst h1;obtain⟨u,rfl⟩: ∃u:Nat,n=u:=⟨n.toNat,by omega⟩;have e:Gw ⟨3,li,[],(u:Int)⟩=Lib.decDigits u:=by
   show Lib.itoa (u:Int)++ []=_;rw[Bi9 (by omega),jH];rfl
  obtain⟨c,w,C,hc⟩:=Co9 u;have hd:=Ce2 u;have hl:=Ce1 (n:=u) (by omega);rw[C] at hd hl e;exact⟨c,w,e, .inl ⟨Wz hc,by simp,List.all_eq_true.2 fun x hx=>Wz (hd x hx),by omega⟩⟩
theorem Bw4 {c:UInt8} (h:Ea c=true):33<=c.toNat/\c.toNat<=126:=by
 have hu:c=95->c.toNat=95:=fun e=>by rw[e];rfl
 unfold Ea Dj Eh at h;simp only[Bool.or_eq_true,jF,decide_eq_true_eq] at h;rcases h with((h | h) | h) | h
 ·omega
 ·omega
 ·omega
 ·have:=hu h;omega
theorem Dd8: ∀c∈Ae8,33<=c.toNat/\c.toNat<=126:=by decide+kernel
theorem Dd9: ∀p∈Rr,(33<=p.1.toNat/\p.1.toNat<=126)/\33<=p.2.toNat/\p.2.toNat<=126:=by decide+kernel
theorem Ac7 {t:Tok} (h:Vc t=true):(∀c∈Gw t,33<=c.toNat/\c.toNat<=126)/\1<=(Gw t).length/\(Gw t).length<=32:=by
 obtain⟨c,r,e,h1 | ⟨_,⟨_,rfl,h2⟩ | ⟨b,_,rfl,h2⟩⟩⟩:=Dd7 h
 ·rw[e];exact⟨fun x hx=>Bw4 (List.all_eq_true.1 h1.2.2.1 x hx),by simp,h1.2.2.2⟩
 ·rw[e];refine⟨fun x hx=> ?_,by simp,by simp⟩;rw[List.mem_singleton] at hx;subst hx;exact Dd8 x h2
 ·rw[e];refine⟨fun x hx=> ?_,by simp,by simp⟩;have:=Dd9 _ h2;simp only[List.mem_cons,List.not_mem_nil,or_false] at hx;rcases hx with rfl | rfl
  ·exact this.1
  ·exact this.2
theorem Ac8: ∀(l:List Tok) (a:Option Tok),Te l=true->l.length<=(Qo a l).length/\(Qo a l).length<=33*l.length
 | [],a,_=>by cases a<;>exact⟨Nat.le_refl _,Nat.le_refl _⟩
 | t::l,a,h=>by
  rw[Te,List.all_cons,jF] at h;have h1:=(Ac7 h.1).2;have h2:=Ac8 l (some t) h.2;cases a with
  | none=>
   show _<=(Gw t++Qo (some t) l).length/\(Gw t++Qo (some t) l).length<=_;rw[jC,jA];omega
  | some a=>
   rw[show Qo (some a) (t::l)=(if Zm a t then [32] else [])++(Gw t++Qo (some t) l) from rfl,jC,jC,jA];split
   ·rw[jQ];omega
   ·rw[jB];omega
theorem Eb3 {y:List (Tok×Bool×Int)} (h: ∀p∈y,p.2.1=true):Dd4 y=none:=by
 rw[Dd4,List.find?_eq_none.2 (fun p hp=>by rw[h p hp];simp)];rfl
def Et7 (d:Nat) (l:List Tok):List UInt8:=List.replicate (2*d) 32++Uo l
theorem Fo2 {c:UInt8} (r:List UInt8) (h:c≠32):Fv (c::r)=c::r:=by
 unfold Fv;rw[List.dropWhile_cons,beq_eq_false_iff_ne.2 h];rfl
theorem Et8 {c:UInt8} (r:List UInt8) (h:c≠45):Pl (c::r)=false:=by
 unfold Pl;split
 ·rename_i e;simp at e;exact absurd e.1 h
 ·rfl
theorem Az1 {c:UInt8} {r:List UInt8} (y:c≠32) (C:Pl (c::r)=false):Gv (c::r)=if(Ei (c::r)).2=0 then [((Ei (c::r)).1,false)] else((Ei (c::r)).1,true)::Gv ((c::r).drop (Ei (c::r)).2):=by
 rw[Nr,Fo2 r y,if_neg (fun h=>h.elim (by simp) (fun h=>by rw[C] at h;cases h))]
theorem Cp0 {s:List UInt8} (h:(10:UInt8)∉s) (hs:s.length<=8000):Ar s=match Dd4 ((Gv s).map fun p=>({ p.1 with line:=1 },p.2,1)) with
  | some e=>([],e.1,e.2)
  | none=>((Gv s).map fun p=> { p.1 with line:=1 },0,0):=by
 have y:En s= [s]:=by rw[En,Ag6 10 _ h];rfl
 have ha:Nd [s] 1=(Gv s).map fun p=>({ p.1 with line:=1 },p.2,1):=by
  rw[Nd,Nd,jH];rfl
 rw[Ce0 (by omega),y,ha]
 cases Dd4 ((Gv s).map fun p=>({ p.1 with line:=1 },p.2,1)) with
 | some e=>rfl
 | none=>dsimp only;rw[List.map_map];rfl
theorem Cp1 {s:List UInt8} {l:List Tok} (h:(10:UInt8)∉s) (hs:s.length<=8000) (y:Gv s=l.map fun t=>(t,true)):Ar s=(l.map fun t=> { t with line:=1 },0,0):=by
 rw[Cp0 h hs,y,Eb3 (fun p hp=>by
  rw[List.map_map] at hp;obtain⟨t,_,rfl⟩:=List.mem_map.1 hp;rfl)]
 dsimp only;rw[List.map_map];rfl
theorem Cp2: ∀a:List UInt8,Go.Op.bytesLess a a=false
 | []=>rfl
 | x::a=>by
  unfold Go.Op.bytesLess;simp [Cp2 a]
theorem Bw5: ∀a b:List UInt8,Go.Op.bytesLess a b=true->Go.Op.bytesLess b a=false
 | [],[],h=>rfl
 | [],_::_,_=>rfl
 | _::_,[],h=>by cases h
 | x::a,y::b,h=>by
  unfold Go.Op.bytesLess at h⊢
  by_cases e:x=y
  ·subst e;simp only[UInt8.lt_irrefl] at h⊢
   simp at h⊢
   exact Bw5 a b h
  ·have hn:y≠x:=fun h=>e h.symm;simp [e,hn] at h⊢
   exact UInt8.le_of_lt h
theorem Cp3:Ay8.Pairwise (fun a b=>Go.Op.bytesLess a b=true):=by decide+kernel
structure halfAt (l:List (List UInt8)) (s:List UInt8) (i j:Nat):Prop where
 le:i<=j
 len:j<=l.length
 lo: ∀k w,k<i->l[k]? =some w->w≠s
 hi: ∀k w,j<k->l[k]? =some w->w≠s
theorem De0 (l:List (List UInt8)) (s:List UInt8):halfAt l s 0 l.length:=
 ⟨Nat.zero_le _,Nat.le_refl _,fun _ _ h=>by omega,fun k w h hk=>by rw[List.getElem?_eq_none (by omega)] at hk;cases hk⟩
theorem Do9 {l:List (List UInt8)} {a:Nat} {b:Nat} {u v:List UInt8} (hl:l.Pairwise fun a b=>Go.Op.bytesLess a b=true) (h:a<b) (ha:l[a]? =some u) (hb:l[b]? =some v):Go.Op.bytesLess u v=true:=by
 obtain⟨h1,rfl⟩:=List.getElem?_eq_some_iff.1 ha;obtain⟨h2,rfl⟩:=List.getElem?_eq_some_iff.1 hb;exact List.pairwise_iff_getElem.1 hl a b h1 h2 h
theorem Fo3 {l:List (List UInt8)} {s w:List UInt8} {i j h:Nat} (hl:l.Pairwise fun a b=>Go.Op.bytesLess a b=true) (hk:halfAt l s i j) (h2:h<j) (hw:l[h]? =some w) (y:Go.Op.bytesLess w s=true):halfAt l s (h+1) j:=by
 obtain⟨k1,C,I,D⟩:=hk;refine⟨by omega,C,fun k u J hu e=> ?_,D⟩;subst e;rcases Nat.lt_or_ge k h with E | hge
 ·have:=Do9 hl E hu hw;rw[Bw5 _ _ this] at y;cases y
 ·have:k=h:=by omega
  subst this;rw[hw] at hu;cases hu;rw[Cp2] at y;cases y
theorem Eb4 {l:List (List UInt8)} {s w:List UInt8} {i j h:Nat} (hl:l.Pairwise fun a b=>Go.Op.bytesLess a b=true) (hk:halfAt l s i j) (h1:i<=h) (h2:h<j) (hw:l[h]? =some w) (y:Go.Op.bytesLess w s=false):halfAt l s i h:=by
 obtain⟨k1,E,C,I⟩:=hk;refine⟨h1,by omega,C,fun k u D hu e=> ?_⟩;subst e;rw[Do9 hl D hw hu] at y;cases y
theorem Et9 {l:List (List UInt8)} {s:List UInt8} {i:Nat} (hk:halfAt l s i i):decide (s∈l)=decide (l[i]? =some s):=by
 obtain⟨_,_,y,C⟩:=hk;refine decide_eq_decide.2 ⟨fun h=> ?_,fun h=>List.mem_of_getElem? h⟩;obtain⟨k,hk⟩:=List.mem_iff_getElem?.1 h;rcases Nat.lt_trichotomy k i with h1 | h1 | h1
 ·exact absurd rfl (y k s h1 hk)
 ·rw[<-h1];exact hk
 ·exact absurd rfl (C k s h1 hk)
def Lp (s:List UInt8) (line:Nat) (l:List Tok):List Tok×Int×Int:=
 match Cd9 (Nd (En s) line) l.length with
 | some e=>([],e.1,e.2)
 | none=>(l++(Nd (En s) line).map (·.1),0,0)
theorem Cp4 {s:List UInt8} (h:s.length<=65536):Ar s=Lp s 1 []:=by
 rw[Ar,if_neg (by omega),Lp,jB];cases Cd9 (Nd (En s) 1) 0 with
 | some e=>rfl
 | none=>rfl
theorem Eu0 (line:Nat) (l:List Tok):Lp [] line l=(l,0,0):=by
 have e:Nd (En []) line= []:=rfl;rw[Lp,e];show(l++ [],(0:Int),(0:Int))=_;rw[jH]
theorem Fo4 (r:List UInt8) (line:Nat) (l:List Tok):Lp (10::r) line l=Lp r (line+1) l:=by
 have e:Nd (En (10::r)) line=Nd (En r) (line+1):=by
  rw[En,Cx,if_pos rfl,Nd];rfl
 rw[Lp,Lp,e]
theorem Zo (c:UInt8): ∀(s y:List UInt8),∃h t,Cx c s []=h::t/\Cx c s y=(y++h)::t
 | [],y=>⟨[],[],rfl,by simp [Cx]⟩
 | x::s,y=>by
  rw[Cx,Cx];split
  ·exact⟨[],_,rfl,by simp⟩
  ·obtain⟨h,t,e1,D⟩:=Zo c s [x];obtain⟨h',t',C,E⟩:=Zo c s (y++ [x]);rw[e1] at C;cases C;exact⟨x::h,t,by rw[jG,D];rfl,by rw[E];simp⟩
theorem Xa {c:UInt8} (r:List UInt8) (y:c≠10): ∃h t,En r=h::t/\En (c::r)=(c::h)::t:=by
 obtain⟨h,t,e1,C⟩:=Zo 10 r [c];exact⟨h,t,e1,by rw[En,Cx,if_neg y,jG,C];rfl⟩
theorem Zp {s h:List UInt8} {t:List (List UInt8)} (e:En s=h::t):(10:UInt8)∉h/\((t= []/\s=h)\/(t≠ []/\s=h++10::Ae9 t))/\ ∀n,n<=h.length->En (s.drop n)=h.drop n::t:=by
 have hm: ∀w∈En s,(10:UInt8)∉w:=fun w hw=>Zk 10 s [] w (by simp) hw
 have hj:Ae9 (En s)=s:=by rw[En,Dd2];rfl
 rw[e] at hm hj
 have h10:=hm h (by simp)
 have hd: ∀n,(10:UInt8)∉h.drop n:=fun n hx=>h10 (List.mem_of_mem_drop hx)
 match t with
 | []=>
  have hs:h=s:=hj
  subst hs
  exact⟨h10, .inl ⟨rfl,rfl⟩,fun n hn=>by rw[En,Ag6 10 _ (hd n)];rfl⟩
 | u::t=>
  have hs:h++10::Ae9 (u::t)=s:=hj
  subst hs
  refine⟨h10, .inr ⟨by simp,rfl⟩,fun n hn=> ?_⟩
  rw[List.drop_append_of_le_length hn,En,Bi3 10 _ _ (hd n)]
  have:=Bi5 (u::t) (by simp) fun w hw=>hm w (List.mem_cons_of_mem _ hw)
  rw[En] at this
  rw[this];rfl
theorem Fo5 (r:List UInt8) (line:Nat) (l:List Tok):Lp (32::r) line l=Lp r line l:=by
 obtain⟨h,t,e1,y⟩:=Xa (c:=32) r (by decide);have C:Gv (32::h)=Gv h:=by
  have ht:Fv (32::h)=Fv h:=rfl;rw[Nr (32::h),Nr h,ht]
 have e:Nd (En (32::r)) line=Nd (En r) line:=by rw[e1,y,Nd,Nd,C]
 rw[Lp,Lp,e]
theorem Ge2 (s r:List UInt8) (h:s≠ []):Nq (s++10::r)=Nq s:=by
 match s,h with
 | [],h=>exact absurd rfl h
 | [a],_=>
  have:(a,(10:UInt8))∉Rr:=by simp [Rr]
  simp only[jI,jG,Nq,if_neg this]
 | a::b::s,_=>rfl
theorem Eu1 (s r:List UInt8) (h:s≠ []):Ei (s++10::r)=Ei s:=by
 have hw:Et (s++10::r)=Et s:=Bi2 s r 10 rfl
 have hs:=Ge2 s r h
 have ht:(s++10::r).take (Nq s)=s.take (Nq s):=List.take_append_of_le_length (Dd1 s)
 match s,h with
 | [],h=>exact absurd rfl h
 | c::s,_=>
  unfold Ei
  rw[jI] at hw hs ht⊢
  dsimp only
  rw[hw,hs,ht]
theorem Bj0 {c:UInt8} {r:List UInt8} (line:Nat) (l:List Tok) (E:c≠10) (I:c≠32) (y:Pl (c::r)=false):
  Lp (c::r) line l=if(Ei (c::r)).2=0 then([],(line:Int),20) else if l.length=8192 then([],(line:Int),3)
   else Lp ((c::r).drop (Ei (c::r)).2) line (l++ [{ (Ei (c::r)).1 with line:=(line:Int) }]):=by
 obtain⟨h,t,e1,D⟩:=Xa r E
 obtain⟨_,hp,J⟩:=Zp D
 have hf:Ei (c::r)=Ei (c::h):=by
  rcases hp with⟨_,hs⟩ | ⟨_,hs⟩
  ·rw[hs]
  ·rw[hs,Eu1 _ _ (by simp)]
 have hc2:Pl (c::h)=false:=by
  rcases hp with⟨_,hs⟩ | ⟨_,hs⟩
  ·rwa [hs] at y
  ·cases hi:Pl (c::h) with
   | false=>rfl
   | true=>
    rw[hs] at y
    match h with
    | []=>unfold Pl at hi;split at hi<;>simp_all
    | d::h'=>
     by_cases hh:c=45/\d=45
     ·obtain⟨rfl,rfl⟩:=hh
      exact absurd y (by simp [Pl])
     ·unfold Pl at hi
      split at hi
      ·rename_i C;simp at C;exact absurd ⟨C.1,C.2.1⟩ hh
      ·cases hi
 have hle:(Ei (c::h)).2<=(c::h).length:=Am4 _
 have L:=Az1 I hc2
 rw[hf,Lp,D,Nd,L]
 by_cases h0:(Ei (c::h)).2=0
 ·rw[if_pos h0,if_pos h0,jN,jI,Cd9,if_pos rfl]
 ·rw[if_neg h0,if_neg h0,jN,jI,Cd9,if_neg (by simp)]
  by_cases h8:l.length=8192
  ·rw[if_pos h8,if_pos h8]
  ·rw[if_neg h8,if_neg h8]
   have hd:=J _ hle
   rw[Lp,hd,Nd,jC,jQ]
   split
   ·rfl
   ·simp
theorem Eu2 (r:List UInt8) (line:Nat) (l:List Tok): ∃h t,En (45::45::r)=h::t/\(Px h=false->Lp (45::45::r) line l=([],(line:Int),20))/\
  (Px h=true->Lp (45::45::r) line l=Lp ((45::45::r).drop h.length) line l):=by
 obtain⟨h1,t,e1,E⟩:=Xa (c:=45) r (by decide);obtain⟨h2,J,C,y⟩:=Xa (c:=45) (45::r) (by decide);rw[E] at C;cases C;obtain⟨_,_,I⟩:=Zp y;have D:Gv (45::45::h1)=if Px (45::45::h1) then [] else [(Am3,false)]:=by
  have ht:Fv (45::45::h1)=45::45::h1:=rfl;rw[Nr,ht,if_pos (.inr rfl)]
 refine⟨_,t,y,fun hp=> ?_,fun hp=> ?_⟩
 ·rw[Lp,y,Nd,D,hp,if_neg (by simp),jN,jI,Cd9,if_pos rfl]
 ·have hd:=I _ (Nat.le_refl _);rw[Lp,Lp,hd,y,Nd,Nd,D,hp,List.drop_length];rfl
theorem Eb5 (c:UInt8):Eh c=true↔48<=c.toNat/\c.toNat<=57:=by simp [Eh]
theorem Gl2 {s:List UInt8}:(Et s=s)↔s.all Ea=true:=by
 constructor
 ·intro h;have: ∀l:List UInt8,(l.takeWhile Ea).all Ea=true:=fun l=>by
   induction l with
   | nil=>rfl
   | cons c l ih=>
    rw[List.takeWhile_cons];split
    ·rename_i hc;rw[List.all_cons,hc,ih];rfl
    ·rfl
  rw[<-h];exact this s
 ·exact Zn s
theorem Fo6 (s:List UInt8):Lo s=(decide (s≠ [])&&(decide (s.length<=32)&&((match s with | c::_=>Dj c | []=>false)&&(decide (Et s=s)&&!Tw s)))):=by
 have hw:decide (Et s=s)=s.all Ea:=by
  cases h:s.all Ea with
  | true=>exact decide_eq_true (Gl2.2 h)
  | false=>exact decide_eq_false fun e=>by rw[Gl2.1 e] at h;cases h
 rw[hw]
 unfold Lo
 match s with
 | []=>rfl
 | c::r=>
  simp only[ne_eq,reduceCtorEq,not_false_eq_true,decide_true,jS]
  cases Dj c<;>cases decide ((c::r).length<=32)<;>cases (c::r).all Ea<;>cases Tw (c::r)<;>rfl
theorem Dp0 {s:List UInt8} {k:Nat} {c:UInt8} (h:(s.take k).all Ea=true) (y:s[k]? =some c) (hw:Ea c=false):Et s=s.take k:=by
 obtain⟨hk,rfl⟩:=List.getElem?_eq_some_iff.1 y;have e:s=s.take k++s[k]::s.drop (k+1):=by rw[<-List.drop_eq_getElem_cons hk,List.take_append_drop]
 rw[show Et s=Et (s.take k++s[k]::s.drop (k+1)) from congrArg Et e,Bi2 _ _ _ hw,Zn _ h]
theorem De1: ∀n:Fin 256,Dj (UInt8.ofNat n.1)=(decide (97<=n.1 ||| 32)&&decide (n.1 ||| 32<=122)):=by decide+kernel
end Go.Dl
-- Names and reserved words (chapter 2), fo
namespace Go.Dl
open Go Go.Proofs Go.RowKit
set_option maxRecDepth 100000
variable {H Hn:Ac}
attribute [go_sem] List.getElem?_toArray List.getElem?_cons_zero List.getElem?_cons_succ List.append_eq
theorem Ge3 {P:Program} {w:World} {H:Ac} {G:Nat->DVal} {g:Nat} {name:String} {k:IntKind} {y:List Int} (C:P.globalNamed name=some g) (h:GOk G w H) (e:G g= .vptr (y.map fun z=> .int k z) 0):Lib.TabIs P w name k y:=by
 have hx:=h.exact g _ e;have hr:=h.rel g;rw[e] at hr;have hc:=Ea8 C hr rfl;unfold Lib.TabIs World.var?;rw[C];simp only[Option.bind_some];cases ho:w.heap[g]? with
 | none=>rw[ho] at hx;cases hx
 | some o=>
  cases o with
  | cells c t fz=>
   rw[ho] at hx;simp only[Pk,Option.some.injEq,jK] at hx;simp only[Option.some.injEq];apply Array.ext_getElem?;intro i;by_cases hi:i<y.length
   ·have:=hc i y[i] (List.getElem?_eq_getElem hi);simp only[World.cell?,ho] at this;simp [hi];simpa using this
   ·rw[Array.getElem?_eq_none (by omega),Array.getElem?_eq_none (by simp;omega)]
  | _=>rw[ho] at hx;cases hx
section
end
section
variable {G:Nat->DVal} {H:Ac}
theorem Eb6 (hG:G 1= .vptr (Lib.asciiSpaceTab.map fun z=> .int .u8 z) 0) (s:List UInt8) (hs:s.length<4294967281) (ha: ∀(j:Nat) b,s[j]? =some b->b.toNat<128):
  Af Tryz.prog G 307 [.str s] H (Au (Ae7 (Lib.fields s)) H):=by
 refine⟨Tryz.call307,fun vs w hv h hg=> ?_⟩;simp only[Az,Rel] at hv;obtain⟨_,_,rfl,rfl,rfl⟩:=hv;refine(Tryz.strings_Fields ⟨⟨s⟩⟩ w hs ha (Ge3 (show Tryz.prog.globalNamed "strings.asciiSpace" =some 1 by kernel_rfl) hg hG)).mono fun e w' ⟨he,hw⟩=> ?_;subst he;subst hw;have hq:RowKit.Below w.heap.size w (w.alloc (.cells ((Lib.fields s).map fun l=>Value.string ⟨l.toArray⟩).toArray 9)):=RowKit.Below.alloc (RowKit.Below.refl _ _) (Nat.le_refl _) _;obtain⟨k1,y⟩:=(Quiet.below hq).ext h;refine⟨_,H,⟨rfl,rfl⟩, .ret _ _ ?_,k1,y⟩;simp only[Ae7,Rel];refine⟨_,_,by rfl,Nat.le_refl _, .inr ⟨w.heap.size,0,(Lib.fields s).map fun l=>Value.string ⟨l.toArray⟩,rfl, .inr ⟨?_,fun i x hx=> ?_⟩, ?_⟩⟩
 ·cases e:H w.heap.size with
  | none=>rfl
  | some o=>exact absurd (h.lt (r:=w.heap.size) (by simp [e])) (by omega)
 ·rw[Nat.zero_add,World.cell?,World.alloc_heap_new];simpa using hx
 ·refine Az.mk (by simp) fun i d x h1 h2=> ?_;simp only[List.getElem?_map,Option.map_eq_some_iff] at h1 h2;obtain⟨D,C,rfl⟩:=h1;obtain⟨E,q2,rfl⟩:=h2;rw[C] at q2;cases q2;simp [Rel]
end
structure GX (G:Nat->DVal):Prop where
 space:G 1= .vptr (Lib.asciiSpaceTab.map fun z=> .int .u8 z) 0
theorem Gp6: ∀n:Fin 256,IntKind.u8.wrap (((BitVec.ofInt 8 ((n.1:Nat):Int) ||| BitVec.ofInt 8 32).toNat:Nat):Int)=((n.1 ||| 32:Nat):Int):=by decide+kernel
section
variable {G:Nat->DVal} {H:Ac}
theorem Az2 (G:Nat->DVal) (H:Ac) (b:UInt8):Af Tryz.prog G 252 [.int .u8 b.toNat] H (Au (.bool (Dj b)) H):=by
 have h:=Gp6 ⟨b.toNat,b.toNat_lt⟩;have hl:=De1 ⟨b.toNat,b.toNat_lt⟩;dsimp only at h hl;rw[UInt8.ofNat_toNat] at hl;rw[hl];clear hl;generalize b.toNat ||| 32=m at h⊢
 refine Ab Tryz.func252 Tryz.call252 rfl (by kernel_rfl) ?_;simp(disch:=omega)only[go_sem];generalize hm:IntKind.u8.wrap _=z;have hz:z=(m:Int):=hm.symm.trans h;subst hz;by_cases h1:97<=m
 ·have y:(97:Int)<=(m:Int):=by omega
  simp(disch:=omega)only[go_sem,y];generalize C:IntKind.u8.wrap _=z;have hz:z=(m:Int):=C.symm.trans h;subst hz;refine Es.refl ⟨?_,rfl⟩;rw[decide_eq_decide.2 (show(m:Int)<=122↔m<=122 by omega)]
 ·have y: ¬(97:Int)<=(m:Int):=by omega
  simp(disch:=omega)only[go_sem,y];exact Es.refl ⟨rfl,rfl⟩
theorem De2 (G:Nat->DVal) (H:Ac) (b:UInt8):Af Tryz.prog G 295 [.int .u8 b.toNat] H (Au (.bool (Eh b)) H):=by
 refine Ab Tryz.func295 Tryz.call295 rfl (by kernel_rfl) ?_;by_cases h1:48<=b.toNat
 ·have h:(48:Int)<=(b.toNat:Int):=by omega
  simp(disch:=omega)only[go_sem,h];refine Es.refl ⟨?_,rfl⟩;rw[Eh,decide_eq_decide.2 (show(b.toNat:Int)<=57↔b.toNat<=57 by omega),decide_eq_true h1,jS]
 ·have h: ¬(48:Int)<=(b.toNat:Int):=by omega
  simp(disch:=omega)only[go_sem,h];refine Es.refl ⟨?_,rfl⟩;rw[Eh,decide_eq_false h1];rfl
theorem De3 (G:Nat->DVal) (H:Ac) (s:List UInt8):Af Tryz.prog G 320 [.str s] H (Au (.bool false) H):=by
 refine Ab Tryz.func320 Tryz.call320 rfl (by kernel_rfl) ?_;simp(disch:=omega)only[go_sem];exact Es.refl ⟨rfl,rfl⟩
theorem Cp5 (G:Nat->DVal) (H:Ac) (s:List UInt8):Af Tryz.prog G 306 [.str s] H (Au (.bool false) H):=by
 refine Ab Tryz.func306 Tryz.call306 rfl (by kernel_rfl) ?_;simp(disch:=omega)only[go_sem];exact Es.refl ⟨rfl,rfl⟩
theorem Eb7 (G:Nat->DVal) (H:Ac) (s t:List UInt8):Af Tryz.prog G 305 [.str s, .str t] H (Au (.bool (Go.Op.bytesLess s t)) H):=by
 refine Ab Tryz.func305 Tryz.call305 rfl (by kernel_rfl) ?_;simp(disch:=omega)only[go_sem];refine(De3 G _ s).mono ?_;rintro _ H ⟨rfl,rfl⟩;simp(disch:=omega)only[go_sem];exact Es.refl ⟨rfl,rfl⟩
theorem Cp6 (G:Nat->DVal) (H:Ac) (l:List (List UInt8)) (s:List UInt8) (hl:l.Pairwise fun a b=>Go.Op.bytesLess a b=true) (O:l.length<=1000000):
  Af Tryz.prog G 272 [Ae7 l, .str s] H (fun e H'=>(∃i:Nat,e= .ret (.tuple [dI i, .bool (decide (s∈l))]))/\H'=H):=by
 refine Ab Tryz.func272 Tryz.call272 rfl (by kernel_rfl) ?_;simp(disch:=omega)only[go_sem,Ae7];obtain⟨I,L⟩: ∃I:Nat×Nat->(Nat->DVal)->Ac->Prop,∀p env heap,I p env heap↔(env 0= .vslice (l.map .str) l.length/\env 1= .str s/\env 6=dI l.length/\env 7=dI p.1/\env 8=dI p.2/\halfAt l s p.1 p.2/\heap=H):=⟨_,fun _ _ _=>Iff.rfl⟩;refine Dn5.run I (fun p=>p.2-p.1) (0,l.length) ((L _ _ _).2 ?_) ?_
 ·simp(disch:=omega)only[go_sem];(repeat' apply And.intro)<;>(try first | rfl | assumption | omega);exact De0 l s
 ·rintro⟨i,j⟩ env heap hi;obtain⟨C,e1,D,h,y,hh,rfl⟩:=(L _ _ _).1 hi;dsimp only at h y hh;have S:=hh.le;have U:=hh.len;by_cases M:i<j
  ·have hm:(i+j)/2<l.length:=by omega
   have w1:IntKind.u64.wrap ((i:Int)+(j:Int))=((i+j:Nat):Int):=by rw[IntKind.wrap_u64];omega
   have w2:(((i+j:Nat)):Int).fdiv (2^min 1 64)=(((i+j)/2:Nat):Int):=by rw[show(2:Int)^min 1 64=2 from rfl,Int.fdiv_eq_ediv_of_nonneg _ (by omega)];omega
   have w3:IntKind.i64.wrap ((((i+j)/2:Nat)):Int)=(((i+j)/2:Nat):Int):=by rw[IntKind.wrap_i64];omega
   have hg:(l.map DVal.str)[(i+j)/2]? =some (.str l[(i+j)/2]):=by rw[List.getElem?_map,List.getElem?_eq_getElem hm];rfl
   simp(disch:=omega)only[go_sem,C,e1,D,h,y,M,w1,w2,w3,hg,hm];refine(Eb7 G _ l[(i+j)/2] s).mono ?_;rintro _ H1 ⟨rfl,rfl⟩;cases hb:Go.Op.bytesLess l[(i+j)/2] s with
   | true=>
    simp(disch:=omega)only[go_sem,C,e1,D,h,y];refine⟨((i+j)/2+1,j),_,Ri.refl _,(L _ _ _).2 ?_,by dsimp only;omega⟩;simp(disch:=omega)only[go_sem,C,e1,D,h,y];(repeat' apply And.intro)<;>(try first | rfl | assumption | omega);exact Fo3 hl hh (by omega) (List.getElem?_eq_getElem hm) hb
   | false=>
    simp(disch:=omega)only[go_sem,C,e1,D,h,y];refine⟨(i,(i+j)/2),_,Ri.refl _,(L _ _ _).2 ?_,by dsimp only;omega⟩;simp(disch:=omega)only[go_sem,C,e1,D,h,y];(repeat' apply And.intro)<;>(try first | rfl | assumption | omega);exact Eb4 hl hh (by omega) (by omega) (List.getElem?_eq_getElem hm) hb
  ·have:i=j:=by omega
   subst this;have E:=Et9 hh;by_cases hi:i<l.length
   ·have J:(i:Int)<(l.length:Int):=by omega
    have hg:(l.map DVal.str)[i]? =some (.str l[i]):=by rw[List.getElem?_map,List.getElem?_eq_getElem hi];rfl
    rw[List.getElem?_eq_getElem hi] at E;by_cases hw:l[i]=s
    ·simp(disch:=omega)only[go_sem,C,e1,D,h,y,J,hi,hg,hw];refine Es.refl ⟨⟨i, ?_⟩,rfl⟩;rw[E,hw];simp
    ·simp(disch:=omega)only[go_sem,C,e1,D,h,y,J,hi,hg,hw];refine(Cp5 G _ l[i]).mono ?_;rintro _ H1 ⟨rfl,rfl⟩;simp(disch:=omega)only[go_sem,C,e1,D,h,y,J,hi,hg,hw];refine Es.refl ⟨⟨i, ?_⟩,rfl⟩;rw[E];simp [hw]
   ·have J: ¬(i:Int)<(l.length:Int):=by omega
    rw[List.getElem?_eq_none (by omega)] at E;simp(disch:=omega)only[go_sem,C,e1,D,h,y,J];refine Es.refl ⟨⟨i, ?_⟩,rfl⟩;rw[E];simp
theorem Cp7 {s:List UInt8} {k:Nat} {c:UInt8} (h:s[k]? =some c) (y:c.toNat<128):Ss s k=(c.toNat,1):=by
 obtain⟨hk,rfl⟩:=List.getElem?_eq_some_iff.1 h;exact Go.decode_ascii ⟨⟨s⟩⟩ k hk y
theorem Eb8 {s:List UInt8} {k:Nat} {c:UInt8} (h:s[k]? =some c) (y:128<=c.toNat):128<=(Ss s k).1:=by
 obtain⟨hk,rfl⟩:=List.getElem?_eq_some_iff.1 h;exact(Go.decode_high ⟨⟨s⟩⟩ k hk y).1
theorem Eb9 {c:UInt8} (h:126<c.toNat):Ea c=false:=by
 cases hw:Ea c with
 | false=>rfl
 | true=>have:=(Bw4 hw).2;omega
set_option maxHeartbeats 1000000 in
theorem Ec0 (G:Nat->DVal) (H:Ac) (s:List UInt8) (hs:s.length<=1000000000):Af Tryz.prog G 253 [.str s] H (Au (.str (Et s)) H):=by
 refine Ab Tryz.func253 Tryz.call253 rfl (by kernel_rfl) ?_;simp(disch:=omega)only[go_sem];intro r hr;obtain⟨I,M⟩: ∃I:Nat->(Nat->DVal)->Ac->Prop,∀k env heap,I k env heap↔(env 0= .str s/\env 6= .optr r 0/\(s.take k).all Ea=true/\k<=s.length/\heap=upd H r (some (.iter s k))):=⟨_,fun _ _ _=>Iff.rfl⟩;refine Dn5.run I (fun k=>s.length-k) 0 ((M _ _ _).2 ?_) ?_
 ·simp(disch:=omega)only[go_sem]
 ·intro k env heap hi;obtain⟨y,C,hw,hk,rfl⟩:=(M _ _ _).1 hi;by_cases D:k<s.length
  ·have hg:s[k]? =some s[k]:=List.getElem?_eq_getElem D;have V:Ea s[k]=false->Et s=s.take k:=fun h=>Dp0 hw hg h;have S:Ea s[k]=true->(s.take (k+1)).all Ea=true:=fun h=>by
    rw[List.take_add_one,hg,List.all_append,hw];simpa using h
   have W:(k:Int)<=(s.length:Int):=by omega
   by_cases Y:s[k].toNat<=126
   ·have E:=Cp7 hg (by omega);have J: ¬(126:Int)<(s[k].toNat:Int):=by omega
    have L:IntKind.u8.wrap (s[k].toNat:Int)=(s[k].toNat:Int):=by rw[IntKind.wrap_u8];have:=s[k].toNat_lt;omega
    simp(disch:=omega)only[go_sem,y,C,D,E,J,L];refine(Az2 G _ s[k]).mono ?_;rintro _ H1 ⟨rfl,rfl⟩;cases hle:Dj s[k] with
    | true=>
     simp(disch:=omega)only[go_sem,y,C,D,E,J,L];refine⟨k+1,_,Ri.refl _,(M _ _ _).2 ?_,by omega⟩;simp(disch:=omega)only[go_sem,y,C];(repeat' apply And.intro)<;>(try first | rfl | assumption | omega);exact S (Up hle)
    | false=>
     simp(disch:=omega)only[go_sem,y,C,D,E,J,L];refine(De2 G _ s[k]).mono ?_;rintro _ H1 ⟨rfl,rfl⟩;cases hdi:Eh s[k] with
     | true=>
      simp(disch:=omega)only[go_sem,y,C,D,E,J,L];refine⟨k+1,_,Ri.refl _,(M _ _ _).2 ?_,by omega⟩;simp(disch:=omega)only[go_sem,y,C];(repeat' apply And.intro)<;>(try first | rfl | assumption | omega);exact S (Wz hdi)
     | false=>
      by_cases O:s[k]=95
      ·have U:(s[k].toNat:Int)=95:=by rw[O];rfl
       simp(disch:=omega)only[go_sem,y,C,D,E,J,L,U];refine⟨k+1,_,Ri.refl _,(M _ _ _).2 ?_,by omega⟩;simp(disch:=omega)only[go_sem,y,C];(repeat' apply And.intro)<;>(try first | rfl | assumption | omega);exact S (by rw[O];rfl)
      ·have U: ¬(s[k].toNat:Int)=95:=Td (d:=95) O;simp(disch:=omega)only[go_sem,y,C,D,E,J,L,U,W];refine Es.dropA r hr (Es.refl ⟨?_,rfl⟩);rw[V (by simp [Ea,hle,hdi,O])];simp
   ·have hlo:126<((Ss s k).1:Int):=by
     by_cases X:s[k].toNat<128
     ·rw[Cp7 hg X];dsimp only;omega
     ·have:=Eb8 hg (by omega);omega
    simp(disch:=omega)only[go_sem,y,C,D,hlo,W];refine Es.dropA r hr (Es.refl ⟨?_,rfl⟩);rw[V (Eb9 (by omega))];simp
  ·have:k=s.length:=by omega
   subst this;simp(disch:=omega)only[go_sem,y,C,D];refine Es.dropA r hr (Es.refl ⟨?_,rfl⟩);rw[List.take_length] at hw;rw[Gl2.2 hw]
end
section
variable {G:Nat->DVal} {H:Ac}
def Bd9:List UInt8:= [97,98,111,114,116,32,97,98,115,32,97,99,99,101,112,116,32,97,99,99,101,115,115,32,97,108,105,97,115,101,100,32,97,108,108,32,97,110,100,32,97,114,114,97,121,32,98,101,103,105,110,32,98,111,100,121,32,99,97,115,101,32,99,111,110,115,116,97,110,116,32,100,101,99,108,97,114,101,32,100,101,108,97,121,32,100,111,32,101,108,115,101,32,101,108,115,105,102,32,101,110,100,32,101,110,116,114,121,32,101,120,99,101,112,116,105,111,110,32,101,120,105,116,32,102,111,114,32,102,117,110,99,116,105,111,110,32,103,101,110,101,114,105,99,32,105,102,32,105,110,32,105,115,32,108,105,109,105,116,101,100,32,108,111,111,112,32,109,111,100,32,110,101,119,32,110,111,116,32,110,117,108,108,32,111,102,32,111,114,32,111,116,104,101,114,115,32,111,117,116,32,112,97,99,107,97,103,101,32,112,114,97,103,109,97,32,112,114,105,118,97,116,101,32,112,114,111,99,101,100,117,114,101,32,112,114,111,116,101,99,116,101,100,32,114,97,105,115,101,32,114,97,110,103,101,32,114,101,99,111,114,100,32,114,101,109,32,114,101,110,97,109,101,115,32,114,101,113,117,101,117,101,32,114,101,116,117,114,110,32,114,101,118,101,114,115,101,32,115,101,108,101,99,116,32,115,101,112,97,114,97,116,101,32,115,117,98,116,121,112,101,32,116,97,115,107,32,116,101,114,109,105,110,97,116,101,32,116,104,101,110,32,116,121,112,101,32,117,110,116,105,108,32,117,115,101,32,119,104,101,110,32,119,104,105,108,101,32,119,105,116,104,32,120,111,114]
theorem Cp8: ∀b∈Bd9,b.toNat<128:=by decide+kernel
theorem De4:Lib.fields Bd9=Ay8:=by kernel_rfl
theorem Ec1 (hG:GX G) (H:Ac):Af Tryz.prog G 273 [] H (Au (Ae7 Ay8) H):=by
 refine Ab Tryz.func273 Tryz.call273 rfl (by kernel_rfl) ?_;simp(disch:=omega)only[go_sem];show Af _ _ _ [.str Bd9] _ _;refine(Eb6 hG.space Bd9 (by decide+kernel) (fun j b h=>Cp8 b (List.mem_of_getElem? h))).mono ?_;rintro _ H1 ⟨rfl,rfl⟩;rw[De4];simp(disch:=omega)only[go_sem];exact Es.refl ⟨rfl,rfl⟩
theorem Vt (hG:GX G) (H:Ac) (s:List UInt8):Af Tryz.prog G 203 [.str s] H (Au (.bool (Tw s)) H):=by
 refine Ab Tryz.func203 Tryz.call203 rfl (by kernel_rfl) ?_;simp(disch:=omega)only[go_sem];refine(Ec1 hG _).mono ?_;rintro _ H1 ⟨rfl,rfl⟩;simp(disch:=omega)only[go_sem];refine(Cp6 G _ Ay8 s Cp3 (by decide)).mono ?_;rintro _ H2 ⟨⟨i,rfl⟩,rfl⟩;simp(disch:=omega)only[go_sem];exact Es.refl ⟨rfl,rfl⟩
theorem Xb (hG:GX G) (H:Ac) (s:List UInt8) (hs:s.length<=9223372036854775807):Af Tryz.prog G 178 [.str s] H (Au (.bool (Lo s)) H):=by
 refine Ab Tryz.func178 Tryz.call178 rfl (by kernel_rfl) ?_
 match s with
 | []=>
  simp(disch:=omega)only[go_sem]
  exact Es.refl ⟨rfl,rfl⟩
 | c::r=>
  have C: ¬(c::r= []):=by simp
  have h0:(c::r)[0]? =some c:=rfl
  rw[Fo6]
  by_cases hl:(c::r).length<=32
  ·have y:((c::r).length:Int)<=32:=by omega
   simp(disch:=omega)only[go_sem,C,y,h0]
   refine(Az2 G _ c).mono ?_
   rintro _ H1 ⟨rfl,rfl⟩
   cases hle:Dj c with
   | false=>
    simp(disch:=omega)only[go_sem,C,y,h0]
    exact Es.refl ⟨by simp,rfl⟩
   | true=>
    simp(disch:=omega)only[go_sem,C,y,h0]
    refine(Ec0 G _ (c::r) (by omega)).mono ?_
    rintro _ H1 ⟨rfl,rfl⟩
    by_cases hw:Et (c::r)=c::r
    ·simp(disch:=omega)only[go_sem,C,y,h0,hw]
     refine(Vt hG _ (c::r)).mono ?_
     rintro _ H1 ⟨rfl,rfl⟩
     simp(disch:=omega)only[go_sem,C,y,h0,hw]
     exact Es.refl ⟨by first | rfl | (rw[jA] at hl;simp [hw];intro _;omega),rfl⟩
    ·simp(disch:=omega)only[go_sem,C,y,h0,hw]
     exact Es.refl ⟨by first | rfl | simp [hw],rfl⟩
  ·have y: ¬((c::r).length:Int)<=32:=by omega
   simp(disch:=omega)only[go_sem,C,y,h0]
   exact Es.refl ⟨by first | rfl | (rw[jA] at hl;simp;intro h;omega),rfl⟩
theorem Bw6 (a:UInt8) (r:List UInt8) (h: ∀b r',r=b::r'->(a,b)∉Rr):Nq (a::r)=if a∈Ae8 then 1 else 0:=by
 match r with
 | []=>rfl
 | b::r'=>simp only[Nq,if_neg (h b r' rfl)]
end
def Cy (t:Tok):List DVal:= [.int .u8 t.kind,dI t.line, .str t.text,dI t.n]
theorem Aq (t:Tok):(Cy t).length=4:=rfl
theorem Cv (t:Tok):(Cy t).take 4=Cy t:=rfl
theorem Nl (t:Tok):(Cy t).drop 4= []:=rfl
theorem Jj (t:Tok):(Cy t).all (fun d=>d.one)=true:=rfl
theorem Ou (t:Tok):(Cy t)[0]? =some (.int .u8 t.kind):=rfl
theorem Vd (t:Tok):(Cy t)[1]? =some (dI t.line):=rfl
theorem Ov (t:Tok):(Cy t)[2]? =some (.str t.text):=rfl
theorem Rk (t:Tok):(Cy t)[3]? =some (dI t.n):=rfl
section
variable {G:Nat->DVal} {H:Ac}
theorem Tf (c:UInt8) (r:List UInt8):Ei (c::r)=if Dj c then(if Tw (Et (c::r)) then(⟨2,0,Et (c::r),0⟩,(Et (c::r)).length) else if Lo (Et (c::r)) then(⟨1,0,Et (c::r),0⟩,(Et (c::r)).length) else(Am3,0))
  else if Eh c then(match Bc4 (Et (c::r)) with | some v=>(⟨3,0,[],v⟩,(Et (c::r)).length) | none=>(Am3,0)) else(⟨4,0,(c::r).take (Nq (c::r)),0⟩,Nq (c::r)):=rfl
def Bj1 (p:Tok×Nat):DVal:= .tuple [.agg (Cy p.1),dI p.2]
end
def Bh (l:List Tok):DVal:= .vslice (l.flatMap Cy) l.length
section
end
def Dp1 (a b:Tok):Bool:=decide ({ a with line:=b.line }=b)
def Yc:List Tok->List Tok->Bool
 | [],[]=>true
 | a::l,b::m=>Dp1 a b&&Yc l m
 | _,_=>false
section
variable {G:Nat->DVal} {H:Ac}
theorem Bw7: ∀(l m:List Tok),Yc l m=true->l.length=m.length
 | [],[],_=>rfl
 | [],_::_,h=>by cases h
 | _::_,[],h=>by cases h
 | a::l,b::m,h=>by
  rw[Yc,jF] at h;rw[jA,jA,Bw7 l m h.2]
theorem De5: ∀ {l m:List Tok} {k:Nat} (h1:k<l.length) (h2:k<m.length),Yc (l.drop k) (m.drop k)=(Dp1 l[k] m[k]&&Yc (l.drop (k+1)) (m.drop (k+1))):=fun h1 h2=>by
 rw[List.drop_eq_getElem_cons h1,List.drop_eq_getElem_cons h2,Yc]
end
theorem Ln.sub1' {H H':Ac} {v C:DVal} (h:Ln H v H' C) {pre post:List DVal} (hp:Am2.looses pre=true) (D:Am2.looses post=true) (w:World) (hw:Bj w H): ∀xs,Az w H (pre++v::post) xs->Az w H' (pre++C::post) xs:=by
 intro xs hx;have e:xs=xs.take pre.length++xs.drop pre.length:=(List.take_append_drop _ _).symm;have h1:=hx.take pre.length;have h2:=hx.drop pre.length;rw[List.take_left] at h1;rw[List.drop_left] at h2;rw[e];refine(Pw _ _ hp h1).append ?_;simp only[Az] at h2⊢
 obtain⟨y,ys,h3,h4,h5⟩:=h2;rw[h3];exact⟨y,ys,rfl,(h w hw).2.2 y h4,Pw _ _ D h5⟩
theorem Ln.tuple1' {H H':Ac} {v y:DVal} (h:Ln H v H' y) {pre post:List DVal} (hp:Am2.looses pre=true) (C:Am2.looses post=true):Ln H (.tuple (pre++v::post)) H' (.tuple (pre++y::post)):=fun w hw=>
 ⟨(h w hw).1,(h w hw).2.1,fun x hx=>by
  simp only[Rel] at hx⊢
  obtain⟨xs,rfl,hl⟩:=hx;exact⟨xs,rfl,h.sub1' hp C w hw _ hl⟩⟩
theorem Jf.dLen {H H':Ac} {e t:TypeId} {size n:Nat} {cs:List DVal} {v:DVal} (h:Jf H e size n cs v H') {dst:Option Nat} {K:DK} {s:DS}:Dl.dLen dst (some (.slice t)) v K s=Bs dst (dI n) K s:=by
 rcases h with⟨rfl,_,rfl,_⟩ | ⟨r,_,_,rfl,_,_⟩
 ·rfl
 ·rfl
section
variable {G:Nat->DVal} {H:Ac}
theorem Mi {H':Ac} (h:Sub H H') (y:List DVal) (C:Am2.looses y=true):Ln H' (.tuple (.nilSlice::y)) H (.tuple (Bh []::y)):=
 (Ln.sub h _).trans (Ln.tuple1' (pre:= []) (Jf.nil 31 4 (Sub.refl H)).ghost rfl C)
end
section
variable {G:Nat->DVal} {H:Ac}
theorem Xc (G:Nat->DVal) (H:Ac) (b:UInt8):Af Tryz.prog G 231 [.int .u8 b.toNat] H (Au (.bool (Dj b)) H):=by
 refine Ab Tryz.func231 Tryz.call231 rfl (by kernel_rfl) ?_;have hd:Dj b=(decide ((65:Int)<=b.toNat)&&decide ((b.toNat:Int)<=90) || decide ((97:Int)<=b.toNat)&&decide ((b.toNat:Int)<=122)):=by
  rw[Dj,decide_eq_decide.2 (show 65<=b.toNat↔(65:Int)<=b.toNat by omega),decide_eq_decide.2 (show b.toNat<=90↔(b.toNat:Int)<=90 by omega),decide_eq_decide.2 (show 97<=b.toNat↔(97:Int)<=b.toNat by omega),decide_eq_decide.2 (show b.toNat<=122↔(b.toNat:Int)<=122 by omega)]
 rw[hd];generalize (b.toNat:Int)=n;by_cases h1:65<=n
 ·by_cases h2:n<=90
  ·simp(disch:=omega)only[go_sem,h1,h2];exact Es.refl ⟨by simp,rfl⟩
  ·by_cases h3:97<=n
   ·simp(disch:=omega)only[go_sem,h1,h2,h3];exact Es.refl ⟨by simp,rfl⟩
   ·simp(disch:=omega)only[go_sem,h1,h2,h3];exact Es.refl ⟨by simp,rfl⟩
 ·have h3: ¬97<=n:=by omega
  simp(disch:=omega)only[go_sem,h1,h3];exact Es.refl ⟨by simp,rfl⟩
theorem Zq (G:Nat->DVal) (H:Ac) (b:UInt8):Af Tryz.prog G 245 [.int .u8 b.toNat] H (Au (.bool (Eh b)) H):=by
 refine Ab Tryz.func245 Tryz.call245 rfl (by kernel_rfl) ?_;by_cases h1:48<=b.toNat
 ·have h:(48:Int)<=(b.toNat:Int):=by omega
  simp(disch:=omega)only[go_sem,h];refine Es.refl ⟨?_,rfl⟩;rw[Eh,decide_eq_decide.2 (show(b.toNat:Int)<=57↔b.toNat<=57 by omega),decide_eq_true h1,jS]
 ·have h: ¬(48:Int)<=(b.toNat:Int):=by omega
  simp(disch:=omega)only[go_sem,h];refine Es.refl ⟨?_,rfl⟩;rw[Eh,decide_eq_false h1];rfl
theorem Bj2 (G:Nat->DVal) (H:Ac) (b:UInt8):Af Tryz.prog G 233 [.int .u8 b.toNat] H (Au (.bool (Ea b)) H):=by
 refine Ab Tryz.func233 Tryz.call233 rfl (by kernel_rfl) ?_;simp(disch:=omega)only[go_sem];refine(Xc G _ b).mono ?_;rintro _ H1 ⟨rfl,rfl⟩;cases hl:Dj b with
 | true=>
  simp(disch:=omega)only[go_sem];exact Es.refl ⟨by rw[Ea,hl];rfl,rfl⟩
 | false=>
  simp(disch:=omega)only[go_sem];refine(Zq G _ b).mono ?_;rintro _ H1 ⟨rfl,rfl⟩;cases hd:Eh b with
  | true=>
   simp(disch:=omega)only[go_sem];exact Es.refl ⟨by rw[Ea,hl,hd];rfl,rfl⟩
  | false=>
   by_cases h:b=95
   ·subst h;simp(disch:=omega)only[go_sem];exact Es.refl ⟨rfl,rfl⟩
   ·have y: ¬(b.toNat:Int)=95:=Td (d:=95) h;simp(disch:=omega)only[go_sem,y];exact Es.refl ⟨by rw[Ea,hl,hd,decide_eq_false h];rfl,rfl⟩
theorem Dp2 (G:Nat->DVal) (H:Ac) (l:List (List UInt8)) (s:List UInt8) (hl:l.length<=1000000):Af Tryz.prog G 288 [Ae7 l, .str s] H (Au (.bool (decide (s∈l))) H):=by
 refine Ab Tryz.func288 Tryz.call288 rfl (by kernel_rfl) ?_;simp(disch:=omega)only[go_sem,Ae7];obtain⟨I,E⟩: ∃I:Nat->(Nat->DVal)->Ac->Prop,∀k env heap,I k env heap↔(env 0= .vslice (l.map .str) l.length/\env 1= .str s/\env 5=dI k/\k<=l.length/\(∀x∈l.take k,x≠s)/\heap=H):=⟨_,fun _ _ _=>Iff.rfl⟩;refine Dn5.run I (fun k=>l.length-k) 0 ((E _ _ _).2 ?_) ?_
 ·simp(disch:=omega)only[go_sem];(repeat' apply And.intro)<;>(try first | rfl | assumption | omega);intro x hx;simp at hx
 ·intro k env heap hi;obtain⟨C,e1,D,hk,hn,rfl⟩:=(E _ _ _).1 hi;by_cases y:k<l.length
  ·have J:(k:Int)<(l.length:Int):=by omega
   have hg:(l.map DVal.str)[k]? =some (.str l[k]):=by rw[List.getElem?_map,List.getElem?_eq_getElem y];rfl
   by_cases hw:l[k]=s
   ·simp(disch:=omega)only[go_sem,C,e1,D,J,y,hg,hw,jD];exact Es.refl ⟨by rw[decide_eq_true (by rw[<-hw];exact List.getElem_mem y)],rfl⟩
   ·have L:IntKind.i64.wrap ((k:Int)+1)=((k+1:Nat):Int):=by rw[IntKind.wrap_i64];omega
    simp(disch:=omega)only[go_sem,C,e1,D,J,y,hg,hw,jD];refine⟨k+1,_,Ri.refl _,(E _ _ _).2 ?_,by omega⟩;simp(disch:=omega)only[go_sem,C,e1,D,L];(repeat' apply And.intro)<;>(try first | rfl | assumption | omega);exact Mh (p:=fun x=>x≠s) y hn hw
  ·have:k=l.length:=by omega
   subst this;simp(disch:=omega)only[go_sem,C,e1,D];rw[List.take_length] at hn;exact Es.refl ⟨by rw[decide_eq_false (fun h=>hn s h rfl)],rfl⟩
def Vu:List (List UInt8):= [[61,62],[46,46],[58,61],[47,61],[60,61],[62,61],[60,62],[40],[41],[44],[59],[58],[46],[39],[43],[45],[42],[47],[61],[60],[62],[124]]
theorem Eu3 (s:List UInt8):Co7 s=decide (s∈Vu):=by
 cases h:Co7 s with
 | true=>
  refine(decide_eq_true ?_).symm;have h2: ∀p∈Rr,[p.1,p.2]∈Vu:=by decide+kernel
  have h1: ∀a∈Ae8,[a]∈Vu:=by decide+kernel
  rcases At5 h with⟨a,rfl,ha⟩ | ⟨a,b,rfl,y⟩
  ·exact h1 a ha
  ·exact h2 _ y
 | false=>
  refine(decide_eq_false fun hm=> ?_).symm;have h3: ∀w∈Vu,Co7 w=true:=by decide+kernel
  rw[h3 s hm] at h;cases h
theorem De6 (G:Nat->DVal) (H:Ac):Af Tryz.prog G 289 [] H (Au (Ae7 Ay8) H):=by
 refine Ab Tryz.func289 Tryz.call289 rfl (by kernel_rfl) ?_;simp(disch:=omega)only[go_sem];change Cx9 _ _ _ _ (some (Ay8.map .str)) _ _;simp(disch:=omega)only[go_sem];intro r hr;dsimp only at hr;simp(disch:=omega)only[go_sem];refine Es.fzA r hr ?_;simp only[fz,if_pos,jJ];refine Es.refl ⟨?_,rfl⟩;rfl
theorem Bj3 (G:Nat->DVal) (H:Ac):Af Tryz.prog G 293 [] H (Au (Ae7 Vu) H):=by
 refine Ab Tryz.func293 Tryz.call293 rfl (by kernel_rfl) ?_;simp(disch:=omega)only[go_sem];change Cx9 _ _ _ _ (some (Vu.map .str)) _ _;simp(disch:=omega)only[go_sem];intro r hr;dsimp only at hr;simp(disch:=omega)only[go_sem];refine Es.fzA r hr ?_;simp only[fz,if_pos,jJ];refine Es.refl ⟨?_,rfl⟩;rfl
theorem At9 (G:Nat->DVal) (H:Ac) (s:List UInt8):Af Tryz.prog G 232 [.str s] H (Au (.bool (Tw s)) H):=by
 refine Ab Tryz.func232 Tryz.call232 rfl (by kernel_rfl) ?_;simp(disch:=omega)only[go_sem];refine(De6 G _).mono ?_;rintro _ H1 ⟨rfl,rfl⟩;simp(disch:=omega)only[go_sem];refine(Dp2 G _ Ay8 s (by decide)).mono ?_;rintro _ H1 ⟨rfl,rfl⟩;simp(disch:=omega)only[go_sem];exact Es.refl ⟨rfl,rfl⟩
end
section
variable {G:Nat->DVal} {H:Ac}
theorem Bj4 (G:Nat->DVal) (H:Ac) (s:List UInt8):Af Tryz.prog G 144 [.str s] H (Au (.bool (Lo s)) H):=by
 refine Ab Tryz.func144 Tryz.call144 rfl (by kernel_rfl) ?_
 match s with
 | []=>
  simp(disch:=omega)only[go_sem,jB]
  exact Es.refl ⟨rfl,rfl⟩
 | c::r=>
  obtain⟨s,hs⟩: ∃s,s=c::r:=⟨_,rfl⟩
  have h0:s[0]? =some c:=by rw[hs];rfl
  have O:0<s.length:=by rw[hs];simp
  have J:Lo s=(Dj c&&decide (s.length<=32)&&s.all Ea&&!Tw s):=by rw[hs];rfl
  rw[<-hs,J]
  have h1: ¬(s.length:Int)<1:=by omega
  by_cases hl:s.length<=32
  ·have C: ¬(32:Int)<(s.length:Int):=by omega
   simp(disch:=omega)only[go_sem,h1,C,h0]
   refine(Xc G _ c).mono ?_
   rintro _ H1 ⟨rfl,rfl⟩
   cases hle:Dj c with
   | false=>
    simp(disch:=omega)only[go_sem]
    exact Es.refl ⟨rfl,rfl⟩
   | true=>
    simp(disch:=omega)only[go_sem]
    refine(At9 G _ s).mono ?_
    rintro _ H1 ⟨rfl,rfl⟩
    cases hk:Tw s with
    | true=>
     simp(disch:=omega)only[go_sem]
     exact Es.refl ⟨by simp,rfl⟩
    | false=>
     simp(disch:=omega)only[go_sem]
     obtain⟨I,D⟩: ∃I:Nat->(Nat->DVal)->Ac->Prop,∀k env heap,I k env heap↔(env 0= .str s/\env 3=dI k/\k<=s.length/\(s.take k).all Ea=true/\heap=H1):=⟨_,fun _ _ _=>Iff.rfl⟩
     refine Dn5.run I (fun k=>s.length-k) 0 ((D _ _ _).2 ?_) ?_
     ·simp(disch:=omega)only[go_sem]
      (repeat' apply And.intro)<;>(try first | rfl | assumption | omega)
     ·intro k env heap hi
      obtain⟨h,y,S,hw,rfl⟩:=(D _ _ _).1 hi
      by_cases E:k<s.length
      ·have L:(k:Int)<(s.length:Int):=by omega
       have hg:s[k]? =some s[k]:=List.getElem?_eq_getElem E
       have M:IntKind.i64.wrap ((k:Int)+1)=((k+1:Nat):Int):=by rw[IntKind.wrap_i64];omega
       simp(disch:=omega)only[go_sem,h,y,L,hg,jD]
       refine(Bj2 G _ s[k]).mono ?_
       rintro _ H2 ⟨rfl,rfl⟩
       cases hb:Ea s[k] with
       | true=>
        simp(disch:=omega)only[go_sem,h,y]
        refine⟨k+1,_,Ri.refl _,(D _ _ _).2 ?_,by omega⟩
        simp(disch:=omega)only[go_sem,h,y,M]
        (repeat' apply And.intro)<;>(try first | rfl | assumption | omega)
        rw[List.take_add_one,hg,List.all_append,hw];simpa using hb
       | false=>
        simp(disch:=omega)only[go_sem,h,y]
        have:s.all Ea=false:=by
         rw[List.all_eq_false];exact⟨s[k],List.getElem_mem E,by rw[hb];simp⟩
        exact Es.refl ⟨by rw[this],rfl⟩
      ·have:k=s.length:=by omega
       subst this
       simp(disch:=omega)only[go_sem,h,y]
       rw[List.take_length] at hw
       exact Es.refl ⟨by rw[hw],rfl⟩
  ·have C:(32:Int)<(s.length:Int):=by omega
   simp(disch:=omega)only[go_sem,h1,C,h0]
   exact Es.refl ⟨by simp,rfl⟩
end
theorem Eu4 (a b:Tok):Dp1 a b=(decide (a.kind=b.kind)&&(decide (a.text=b.text)&&decide (a.n=b.n))):=by
 rw[Dp1];cases a;cases b;simp only[Tok.mk.injEq,Bool.decide_and,decide_true,jS]
theorem Cp9 {l m:List Tok} (h:l.length≠m.length):Yc l m=false:=by
 cases e:Yc l m with
 | false=>rfl
 | true=>exact absurd (Bw7 l m e) h
section
variable {G:Nat->DVal} {H:Ac}
theorem De7 (G:Nat->DVal) (H:Ac) (l m:List Tok) (hl:l.length<=1000000000):Af Tryz.prog G 82 [Bh l,Bh m] H (Au (.bool (Yc l m)) H):=by
 refine Ab Tryz.func82 Tryz.call82 rfl (by kernel_rfl) ?_;by_cases aa:l.length=m.length
 ·have Y:(l.length:Int)=(m.length:Int):=by omega
  simp(disch:=omega)only[go_sem,Bh,Y];obtain⟨I,Z⟩: ∃I:Nat->(Nat->DVal)->Ac->Prop,∀k env heap,I k env heap↔(env 0= .vslice (l.flatMap Cy) l.length/\env 1= .vslice (m.flatMap Cy) m.length/\env 5=dI k/\k<=l.length/\Yc l m=Yc (l.drop k) (m.drop k)/\heap=H):=⟨_,fun _ _ _=>Iff.rfl⟩;refine Dn5.run I (fun k=>l.length-k) 0 ((Z _ _ _).2 ?_) ?_
  ·simp(disch:=omega)only[go_sem];(repeat' apply And.intro)<;>(try first | rfl | assumption | omega)
  ·intro k env heap hi;obtain⟨y,e1,C,hk,h,rfl⟩:=(Z _ _ _).1 hi;have hfl:=Ax Aq l;have E:=Ax Aq m;by_cases L:k<l.length
   ·have D:(k:Int)<(m.length:Int):=by omega
    have J:(k:Int)<(l.length:Int):=by omega
    have M:k<m.length:=by omega
    have O:(l.flatMap Cy)[k*4]? =some (.int .u8 l[k].kind):=Hw Aq l k L 0 (by omega);have S:(l.flatMap Cy)[k*4+2]? =some (.str l[k].text):=Hw Aq l k L 2 (by omega);have U:(l.flatMap Cy)[k*4+3]? =some (dI l[k].n):=Hw Aq l k L 3 (by omega);have V:(m.flatMap Cy)[k*4]? =some (.int .u8 m[k].kind):=Hw Aq m k M 0 (by omega);have W:(m.flatMap Cy)[k*4+2]? =some (.str m[k].text):=Hw Aq m k M 2 (by omega);have X:(m.flatMap Cy)[k*4+3]? =some (dI m[k].n):=Hw Aq m k M 3 (by omega);have ab:IntKind.i64.wrap ((k:Int)+1)=((k+1:Nat):Int):=by rw[IntKind.wrap_i64];omega
    have hst:=De5 L M;rw[hst,Eu4] at h;simp(disch:=omega)only[go_sem,y,e1,C,D,J,hfl,E,jD];refine Aj (by kernel_rfl) (.take 0 (.take 1 (.take 2 (.take 3 (.take 4 (.take 5 (.take 6 (.take 7 (.take 8 (.take 9 (.take 10 (.take 11 (.take 12 (.take 13 (.take 14 (.take 15 (.take 16 (.take 17 (.take 18 (.take 19 (.take 20 (.take 21 (.take 22 (.take 23 (.take 24 (.take 25 (.take 26 (.take 27 (.take 28 (.take 29 (.take 30 (.take 31 (.take 32 (.take 33 (.take 34 (.take 35 (.take 36 .done))))))))))))))))))))))))))))))))))))) (by kernel_rfl) ?_;by_cases h1:l[k].kind=m[k].kind
    ·by_cases h2:l[k].text=m[k].text
     ·by_cases h3:l[k].n=m[k].n
      ·rw[decide_eq_true h1,decide_eq_true h2,decide_eq_true h3,jS,jS,jS] at h;simp(disch:=omega)only[go_sem,y,e1,C,D,J,hfl,E,jD,O,S,U,V,W,X,h1,h2,h3];refine⟨k+1,_,Ri.refl _,(Z _ _ _).2 ?_,by omega⟩;simp(disch:=omega)only[go_sem,y,e1,C,ab];(repeat' apply And.intro)<;>(try first | rfl | assumption | omega)
      ·rw[decide_eq_false h3,Bool.and_false,Bool.and_false,jT] at h;simp(disch:=omega)only[go_sem,y,e1,C,D,J,hfl,E,jD,O,S,U,V,W,X,h1,h2,h3];exact Es.refl ⟨by rw[h],rfl⟩
     ·rw[decide_eq_false h2,jT,Bool.and_false,jT] at h;simp(disch:=omega)only[go_sem,y,e1,C,D,J,hfl,E,jD,O,S,U,V,W,X,h1,h2];exact Es.refl ⟨by rw[h],rfl⟩
    ·rw[decide_eq_false h1,jT,jT] at h;simp(disch:=omega)only[go_sem,y,e1,C,D,J,hfl,E,jD,O,S,U,V,W,X,h1];exact Es.refl ⟨by rw[h],rfl⟩
   ·have:k=l.length:=by omega
    subst this;have D: ¬(l.length:Int)<(m.length:Int):=by omega
    simp(disch:=omega)only[go_sem,y,e1,C,D];refine Es.refl ⟨?_,rfl⟩;rw[h,List.drop_length,aa,List.drop_length];rfl
 ·have Y: ¬(l.length:Int)=(m.length:Int):=by omega
  simp(disch:=omega)only[go_sem,Bh,Y];exact Es.refl ⟨by rw[Cp9 aa],rfl⟩
end
end Go.Dl
-- Chapter 3: expressions: the plain laws, 
namespace Go.Dl
open Go
set_option maxRecDepth 10000
mutual
inductive Ex where
 | mk (kind oper n:Int) (s:List UInt8) (l:List Ex) (a:List As) (line ent t:Int)
inductive As where
 | mk (c:List Ch) (e:Ex)
inductive Ch where
 | mk (kind:Int) (l:List Ex)
end
def Ex.kind:Ex->Int | .mk k _ _ _ _ _ _ _ _=>k
def Ex.oper:Ex->Int | .mk _ o _ _ _ _ _ _ _=>o
def Ex.n:Ex->Int | .mk _ _ n _ _ _ _ _ _=>n
def Ex.s:Ex->List UInt8 | .mk _ _ _ s _ _ _ _ _=>s
def Ex.l:Ex->List Ex | .mk _ _ _ _ l _ _ _ _=>l
def Ex.a:Ex->List As | .mk _ _ _ _ _ a _ _ _=>a
def Ex.line:Ex->Int | .mk _ _ _ _ _ _ li _ _=>li
def Ex.ent:Ex->Int | .mk _ _ _ _ _ _ _ en _=>en
def Ex.t:Ex->Int | .mk _ _ _ _ _ _ _ _ t=>t
def As.c:As->List Ch | .mk c _=>c
def As.e:As->Ex | .mk _ e=>e
def Ch.kind:Ch->Int | .mk k _=>k
def Ch.l:Ch->List Ex | .mk _ l=>l
def ex0:Ex:= .mk 0 0 0 [] [] [] 0 0 0
instance:Inhabited Ex:=⟨ex0⟩
instance:Inhabited As:=⟨.mk [] ex0⟩
instance:Inhabited Ch:=⟨.mk 0 []⟩
mutual
def Hx:Ex->Nat
 | .mk _ _ _ _ l a _ _ _=>1+Bj5 l+Au0 a
def Bj5:List Ex->Nat
 | []=>0
 | x::l=>Hx x+Bj5 l
def Cq0:As->Nat
 | .mk c e=>Au1 c+Hx e
def Au0:List As->Nat
 | []=>0
 | x::l=>Cq0 x+Au0 l
def Dp3:Ch->Nat
 | .mk _ l=>Bj5 l
def Au1:List Ch->Nat
 | []=>0
 | x::l=>Dp3 x+Au1 l
end
def Fb (x:As):List Ex:=x.c.flatMap Ch.l++ [x.e]
def parts (e:Ex):List Ex:=e.l++e.a.flatMap Fb
def Pg (l:List Ex):Nat:=(l.map Hx).sum
theorem Au2: ∀l:List Ex,Bj5 l=Pg l
 | []=>rfl
 | x::l=>by rw[Bj5,Au2 l,Pg,Pg,jN,List.sum_cons]
theorem Uq (l m:List Ex):Pg (l++m)=Pg l+Pg m:=by simp [Pg]
theorem Bj6: ∀l:List Ch,Au1 l=Pg (l.flatMap Ch.l)
 | []=>rfl
 | .mk k x::l=>by rw[Au1,Dp3,Bj6 l,Au2,List.flatMap_cons,Uq];rfl
theorem Ec2 (x:As):Cq0 x=Pg (Fb x):=by
 cases x;rw[Cq0,Bj6,Fb,Uq];simp [Pg,As.c,As.e]
theorem Bj7: ∀l:List As,Au0 l=Pg (l.flatMap Fb)
 | []=>rfl
 | x::l=>by rw[Au0,Ec2,Bj7 l,List.flatMap_cons,Uq]
theorem Sl (e:Ex):Hx e=1+Pg (parts e):=by
 cases e;rw[Hx,Au2,Bj7,parts,Uq,Nat.add_assoc];rfl
theorem Eu5 {l:List Ex} {x:Ex} (h:x∈l):Hx x<=Pg l:=by
 induction l with
 | nil=>cases h
 | cons y l ih=>
  rw[Pg,jN,List.sum_cons];rcases List.mem_cons.1 h with rfl | h
  ·omega
  ·have:=ih h;unfold Pg at this;omega
theorem Az3 {e x:Ex} (h:x∈parts e):Hx x<Hx e:=by
 rw[Sl e];have:=Eu5 h;omega
theorem Be {e x:Ex} (h:x∈e.l):x∈parts e:=List.mem_append_left _ h
theorem Lq {e x:Ex} {a:As} (ha:a∈e.a) (h:x∈Fb a):x∈parts e:=List.mem_append_right _ (List.mem_flatMap.2 ⟨a,ha,h⟩)
theorem Ow (a:As):a.e∈Fb a:=List.mem_append_right _ (by simp)
theorem Sa {a:As} {c:Ch} {x:Ex} (y:c∈a.c) (h:x∈c.l):x∈Fb a:=List.mem_append_left _ (List.mem_flatMap.2 ⟨c,y,h⟩)
theorem Ex.ind {p:Ex->Prop} (h: ∀e,(∀x∈parts e,p x)->p e) (e:Ex):p e:=by
 have key: ∀n e,Hx e<n->p e:=by
  intro n
  induction n with
  | zero=>intro e he;omega
  | succ n ih=>
   intro e he;refine h e fun x hx=>ih x ?_;have:=Az3 hx;omega
 exact key _ e (Nat.lt_succ_self _)
def Cd (e:Ex):Bool:=decide (3<=e.kind)&&decide (e.kind<=8)
def Jk (e:Ex) (k:Nat):Bool:=decide (e.l.length=k)&&Cd (e.l.getD 0 ex0)
def Tg:List As->Bool
 | a::b::r=>(a.c.isEmpty || !b.c.isEmpty)&&Tg (b::r)
 | _=>true
def Eu:List Ch->Bool
 | [c]=>decide (c.kind=1)&&(match c.l with | [x]=>decide (x.kind=3) | _=>false)
 | _=>false
def Fj (n:Nat) (c:Ch):Bool:=
 if c.kind=1 then decide (c.l.length=1) else if c.kind=2 then decide (c.l.length=2) else decide (c.kind=3)&&decide (c.l.length=0)&&decide (n<=1)
def Dk (l:List Ch):Bool:=decide (0<l.length)&&decide (l.length<=16)&&l.all (Fj l.length)
def Ns (l:List As):Bool:=decide (0<l.length)&&decide (l.length<=8)&&Tg l&&l.all fun a=>a.c.isEmpty || Eu a.c
def Oc (l:List Ch):Bool:=match l with | c::_=>decide (c.kind=3) | []=>false
def Hy:List As->Bool
 | []=>true
 | a::r=>(a.c.isEmpty || Dk a.c&&(!Oc a.c || r.isEmpty))&&Hy r
def Ur:List As->Bool
 | [a]=>a.c.isEmpty
 | _=>false
def Ip (l:List As):Bool:=decide (0<l.length)&&decide (l.length<=32)&&Tg l&&!Ur l&&Hy l
def zO (e:Ex):Bool:=decide (e.oper=0)
def zN (e:Ex):Bool:=decide (e.n=0)
def zS (e:Ex):Bool:=decide (e.s= [])
def zA (e:Ex):Bool:=e.a.isEmpty
def Bc (e:Ex):Bool:=
 if e.kind=1 then e.l.isEmpty&&decide (0<=e.n)&&decide (e.n<=2147483647)&&zO e&&zS e&&zA e
 else if e.kind=2 then e.l.isEmpty&&zO e&&zN e&&zS e&&zA e
 else if e.kind=3 then e.l.isEmpty&&Lo e.s&&zO e&&zN e&&zA e
 else if e.kind=4\/e.kind=6 then Jk e 1&&Lo e.s&&zO e&&zN e&&zA e
 else if e.kind=5 then Jk e 1&&zO e&&zN e&&zS e&&zA e
 else if e.kind=7 then Jk e 1&&Ns e.a&&zO e&&zN e&&zS e
 else if e.kind=8 then Jk e 2&&zO e&&zN e&&zS e&&zA e
 else if e.kind=9 then e.l.isEmpty&&Ip e.a&&zO e&&zN e&&zS e
 else if e.kind=10 then decide (e.l.length=3)&&zO e&&zN e&&zS e&&zA e
 else if e.kind=11 then decide (e.l.length=1)&&decide (18<=e.oper)&&decide (e.oper<=21)&&zN e&&zS e&&zA e
 else if e.kind=12 then decide (e.l.length=2)&&decide (1<=e.oper)&&decide (e.oper<=17)&&zN e&&zS e&&zA e
 else if e.kind=13\/e.kind=14 then(decide (e.l.length=3) || decide (e.l.length=2)&&Cd (e.l.getD 1 ex0))&&zO e&&zN e&&zS e&&zA e
 else false
mutual
def Fc (d:Nat):Ex->Bool
 | .mk k o n s l a li en t=>decide (d<=32)&&Bc (.mk k o n s l a li en t)&&Bj8 (d+1) l&&Be0 (d+1) a
def Bj8 (d:Nat):List Ex->Bool
 | []=>true
 | x::l=>Fc d x&&Bj8 d l
def De8 (d:Nat):As->Bool
 | .mk c e=>Be1 d c&&Fc d e
def Be0 (d:Nat):List As->Bool
 | []=>true
 | x::l=>De8 d x&&Be0 d l
def Eu6 (d:Nat):Ch->Bool
 | .mk _ l=>Bj8 d l
def Be1 (d:Nat):List Ch->Bool
 | []=>true
 | x::l=>Eu6 d x&&Be1 d l
end
theorem Ag7 (d:Nat): ∀l:List Ex,Bj8 d l=l.all (Fc d)
 | []=>rfl
 | x::l=>by rw[Bj8,Ag7 d l,List.all_cons]
theorem Az4 (d:Nat): ∀l:List Ch,Be1 d l=(l.flatMap Ch.l).all (Fc d)
 | []=>rfl
 | .mk k x::l=>by rw[Be1,Eu6,Az4 d l,Ag7,List.flatMap_cons,List.all_append];rfl
theorem De9 (d:Nat) (x:As):De8 d x=(Fb x).all (Fc d):=by
 cases x;rw[De8,Az4,Fb,List.all_append];simp [As.c,As.e]
theorem Az5 (d:Nat): ∀l:List As,Be0 d l=(l.flatMap Fb).all (Fc d)
 | []=>rfl
 | x::l=>by rw[Be0,De9,Az5 d l,List.flatMap_cons,List.all_append]
theorem Py (d:Nat) (e:Ex):Fc d e=(decide (d<=32)&&Bc e&&(parts e).all (Fc (d+1))):=by
 cases e;rw[Fc,Ag7,Az5,parts,List.all_append,Bool.and_assoc (decide (d<=32)&&_)];rfl
def Cg (e:Ex):Bool:=Fc 1 e&&decide (Hx e<=256)
def Kp (l:List Ch):Bool:=Dk l&&l.all fun c=>c.l.all Cg
def Ba (e:Ex):Int:=
 if e.kind=13\/e.kind=14 then 1
 else if e.kind=11 then(if e.oper=18\/e.oper=19 then 2 else if e.oper=20\/e.oper=21 then 4 else 5)
 else if e.kind=12 then(if 13<=e.oper/\e.oper<=17 then 0 else if 7<=e.oper/\e.oper<=12 then 1 else if e.oper=1\/e.oper=2 then 2 else if 3<=e.oper/\e.oper<=6 then 3 else 5)
 else 5
mutual
def Hq:Ex->Ex->Bool
 | .mk k o n s l a _ _ _,f=>decide (k=f.kind)&&decide (o=f.oper)&&decide (n=f.n)&&decide (s=f.s)&&Lr l f.l&&Nu a f.a
def Lr:List Ex->List Ex->Bool
 | [],[]=>true
 | x::l,y::m=>Hq x y&&Lr l m
 | _,_=>false
def Az6:As->As->Bool
 | .mk c e,y=>Mv c y.c&&Hq e y.e
def Nu:List As->List As->Bool
 | [],[]=>true
 | x::l,y::m=>Az6 x y&&Nu l m
 | _,_=>false
def Az7:Ch->Ch->Bool
 | .mk k l,y=>decide (k=y.kind)&&Lr l y.l
def Mv:List Ch->List Ch->Bool
 | [],[]=>true
 | x::l,y::m=>Az7 x y&&Mv l m
 | _,_=>false
end
theorem Eu7 (e f:Ex):Hq e f=(decide (e.kind=f.kind)&&decide (e.oper=f.oper)&&decide (e.n=f.n)&&decide (e.s=f.s)&&Lr e.l f.l&&Nu e.a f.a):=by
 cases e;rw[Hq];rfl
inductive Res (α:Type) where
 | bot
 | fail (k:Nat)
 | ok (x:α) (k:Nat)
def Res.then {α β:Type}:Res α->(α->Nat->Res β)->Res β
 | .bot,_=> .bot
 | .fail k,_=> .fail k
 | .ok x k,f=>f x k
structure PS where
 expr:Nat->Res Ex
 rest:Ex->Nat->Res Ex
 restL:Nat->Ex->Nat->Res Ex
 relation:Ex->Nat->Res Ex
 simple:Nat->Res Ex
 addL:Ex->Nat->Res Ex
 term:Nat->Res Ex
 mulL:Ex->Nat->Res Ex
 factor:Nat->Res Ex
 primary:Nat->Res Ex
 paren:Nat->Res Ex
 assoc:Nat->Res As
 assocsL:List As->Nat->Res (List As)
 choice:Nat->Res Ch
 choicesL:List Ch->Nat->Res (List Ch)
 arg:Nat->Res As
 argsL:List As->Nat->Res (List As)
 name:Nat->Res Ex
 nameL:Int->Ex->Nat->Res Ex
def Gl3:PS:=⟨fun _=> .bot,fun _ _=> .bot,fun _ _ _=> .bot,fun _ _=> .bot,fun _=> .bot,fun _ _=> .bot,fun _=> .bot,fun _ _=> .bot,fun _=> .bot,fun _=> .bot,fun _=> .bot,fun _=> .bot,fun _ _=> .bot,fun _=> .bot,fun _ _=> .bot,fun _=> .bot,fun _ _=> .bot,fun _=> .bot,fun _ _ _=> .bot⟩
def Pm:List UInt8:= [116,104,101,110]
def Qp:List UInt8:= [101,108,115,101]
def wIf:List UInt8:= [105,102]
def wIn:List UInt8:= [105,110]
def Ve:List UInt8:= [110,111,116]
def Zr:List UInt8:= [97,108,108]
def Ez:List UInt8:= [110,117,108,108]
def Lf:List UInt8:= [111,116,104,101,114,115]
def Cq1:List UInt8:= [97,110,100]
def wOr:List UInt8:= [111,114]
def Fo7:List UInt8:= [120,111,114]
def Gl4:List UInt8:= [109,111,100]
def Gl5:List UInt8:= [114,101,109]
def Ec3:List UInt8:= [97,98,115]
def Bi:List UInt8:= [40]
def Bt:List UInt8:= [41]
def Dh:List UInt8:= [44]
def Gl:List UInt8:= [124]
def Jl:List UInt8:= [46]
def Ev:List UInt8:= [46,46]
def Iq:List UInt8:= [39]
def Bn:List UInt8:= [61,62]
def Eu8:List (List (List UInt8)):= [[],[[43]],[[45]],[[42]],[[47]],[Gl4],[Gl5],[[61]],[[47,61]],[[60]],[[60,61]],[[62]],[[62,61]],[Cq1],[wOr],[Fo7],[Cq1,Pm],[wOr,Qp],[[43]],[[45]],[Ec3],[Ve]]
def Bd (o:Nat):List (List UInt8):=Eu8.getD o []
section
variable (l:List Tok)
def tk (k:Nat):Tok:=l.getD k Am3
def Il (s:List UInt8):Int:=if Tw s then 2 else 4
def isW (k:Nat):List (List UInt8)->Bool
 | []=>true
 | s::r=>decide ((tk l k).kind=Il s)&&decide ((tk l k).text=s)&&isW (k+1) r
def opF (want k:Nat):List Nat->Nat×Nat
 | []=>(0,k)
 | o::r=>if isW l k (Bd o) then(if want≠0/\o≠want then(0,k) else(o,k+(Bd o).length)) else opF want k r
def both (o:Nat) (a b:Ex):Ex:= .mk 12 o 0 [] [a,b] [] a.line 0 0
def Qq (o:Nat) (line:Int) (x:Ex):Ex:=if o=0 then x else .mk 11 o 0 [] [x] [] line 0 0
def must {α:Type} (s:List UInt8) (k:Nat) (f:Nat->Res α):Res α:=if isW l k [s] then f (k+1) else .fail k
def Iz {α:Type} (k:Nat) (f:List UInt8->Nat->Res α):Res α:=if(tk l k).kind=1 then f (tk l k).text (k+1) else .fail k
def Bj9 (line:Int) (a:List As):Ex:=match a with
 | [x]=>if x.c= [] then x.e else .mk 9 0 0 [] [] a line 0 0
 | _=> .mk 9 0 0 [] [] a line 0 0
def Fp:List Nat:= [17,16,15,14,13]
def Nv:List Nat:= [12,11,10,9,8,7]
def Gx:List Nat:= [19,18]
def Xd:List Nat:= [2,1]
def Xe:List Nat:= [6,5,4,3]
def La:List Nat:= [21,20]
def inK (x:Ex) (kind:Int) (k:Nat) (p:PS):Res Ex:=
 (p.simple k).then fun y k=>if isW l k [Ev] then(p.simple (k+1)).then fun z k=> .ok (.mk kind 0 0 [] [x,y,z] [] x.line 0 0) k
  else if Cd y then .ok (.mk kind 0 0 [] [x,y] [] x.line 0 0) k else .fail k
def Bl (p:PS):PS where
 expr k:=(p.simple k).then fun x k=>p.rest x k
 rest x k:=(p.relation x k).then fun x k=>p.restL (opF l 0 k Fp).1 x k
 restL o x k:=if o=0 then .ok x k else
  let q:=opF l o k Fp
  if q.1=0 then .ok x k else(p.simple q.2).then fun y k=>(p.relation y k).then fun y k=>p.restL o (both o x y) k
 relation x k:=
  let q:=opF l 0 k Nv
  if q.1≠0 then(p.simple q.2).then fun y k=> .ok (both q.1 x y) k
  else if isW l k [wIn] then inK l x 13 (k+1) p
  else if isW l k [Ve,wIn] then inK l x 14 (k+2) p
  else .ok x k
 simple k:=
  let q:=opF l 0 k Gx
  (p.term q.2).then fun x k'=>p.addL (Qq q.1 (tk l k).line x) k'
 addL x k:=
  let q:=opF l 0 k Xd
  if q.1=0 then .ok x k else(p.term q.2).then fun y k=>p.addL (both q.1 x y) k
 term k:=(p.factor k).then fun x k=>p.mulL x k
 mulL x k:=
  let q:=opF l 0 k Xe
  if q.1=0 then .ok x k else(p.factor q.2).then fun y k=>p.mulL (both q.1 x y) k
 factor k:=
  let q:=opF l 0 k La
  (p.primary q.2).then fun x k'=> .ok (Qq q.1 (tk l k).line x) k'
 primary k:=
  if(tk l k).kind=3 then .ok (.mk 1 0 (tk l k).n [] [] [] (tk l k).line 0 0) (k+1)
  else if isW l k [Ez] then .ok (.mk 2 0 0 [] [] [] (tk l k).line 0 0) (k+1)
  else if isW l k [Bi] then p.paren k
  else p.name k
 paren k:=must l Bi k fun k1=>
  if isW l k1 [wIf] then(p.expr (k1+1)).then fun a k=>must l Pm k fun k=>(p.expr k).then fun b k=>must l Qp k fun k=>(p.expr k).then fun c k'=>must l Bt k' fun k'=> .ok (.mk 10 0 0 [] [a,b,c] [] (tk l (k1-1)).line 0 0) k'
  else(p.assoc k1).then fun a k=>(p.assocsL [a] k).then fun az k=>must l Bt k fun k=> .ok (Bj9 (tk l (k1-1)).line az) k
 assoc k:=(p.choice k).then fun c k=>
  if c.kind=1/\isW l k [Gl]=false/\isW l k [Bn]=false then .ok (.mk [] (c.l.getD 0 ex0)) k
  else if c.kind=3 then must l Bn k fun k=>(p.expr k).then fun e k=> .ok (.mk [c] e) k
  else(p.choicesL [c] k).then fun cs k=>must l Bn k fun k=>(p.expr k).then fun e k=> .ok (.mk cs e) k
 assocsL az k:=if isW l k [Dh] then(p.assoc (k+1)).then fun a k=>p.assocsL (az++ [a]) k else .ok az k
 choice k:=if isW l k [Lf] then .ok (.mk 3 []) (k+1) else
  (p.simple k).then fun x k=>if isW l k [Ev] then(p.simple (k+1)).then fun y k=> .ok (.mk 2 [x,y]) k
   else(p.rest x k).then fun x k=> .ok (.mk 1 [x]) k
 choicesL cs k:=if isW l k [Gl] then(p.choice (k+1)).then fun c k=>p.choicesL (cs++ [c]) k else .ok cs k
 arg k:=if(tk l k).kind=1/\isW l (k+1) [Bn]=true then(p.expr (k+2)).then fun e k'=> .ok (.mk [.mk 1 [.mk 3 0 0 (tk l k).text [] [] (tk l k).line 0 0]] e) k'
  else(p.expr k).then fun e k=> .ok (.mk [] e) k
 argsL az k:=if isW l k [Dh] then(p.arg (k+1)).then fun a k=>p.argsL (az++ [a]) k else .ok az k
 name k:=Iz l k fun s k1=>p.nameL (tk l k).line (.mk 3 0 0 s [] [] (tk l k).line 0 0) k1
 nameL line x k:=
  if isW l k [Jl,Zr] then p.nameL line (.mk 5 0 0 [] [x] [] line 0 0) (k+2)
  else if isW l k [Jl] then Iz l (k+1) fun s k=>p.nameL line (.mk 4 0 0 s [x] [] line 0 0) k
  else if isW l k [Bi] then(p.arg (k+1)).then fun a k=>(p.argsL [a] k).then fun az k=>must l Bt k fun k=>p.nameL line (.mk 7 0 0 [] [x] az line 0 0) k
  else if isW l k [Iq,Bi] then(p.paren (k+1)).then fun y k=>p.nameL line (.mk 8 0 0 [] [x,y] [] line 0 0) k
  else if isW l k [Iq] then Iz l (k+1) fun s k=>p.nameL line (.mk 6 0 0 s [x] [] line 0 0) k
  else .ok x k
def P:Nat->PS
 | 0=>Gl3
 | n+1=>Bl l (P n)
end
def Res.Le {α:Type} (r r':Res α):Prop:=r= .bot\/r=r'
theorem Res.Le.refl {α:Type} (r:Res α):r.Le r:= .inr rfl
theorem Fo8 {α β:Type} {r y:Res α} {f g:α->Nat->Res β} (h:r.Le y) (k: ∀x k,(f x k).Le (g x k)):(r.then f).Le (y.then g):=by
 rcases h with rfl | rfl
 ·exact .inl rfl
 ·cases r with
  | bot=>exact .inl rfl
  | fail k=>exact .inr rfl
  | ok x n=>exact k x n
theorem Df0 {α:Type} {c:Prop} [Decidable c] {a b y C:Res α} (h:a.Le y) (k:b.Le C):(if c then a else b).Le (if c then y else C):=by
 split
 ·exact h
 ·exact k
section
variable {l:List Tok}
theorem Fo9 {α:Type} {s:List UInt8} {k:Nat} {f g:Nat->Res α} (h: ∀k,(f k).Le (g k)):(must l s k f).Le (must l s k g):=Df0 (h _) (.refl _)
theorem Eu9 {α:Type} {k:Nat} {f g:List UInt8->Nat->Res α} (h: ∀s k,(f s k).Le (g s k)):(Iz l k f).Le (Iz l k g):=Df0 (h _ _) (.refl _)
structure PS.Le (p q:PS):Prop where
 expr: ∀k,(p.expr k).Le (q.expr k)
 rest: ∀x k,(p.rest x k).Le (q.rest x k)
 restL: ∀o x k,(p.restL o x k).Le (q.restL o x k)
 relation: ∀x k,(p.relation x k).Le (q.relation x k)
 simple: ∀k,(p.simple k).Le (q.simple k)
 addL: ∀x k,(p.addL x k).Le (q.addL x k)
 term: ∀k,(p.term k).Le (q.term k)
 mulL: ∀x k,(p.mulL x k).Le (q.mulL x k)
 factor: ∀k,(p.factor k).Le (q.factor k)
 primary: ∀k,(p.primary k).Le (q.primary k)
 paren: ∀k,(p.paren k).Le (q.paren k)
 assoc: ∀k,(p.assoc k).Le (q.assoc k)
 assocsL: ∀a k,(p.assocsL a k).Le (q.assocsL a k)
 choice: ∀k,(p.choice k).Le (q.choice k)
 choicesL: ∀a k,(p.choicesL a k).Le (q.choicesL a k)
 arg: ∀k,(p.arg k).Le (q.arg k)
 argsL: ∀a k,(p.argsL a k).Le (q.argsL a k)
 name: ∀k,(p.name k).Le (q.name k)
 nameL: ∀i x k,(p.nameL i x k).Le (q.nameL i x k)
theorem Ev0 (q:PS):Gl3.Le q:=by constructor<;>intros<;>exact .inl rfl
theorem Ev1 {p q:PS} (h:p.Le q):(Bl l p).Le (Bl l q):=by
 constructor<;>intros<;>dsimp only[Bl,inK]<;>repeat' first
  | exact Res.Le.refl _
  | exact h.expr _
  | exact h.rest _ _
  | exact h.restL _ _ _
  | exact h.relation _ _
  | exact h.simple _
  | exact h.addL _ _
  | exact h.term _
  | exact h.mulL _ _
  | exact h.factor _
  | exact h.primary _
  | exact h.paren _
  | exact h.assoc _
  | exact h.assocsL _ _
  | exact h.choice _
  | exact h.choicesL _ _
  | exact h.arg _
  | exact h.argsL _ _
  | exact h.name _
  | exact h.nameL _ _ _
  | refine Fo8 ?_ fun _ _=> ?_
  | refine Fo9 fun _=> ?_
  | refine Eu9 fun _ _=> ?_
  | refine Df0 ?_ ?_
theorem Bw8: ∀n,(P l n).Le (P l (n+1))
 | 0=>Ev0 _
 | n+1=>Ev1 (Bw8 n)
def Adv (l:List Tok) {α:Type} (lb:Nat):Res α->Prop
 | .bot=>True
 | .fail k=>k<=l.length
 | .ok _ k=>lb<=k/\k<=l.length
theorem Ce {α β:Type} {a b:Nat} {r:Res α} {f:α->Nat->Res β} (h:Adv l a r) (k: ∀x n,a<=n->n<=l.length->Adv l b (f x n)):Adv l b (r.then f):=by
 cases r with
 | bot=>trivial
 | fail n=>exact h
 | ok x n=>exact k x n h.1 h.2
theorem Hj {α:Type} {a k:Nat} {x:α} (h:a<=k) (h2:k<=l.length):Adv l a (.ok x k):=⟨h,h2⟩
theorem Eb {α:Type} {a b:Nat} {r:Res α} (h:Adv l a r) (hb:b<=a):Adv l b r:=by
 cases r with
 | bot=>trivial
 | fail n=>exact h
 | ok x n=>exact⟨Nat.le_trans hb h.1,h.2⟩
theorem Fp0 {k:Nat} (h:l.length<=k):tk l k=Am3:=by rw[tk,List.getD,List.getElem?_eq_none h];rfl
theorem Rs {k:Nat} (h:(tk l k).kind≠0):k<l.length:=by
 rcases Nat.lt_or_ge k l.length with h2 | h2
 ·exact h2
 ·rw[Fp0 h2] at h;exact absurd rfl h
theorem Bk0 (s:List UInt8):Il s≠0:=by unfold Il;split<;>decide
theorem Bf: ∀ {ws:List (List UInt8)} {k:Nat},isW l k ws=true->k<=l.length->k+ws.length<=l.length
 | [],k,_,hk=>hk
 | s::r,k,h,_=>by
  rw[isW,jF,jF,decide_eq_true_eq] at h;have h1:k<l.length:=Rs (by rw[h.1.1];exact Bk0 s);have:=Bf h.2 h1;rw[jA];omega
theorem Ec4: ∀o,o<22->o≠0->0<(Bd o).length:=by decide+kernel
theorem Ej {want k:Nat}: ∀ {os:List Nat},(∀o∈os,o<22/\o≠0)->k<=l.length->((opF l want k os).1=0->(opF l want k os).2=k)/\((opF l want k os).1≠0->k+1<=(opF l want k os).2)/\(opF l want k os).2<=l.length/\k<=(opF l want k os).2
 | [],_,hk=>⟨fun _=>rfl,fun h=>absurd rfl h,hk,Nat.le_refl _⟩
 | o::r,h,hk=>by
  have ih:=Ej (want:=want) (os:=r) (fun x hx=>h x (by simp [hx])) hk;rw[opF];split
  ·rename_i hw
   split
   ·exact⟨fun _=>rfl,fun h=>absurd rfl h,hk,Nat.le_refl _⟩
   ·have h1:=Bf hw hk;have h2:=Ec4 o (h o (by simp)).1 (h o (by simp)).2;exact⟨fun e=>absurd e (h o (by simp)).2,fun _=>by dsimp only;omega,h1,by dsimp only;omega⟩
  ·exact ih
theorem Qr {α:Type} {s:List UInt8} {k a:Nat} {f:Nat->Res α} (hk:k<=l.length) (h:k+1<=l.length->Adv l a (f (k+1))):Adv l a (must l s k f):=by
 unfold must;split
 ·rename_i hw
  exact h (Bf hw hk)
 ·exact hk
theorem Au3 {α:Type} {k a:Nat} {f:List UInt8->Nat->Res α} (hk:k<=l.length) (h:k+1<=l.length-> ∀s,Adv l a (f s (k+1))):Adv l a (Iz l k f):=by
 unfold Iz;split
 ·rename_i hw
  exact h (Rs (by rw[hw];decide)) _
 ·exact hk
structure PS.Adv (l:List Tok) (p:PS):Prop where
 expr: ∀k,k<=l.length->Dl.Adv l (k+1) (p.expr k)
 rest: ∀x k,k<=l.length->Dl.Adv l k (p.rest x k)
 restL: ∀o x k,k<=l.length->Dl.Adv l k (p.restL o x k)
 relation: ∀x k,k<=l.length->Dl.Adv l k (p.relation x k)
 simple: ∀k,k<=l.length->Dl.Adv l (k+1) (p.simple k)
 addL: ∀x k,k<=l.length->Dl.Adv l k (p.addL x k)
 term: ∀k,k<=l.length->Dl.Adv l (k+1) (p.term k)
 mulL: ∀x k,k<=l.length->Dl.Adv l k (p.mulL x k)
 factor: ∀k,k<=l.length->Dl.Adv l (k+1) (p.factor k)
 primary: ∀k,k<=l.length->Dl.Adv l (k+1) (p.primary k)
 paren: ∀k,k<=l.length->Dl.Adv l (k+1) (p.paren k)
 assoc: ∀k,k<=l.length->Dl.Adv l (k+1) (p.assoc k)
 assocsL: ∀a k,k<=l.length->Dl.Adv l k (p.assocsL a k)
 choice: ∀k,k<=l.length->Dl.Adv l (k+1) (p.choice k)
 choicesL: ∀a k,k<=l.length->Dl.Adv l k (p.choicesL a k)
 arg: ∀k,k<=l.length->Dl.Adv l (k+1) (p.arg k)
 argsL: ∀a k,k<=l.length->Dl.Adv l k (p.argsL a k)
 name: ∀k,k<=l.length->Dl.Adv l (k+1) (p.name k)
 nameL: ∀i x k,k<=l.length->Dl.Adv l k (p.nameL i x k)
theorem Gp7:(∀o∈Fp,o<22/\o≠0)/\(∀o∈Nv,o<22/\o≠0)/\(∀o∈Gx,o<22/\o≠0)/\(∀o∈Xd,o<22/\o≠0)/\(∀o∈Xe,o<22/\o≠0)/\ ∀o∈La,o<22/\o≠0:=by decide
theorem Dp4 {p:PS} (h:p.Adv l) {x:Ex} {kind:Int} {k:Nat} (hk:k<=l.length):Dl.Adv l k (inK l x kind k p):=by
 refine Ce (h.simple k hk) fun y n h1 h2=> ?_;split
 ·rename_i hw
  have:=Bf hw h2;refine Ce (h.simple (n+1) (by simpa using this)) fun z m h3 h4=>Hj (by omega) h4
 ·split
  ·exact Hj (by omega) h2
  ·exact h2
theorem Ec5 {p:PS} (h:p.Adv l):(Bl l p).Adv l where
 expr k hk:=Ce (h.simple k hk) fun x n h1 h2=>Eb (h.rest x n h2) (by omega)
 rest x k hk:=Ce (h.relation x k hk) fun x n h1 h2=>Eb (h.restL _ x n h2) (by omega)
 restL o x k hk:=by
  dsimp only[Bl]
  split
  ·exact Hj (by omega) hk
  ·obtain⟨D,q2,C,E⟩:=Ej (want:=o) Gp7.1 hk
   split
   ·exact Hj (by omega) hk
   ·rename_i hq
    have:=q2 hq
    exact Ce (h.simple _ C) fun y n h1 h2=>Ce (h.relation y n h2) fun z m h3 h4=>Eb (h.restL _ _ m h4) (by omega)
 relation x k hk:=by
  dsimp only[Bl]
  obtain⟨D,q2,C,E⟩:=Ej (want:=0) Gp7.2.1 hk
  split
  ·rename_i hq
   have:=q2 hq
   exact Ce (h.simple _ C) fun y n h1 h2=>Hj (by omega) h2
  ·split
   ·rename_i hw
    have:=Bf hw hk
    exact Eb (Dp4 h (by simpa using this)) (by omega)
   ·split
    ·rename_i hw
     have:=Bf hw hk
     exact Eb (Dp4 h (by simpa using this)) (by omega)
    ·exact Hj (by omega) hk
 simple k hk:=by
  obtain⟨D,q2,C,E⟩:=Ej (want:=0) Gp7.2.2.1 hk
  exact Ce (h.term _ C) fun x n h1 h2=>Eb (h.addL _ n h2) (by omega)
 addL x k hk:=by
  dsimp only[Bl]
  obtain⟨D,q2,C,E⟩:=Ej (want:=0) Gp7.2.2.2.1 hk
  split
  ·exact Hj (by omega) hk
  ·exact Ce (h.term _ C) fun x n h1 h2=>Eb (h.addL _ n h2) (by omega)
 term k hk:=Ce (h.factor k hk) fun x n h1 h2=>Eb (h.mulL _ n h2) (by omega)
 mulL x k hk:=by
  dsimp only[Bl]
  obtain⟨D,q2,C,E⟩:=Ej (want:=0) Gp7.2.2.2.2.1 hk
  split
  ·exact Hj (by omega) hk
  ·exact Ce (h.factor _ C) fun x n h1 h2=>Eb (h.mulL _ n h2) (by omega)
 factor k hk:=by
  obtain⟨D,q2,C,E⟩:=Ej (want:=0) Gp7.2.2.2.2.2 hk
  exact Ce (h.primary _ C) fun x n h1 h2=>Hj (by omega) h2
 primary k hk:=by
  dsimp only[Bl]
  split
  ·rename_i hq
   have:=Rs (l:=l) (k:=k) (by rw[hq];decide)
   exact Hj (by omega) this
  ·split
   ·rename_i hw
    have:=Bf hw hk
    exact Hj (by omega) (by simpa using this)
   ·split
    ·exact h.paren k hk
    ·exact h.name k hk
 paren k hk:=by
  dsimp only[Bl]
  refine Qr hk fun I=> ?_
  split
  ·rename_i hw
   have:=Bf hw I
   refine Ce (h.expr _ (by simpa using this)) fun a J h1 h2=>Qr h2 fun h3=>Ce (h.expr _ h3) fun b L h4 h5=>Qr h5 fun h6=>Ce (h.expr _ h6) fun c M h7 h8=>Qr h8 fun h9=>Hj (by omega) h9
  ·exact Ce (h.assoc _ I) fun a J h1 h2=>Ce (h.assocsL _ _ h2) fun az L h3 h4=>Qr h4 fun h5=>Hj (by omega) h5
 assoc k hk:=by
  refine Ce (h.choice k hk) fun c n h1 h2=> ?_
  split
  ·exact Hj (by omega) h2
  ·split
   ·exact Qr h2 fun h3=>Ce (h.expr _ h3) fun e m h4 h5=>Hj (by omega) h5
   ·exact Ce (h.choicesL _ _ h2) fun cs m h3 h4=>Qr h4 fun h5=>Ce (h.expr _ h5) fun e m h6 h7=>Hj (by omega) h7
 assocsL az k hk:=by
  dsimp only[Bl]
  split
  ·rename_i hw
   have:=Bf hw hk
   exact Ce (h.assoc _ (by simpa using this)) fun a n h1 h2=>Eb (h.assocsL _ n h2) (by omega)
  ·exact Hj (by omega) hk
 choice k hk:=by
  dsimp only[Bl]
  split
  ·rename_i hw
   have:=Bf hw hk
   exact Hj (by omega) (by simpa using this)
  ·refine Ce (h.simple k hk) fun x n h1 h2=> ?_
   split
   ·rename_i hw
    have:=Bf hw h2
    exact Ce (h.simple _ (by simpa using this)) fun y m h3 h4=>Hj (by omega) h4
   ·exact Ce (h.rest x n h2) fun y m h3 h4=>Hj (by omega) h4
 choicesL az k hk:=by
  dsimp only[Bl]
  split
  ·rename_i hw
   have:=Bf hw hk
   exact Ce (h.choice _ (by simpa using this)) fun a n h1 h2=>Eb (h.choicesL _ n h2) (by omega)
  ·exact Hj (by omega) hk
 arg k hk:=by
  dsimp only[Bl]
  split
  ·rename_i hw
   have:=Rs (l:=l) (k:=k) (by rw[hw.1];decide)
   have:=Bf hw.2 this
   exact Ce (h.expr _ (by simpa using this)) fun y m h3 h4=>Hj (by omega) h4
  ·exact Ce (h.expr k hk) fun y m h3 h4=>Hj (by omega) h4
 argsL az k hk:=by
  dsimp only[Bl]
  split
  ·rename_i hw
   have:=Bf hw hk
   exact Ce (h.arg _ (by simpa using this)) fun a n h1 h2=>Eb (h.argsL _ n h2) (by omega)
  ·exact Hj (by omega) hk
 name k hk:=Au3 hk fun h1 s=>h.nameL _ _ _ h1
 nameL i x k hk:=by
  dsimp only[Bl]
  split
  ·rename_i hw
   have:=Bf hw hk
   exact Eb (h.nameL _ _ _ (by simpa using this)) (by omega)
  ·split
   ·rename_i hw
    have:=Bf hw hk
    exact Au3 (by simpa using this) fun h1 s=>Eb (h.nameL _ _ _ h1) (by omega)
   ·split
    ·rename_i hw
     have:=Bf hw hk
     exact Ce (h.arg _ (by simpa using this)) fun a n h1 h2=>Ce (h.argsL _ _ h2) fun az m h3 h4=>Qr h4 fun h5=>Eb (h.nameL _ _ _ h5) (by omega)
    ·split
     ·rename_i hw
      have:=Bf hw hk
      simp only[jA,jB] at this
      exact Ce (h.paren _ (by omega)) fun a n h1 h2=>Eb (h.nameL _ _ _ h2) (by omega)
     ·split
      ·rename_i hw
       have:=Bf hw hk
       exact Au3 (by simpa using this) fun h1 s=>Eb (h.nameL _ _ _ h1) (by omega)
      ·exact Hj (by omega) hk
theorem Jz: ∀n,(P l n).Adv l
 | 0=>by constructor<;>intros<;>trivial
 | n+1=>Ec5 (Jz n)
end
end Go.Dl
-- Chapter 3: expressions as data.
namespace Go.Dl
open Go Go.Proofs
set_option maxRecDepth 100000
mutual
def dEx:Ex->List DVal
 | .mk k o n s l a li en t=> [.int .u8 k, .int .u8 o, .int .i64 n, .str s, .vslice (Ce4 l) l.length, .vslice (Cq2 a) a.length, .int .i64 li, .int .i64 en, .int .i64 t]
def Ce4:List Ex->List DVal
 | []=> []
 | x::l=>dEx x++Ce4 l
def dAs:As->List DVal
 | .mk c e=> .vslice (Cq3 c) c.length::dEx e
def Cq2:List As->List DVal
 | []=> []
 | x::l=>dAs x++Cq2 l
def dCh:Ch->List DVal
 | .mk k l=> [.int .u8 k, .vslice (Ce4 l) l.length]
def Cq3:List Ch->List DVal
 | []=> []
 | x::l=>dCh x++Cq3 l
end
theorem Au4: ∀l:List Ex,Ce4 l=l.flatMap dEx
 | []=>rfl
 | x::l=>by rw[Ce4,Au4 l,List.flatMap_cons]
theorem Bw9: ∀l:List As,Cq2 l=l.flatMap dAs
 | []=>rfl
 | x::l=>by rw[Cq2,Bw9 l,List.flatMap_cons]
theorem Bx0: ∀l:List Ch,Cq3 l=l.flatMap dCh
 | []=>rfl
 | x::l=>by rw[Cq3,Bx0 l,List.flatMap_cons]
theorem Xf (k o n:Int) (s:List UInt8) (l:List Ex) (a:List As) (li en t:Int):dEx (.mk k o n s l a li en t)= [.int .u8 k, .int .u8 o, .int .i64 n, .str s, .vslice (l.flatMap dEx) l.length, .vslice (a.flatMap dAs) a.length, .int .i64 li, .int .i64 en, .int .i64 t]:=by
 rw[dEx,Au4,Bw9]
theorem Ox (e:Ex):dEx e= [.int .u8 e.kind, .int .u8 e.oper, .int .i64 e.n, .str e.s, .vslice (e.l.flatMap dEx) e.l.length, .vslice (e.a.flatMap dAs) e.a.length, .int .i64 e.line, .int .i64 e.ent, .int .i64 e.t]:=by
 cases e;rw[Xf];rfl
theorem Au5 (x:As):dAs x= .vslice (x.c.flatMap dCh) x.c.length::dEx x.e:=by
 cases x;rw[dAs,Bx0];rfl
theorem Au6 (x:Ch):dCh x= [.int .u8 x.kind, .vslice (x.l.flatMap dEx) x.l.length]:=by
 cases x;rw[dCh,Au4];rfl
theorem Ad (e:Ex):(dEx e).length=9:=by rw[Ox];rfl
theorem Fz (e:As):(dAs e).length=10:=by rw[Au5,jA,Ad]
theorem Gh (e:Ch):(dCh e).length=2:=by rw[Au6];rfl
theorem Fw2 (e:Ex):(dEx e).take 9=dEx e:=List.take_of_length_le (by rw[Ad];decide)
theorem Gl6 (e:As):(dAs e).take 10=dAs e:=List.take_of_length_le (by rw[Fz];decide)
theorem Gl7 (e:Ch):(dCh e).take 2=dCh e:=List.take_of_length_le (by rw[Gh];decide)
theorem Gl8 (e:Ex):(dEx e).drop 9= []:=List.drop_of_length_le (by rw[Ad];decide)
theorem Bo (e:Ex):(dEx e).all (fun d=>d.one)=true:=by rw[Ox];rfl
theorem Fp1 (e:As):(dAs e).all (fun d=>d.one)=true:=by rw[Au5,List.all_cons,Bo];rfl
theorem Dp5 (e:Ch):(dCh e).all (fun d=>d.one)=true:=by rw[Au6];rfl
theorem Fw3 (e:Ex):(dEx e)[0]? =some (.int .u8 e.kind):=by rw[Ox];rfl
theorem Gl9 (e:Ex):(dEx e)[1]? =some (.int .u8 e.oper):=by rw[Ox];rfl
theorem Gm0 (e:Ex):(dEx e)[2]? =some (.int .i64 e.n):=by rw[Ox];rfl
theorem Gm1 (e:Ex):(dEx e)[3]? =some (.str e.s):=by rw[Ox];rfl
theorem Gm2 (e:Ex):(dEx e)[4]? =some (.vslice (e.l.flatMap dEx) e.l.length):=by rw[Ox];rfl
theorem Gm3 (e:Ex):(dEx e)[5]? =some (.vslice (e.a.flatMap dAs) e.a.length):=by rw[Ox];rfl
theorem Fw4 (e:As):(dAs e)[0]? =some (.vslice (e.c.flatMap dCh) e.c.length):=by rw[Au5];rfl
theorem Cq4 (e:As):((dAs e).drop 1).take 9=dEx e.e:=by rw[Au5];exact Fw2 _
theorem Fw5 (e:Ch):(dCh e)[0]? =some (.int .u8 e.kind):=by rw[Au6];rfl
theorem Ev2 (e:Ch):(dCh e)[1]? =some (.vslice (e.l.flatMap dEx) e.l.length):=by rw[Au6];rfl
def dXs (l:List Ex):DVal:= .vslice (l.flatMap dEx) l.length
def dAl (l:List As):DVal:= .vslice (l.flatMap dAs) l.length
def dCl (l:List Ch):DVal:= .vslice (l.flatMap dCh) l.length
attribute [go_sem] Ad Fz Gh Fw2 Gl6 Gl7 Gl8 Bo Fp1 Dp5 Fw3 Gl9 Gm0 Gm1 Gm2 Gm3 Fw4 Cq4 Fw5 Ev2 jH
section
variable {G:Nat->DVal} {H:Ac}
theorem Us (G:Nat->DVal) (H:Ac) (e:Ex):Af Tryz.prog G 85 [.agg (dEx e)] H (Au (.bool (Cd e)) H):=by
 refine Ab Tryz.func85 Tryz.call85 rfl (by kernel_rfl) ?_;simp(disch:=omega)only[go_sem,DVal.cells];intro r hr;dsimp only at hr;by_cases h1:3<=e.kind
 ·simp(disch:=omega)only[go_sem,h1];exact Es.dropA r hr (Es.refl ⟨by rw[Cd,decide_eq_true h1,jS],rfl⟩)
 ·simp(disch:=omega)only[go_sem,h1];exact Es.dropA r hr (Es.refl ⟨by rw[Cd,decide_eq_false h1,jT],rfl⟩)
end
mutual
def Fh:Ex->Nat
 | .mk _ _ _ _ l a _ _ _=>1+Ls l+Fl a
def Ls:List Ex->Nat
 | []=>0
 | x::l=>Fh x+Ls l
def Xg:As->Nat
 | .mk c e=>Jm c+Fh e
def Fl:List As->Nat
 | []=>0
 | x::l=>Xg x+Fl l
def Am5:Ch->Nat
 | .mk _ l=>1+Ls l
def Jm:List Ch->Nat
 | []=>0
 | x::l=>Am5 x+Jm l
end
theorem Cq5 (e:Ex):1<=Fh e:=by cases e;rw[Fh];omega
theorem Ev3 (a:As):1<=Xg a:=by cases a;rw[Xg];have:=Cq5 (‹Ex›);omega
theorem Ev4 (c:Ch):1<=Am5 c:=by cases c;rw[Am5];omega
theorem Am6 (e:Ex):Fh e=1+Ls e.l+Fl e.a:=by cases e;rw[Fh];rfl
theorem Am7 (a:As):Xg a=Jm a.c+Fh a.e:=by cases a;rw[Xg];rfl
theorem Xh (c:Ch):Am5 c=1+Ls c.l:=by cases c;rw[Am5];rfl
theorem Am8: ∀ {l:List Ex} {x:Ex},x∈l->Fh x<=Ls l
 | y::l,x,h=>by
  rw[Ls];rcases List.mem_cons.1 h with rfl | h
  ·omega
  ·have:=Am8 h;omega
theorem Au7: ∀ {l:List As} {x:As},x∈l->Xg x<=Fl l
 | y::l,x,h=>by
  rw[Fl];rcases List.mem_cons.1 h with rfl | h
  ·omega
  ·have:=Au7 h;omega
theorem Vv: ∀ {l:List Ch} {x:Ch},x∈l->Am5 x<=Jm l
 | y::l,x,h=>by
  rw[Jm];rcases List.mem_cons.1 h with rfl | h
  ·omega
  ·have:=Vv h;omega
theorem Vw: ∀l:List Ex,l.length<=Ls l
 | []=>Nat.le_refl _
 | x::l=>by rw[Ls,jA];have:=Vw l;have:=Cq5 x;omega
theorem Au8: ∀l:List As,l.length<=Fl l
 | []=>Nat.le_refl _
 | x::l=>by rw[Fl,jA];have:=Au8 l;have:=Ev3 x;omega
theorem Vx: ∀l:List Ch,l.length<=Jm l
 | []=>Nat.le_refl _
 | x::l=>by rw[Jm,jA];have:=Vx l;have:=Ev4 x;omega
theorem Fw6 {e:Ex}:e.l.length<=Fh e:=by have:=Vw e.l;rw[Am6];omega
theorem Fw7 {e:Ex}:e.a.length<=Fh e:=by have:=Au8 e.a;rw[Am6];omega
theorem Ge4 {e x:Ex} (h:x∈e.l):Fh x<Fh e:=by have:=Am8 h;rw[Am6 e];omega
theorem Df1 {e:Ex} {a:As} (h:a∈e.a):Xg a<Fh e:=by have:=Au7 h;rw[Am6 e];omega
theorem Fp2 (G:Nat->DVal) (H:Ac) (p:Ex->Bool) (l:List Ex) (g:FuncId) (xs y:List DVal) (hl:l.length<=1099511627776)
  (hp: ∀x∈l,Af Tryz.prog G g (xs++ [.agg (dEx x)]++y) H (Au (.bool (p x)) H)):
  Af Tryz.prog G 186 [.vslice (l.flatMap dEx) l.length, .func (.func g) xs y] H (Au (dI (Bc3 p l)) H):=by
 refine Ab Tryz.func186 Tryz.call186 rfl (by kernel_rfl) ?_;simp(disch:=omega)only[go_sem];refine Dn5.run (fun(i:Nat) env heap=>heap=H/\env 0= .vslice (l.flatMap dEx) l.length/\env 1= .func (.func g) xs y/\env 7=dI l.length/\env 8=dI i/\i<=l.length/\ ∀x∈l.take i,p x=false) (fun i=>l.length-i) 0 ?_ ?_
 ·simp(disch:=omega)only[go_sem];simp
 ·rintro i env heap ⟨rfl,h0,h1,h7,h8,hi,hn⟩;by_cases h:i<l.length
  ·have C:=Cu Ad l i h;simp(disch:=omega)only[go_sem,h0,h1,h7,h8,C,Ax Ad];have hc:=hp l[i] (List.getElem_mem h)
   skip
   refine hc.mono ?_;rintro _ H ⟨rfl,rfl⟩;cases hx:p l[i] with
   | true=>
    simp(disch:=omega)only[go_sem,h0,h1,h7,h8];exact Es.refl ⟨by rw[Ac3 h hx hn],rfl⟩
   | false=>
    simp(disch:=omega)only[go_sem,h0,h1,h7,h8];refine⟨i+1,_,Ri.refl _, ?_,by omega⟩;simp(disch:=omega)only[go_sem,h0,h1,h7,h8];(repeat' apply And.intro)<;>(try first | rfl | assumption | omega);exact Mh h hn hx
  ·simp(disch:=omega)only[go_sem,h0,h1,h7,h8];have:i=l.length:=by omega
   subst this;rw[List.take_length] at hn;exact Es.refl ⟨by rw[Ac4 hn],rfl⟩
theorem Ag8 (G:Nat->DVal) (H:Ac) (p:Ex->Bool) (l:List Ex) (g:FuncId) (xs h:List DVal) (hl:l.length<=1099511627776)
  (hp: ∀x∈l,Af Tryz.prog G g (xs++ [.agg (dEx x)]++h) H (Au (.bool (p x)) H)):
  Af Tryz.prog G 76 [.vslice (l.flatMap dEx) l.length, .func (.func g) xs h] H (Au (.bool (l.any p)) H):=by
 refine Ab Tryz.func76 Tryz.call76 rfl (by kernel_rfl) ?_;simp(disch:=omega)only[go_sem];refine(Fp2 G H p l g xs h hl hp).mono ?_;rintro _ H ⟨rfl,rfl⟩;simp(disch:=omega)only[go_sem];exact Es.refl ⟨by rw[Vs],rfl⟩
theorem Fp3 (G:Nat->DVal) (H:Ac) (p:As->Bool) (l:List As) (g:FuncId) (xs y:List DVal) (hl:l.length<=1099511627776)
  (hp: ∀x∈l,Af Tryz.prog G g (xs++ [.agg (dAs x)]++y) H (Au (.bool (p x)) H)):
  Af Tryz.prog G 298 [.vslice (l.flatMap dAs) l.length, .func (.func g) xs y] H (Au (dI (Bc3 p l)) H):=by
 refine Ab Tryz.func298 Tryz.call298 rfl (by kernel_rfl) ?_;simp(disch:=omega)only[go_sem];refine Dn5.run (fun(i:Nat) env heap=>heap=H/\env 0= .vslice (l.flatMap dAs) l.length/\env 1= .func (.func g) xs y/\env 7=dI l.length/\env 8=dI i/\i<=l.length/\ ∀x∈l.take i,p x=false) (fun i=>l.length-i) 0 ?_ ?_
 ·simp(disch:=omega)only[go_sem];simp
 ·rintro i env heap ⟨rfl,h0,h1,h7,h8,hi,hn⟩;by_cases h:i<l.length
  ·have C:=Cu Fz l i h;simp(disch:=omega)only[go_sem,h0,h1,h7,h8,C,Ax Fz];have hc:=hp l[i] (List.getElem_mem h)
   skip
   refine hc.mono ?_;rintro _ H ⟨rfl,rfl⟩;cases hx:p l[i] with
   | true=>
    simp(disch:=omega)only[go_sem,h0,h1,h7,h8];exact Es.refl ⟨by rw[Ac3 h hx hn],rfl⟩
   | false=>
    simp(disch:=omega)only[go_sem,h0,h1,h7,h8];refine⟨i+1,_,Ri.refl _, ?_,by omega⟩;simp(disch:=omega)only[go_sem,h0,h1,h7,h8];(repeat' apply And.intro)<;>(try first | rfl | assumption | omega);exact Mh h hn hx
  ·simp(disch:=omega)only[go_sem,h0,h1,h7,h8];have:i=l.length:=by omega
   subst this;rw[List.take_length] at hn;exact Es.refl ⟨by rw[Ac4 hn],rfl⟩
theorem Df2 (G:Nat->DVal) (H:Ac) (p:As->Bool) (l:List As) (g:FuncId) (xs h:List DVal) (hl:l.length<=1099511627776)
  (hp: ∀x∈l,Af Tryz.prog G g (xs++ [.agg (dAs x)]++h) H (Au (.bool (p x)) H)):
  Af Tryz.prog G 255 [.vslice (l.flatMap dAs) l.length, .func (.func g) xs h] H (Au (.bool (l.any p)) H):=by
 refine Ab Tryz.func255 Tryz.call255 rfl (by kernel_rfl) ?_;simp(disch:=omega)only[go_sem];refine(Fp3 G H p l g xs h hl hp).mono ?_;rintro _ H ⟨rfl,rfl⟩;simp(disch:=omega)only[go_sem];exact Es.refl ⟨by rw[Vs],rfl⟩
theorem Fp4 (G:Nat->DVal) (H:Ac) (p:Ch->Bool) (l:List Ch) (g:FuncId) (xs y:List DVal) (hl:l.length<=1099511627776)
  (hp: ∀x∈l,Af Tryz.prog G g (xs++ [.agg (dCh x)]++y) H (Au (.bool (p x)) H)):
  Af Tryz.prog G 185 [.vslice (l.flatMap dCh) l.length, .func (.func g) xs y] H (Au (dI (Bc3 p l)) H):=by
 refine Ab Tryz.func185 Tryz.call185 rfl (by kernel_rfl) ?_;simp(disch:=omega)only[go_sem];refine Dn5.run (fun(i:Nat) env heap=>heap=H/\env 0= .vslice (l.flatMap dCh) l.length/\env 1= .func (.func g) xs y/\env 7=dI l.length/\env 8=dI i/\i<=l.length/\ ∀x∈l.take i,p x=false) (fun i=>l.length-i) 0 ?_ ?_
 ·simp(disch:=omega)only[go_sem];simp
 ·rintro i env heap ⟨rfl,h0,h1,h7,h8,hi,hn⟩;by_cases h:i<l.length
  ·have C:=Cu Gh l i h;simp(disch:=omega)only[go_sem,h0,h1,h7,h8,C,Ax Gh];have hc:=hp l[i] (List.getElem_mem h)
   skip
   refine hc.mono ?_;rintro _ H ⟨rfl,rfl⟩;cases hx:p l[i] with
   | true=>
    simp(disch:=omega)only[go_sem,h0,h1,h7,h8];exact Es.refl ⟨by rw[Ac3 h hx hn],rfl⟩
   | false=>
    simp(disch:=omega)only[go_sem,h0,h1,h7,h8];refine⟨i+1,_,Ri.refl _, ?_,by omega⟩;simp(disch:=omega)only[go_sem,h0,h1,h7,h8];(repeat' apply And.intro)<;>(try first | rfl | assumption | omega);exact Mh h hn hx
  ·simp(disch:=omega)only[go_sem,h0,h1,h7,h8];have:i=l.length:=by omega
   subst this;rw[List.take_length] at hn;exact Es.refl ⟨by rw[Ac4 hn],rfl⟩
theorem Bk1 (G:Nat->DVal) (H:Ac) (p:Ch->Bool) (l:List Ch) (g:FuncId) (xs h:List DVal) (hl:l.length<=1099511627776)
  (hp: ∀x∈l,Af Tryz.prog G g (xs++ [.agg (dCh x)]++h) H (Au (.bool (p x)) H)):
  Af Tryz.prog G 74 [.vslice (l.flatMap dCh) l.length, .func (.func g) xs h] H (Au (.bool (l.any p)) H):=by
 refine Ab Tryz.func74 Tryz.call74 rfl (by kernel_rfl) ?_;simp(disch:=omega)only[go_sem];refine(Fp4 G H p l g xs h hl hp).mono ?_;rintro _ H ⟨rfl,rfl⟩;simp(disch:=omega)only[go_sem];exact Es.refl ⟨by rw[Vs],rfl⟩
theorem Bx1: ∀ {l:List As},Tg l=true↔ ∀i (h:i+1<l.length),(l[i].c.isEmpty || !l[i+1].c.isEmpty)=true
 | []=>⟨fun _ i h=>absurd h (by simp),fun _=>rfl⟩
 | [a]=>⟨fun _ i h=>absurd h (by simp),fun _=>rfl⟩
 | a::b::r=>by
  rw[Tg,jF,Bx1 (l:=b::r)];constructor
  ·rintro⟨h1,h2⟩ i h;cases i with
   | zero=>exact h1
   | succ i=>exact h2 i (by simpa using h)
  ·intro h;exact⟨h 0 (by simp),fun i hi=>h (i+1) (by simpa using hi)⟩
theorem Ep {α:Type} (l:List α):l.isEmpty=decide (l.length=0):=by cases l<;>rfl
def Bx2 (a b:As):Int:=(if(a.c.length:Int)<1 then(a.c.length:Int) else 1)-(if(b.c.length:Int)<1 then(b.c.length:Int) else 1)
section
variable {G:Nat->DVal} {H:Ac}
theorem Bt5 (G:Nat->DVal) (H:Ac) (a b:As):Af Tryz.prog G 297 [.agg (dAs a), .agg (dAs b)] H (Au (dI (Bx2 a b)) H):=by
 have hw:IntKind.i64.wrap ((if(a.c.length:Int)<1 then(a.c.length:Int) else 1)-(if(b.c.length:Int)<1 then(b.c.length:Int) else 1))=Bx2 a b:=by unfold Bx2;rw[IntKind.wrap_i64];split<;>split<;>omega
 refine Ab Tryz.func297 Tryz.call297 rfl (by kernel_rfl) ?_;simp(disch:=omega)only[go_sem,DVal.cells];intro E y;dsimp only at y;simp(disch:=omega)only[go_sem,DVal.cells];intro I h;dsimp only at h;obtain⟨C,D,J⟩:=Av.1 h;simp(disch:=omega)only[go_sem,D,C,hw];exact Es.sub (show Sub H _ from(by repeat (first | exact Sub.refl _ | assumption | refine Sub.up ?_ (by assumption) _))) (Es.refl ⟨rfl,rfl⟩)
theorem Bt6 (G:Nat->DVal) (H:Ac) (l:List As) (hl:l.length<=1099511627776):
  Af Tryz.prog G 296 [.vslice (l.flatMap dAs) l.length, .func (.func 297) [] []] H (Au (.bool (Tg l)) H):=by
 have hw:IntKind.i64.wrap ((l.length:Int)-1)=(l.length:Int)-1:=by rw[IntKind.wrap_i64];omega
 refine Ab Tryz.func296 Tryz.call296 rfl (by kernel_rfl) ?_;simp(disch:=omega)only[go_sem,hw];refine Dn5.run (fun(j:Nat) env heap=>heap=H/\env 0= .vslice (l.flatMap dAs) l.length/\env 1= .func (.func 297) [] []/\env 5=dI ((j:Int)-1)/\j<=l.length/\ ∀i (_:j<=i+1) (h:i+1<l.length),(l[i].c.isEmpty || !l[i+1].c.isEmpty)=true) (fun j=>j) l.length ?_ ?_
 ·simp(disch:=omega)only[go_sem];(repeat' apply And.intro)<;>(try first | rfl | assumption | omega)
 ·rintro j env heap ⟨rfl,h0,h1,h5,hj,hn⟩;by_cases L:1<j
  ·obtain⟨i,rfl⟩: ∃i,j=i+2:=⟨j-2,by omega⟩;have D:((i+2:Nat):Int)-1=((i+1:Nat):Int):=by omega
   have E:=Cu Fz l (i+1) (by omega);have I:=Cu Fz l i (by omega);rw[D] at h5;have y:IntKind.i64.wrap (((i+1:Nat):Int)-1)=(i:Int):=by rw[IntKind.wrap_i64];omega
   simp(disch:=omega)only[go_sem,h0,h1,h5];refine Aj (by kernel_rfl) (.take 0 (.take 1 (.take 2 (.take 3 (.take 4 (.take 5 (.take 6 (.take 7 (.take 8 (.take 9 (.go 10 [] (.take 11 .done)))))))))))) (by kernel_rfl) ?_;simp(disch:=omega)only[go_sem,h0,h1,h5,E,I,y,Ax Fz];refine(Bt5 G _ l[i+1] l[i]).mono ?_;rintro _ H ⟨rfl,rfl⟩;by_cases c:Bx2 l[i+1] l[i]<0
   ·simp(disch:=omega)only[go_sem,h0,h1,h5,c];refine Es.refl ⟨?_,rfl⟩;have:Tg l=false:=by
     rw[<-Bool.not_eq_true,Bx1];intro h;have:=h i (by omega);rw[Ep,Ep,Bool.or_eq_true,Bool.not_eq_true',decide_eq_true_eq,decide_eq_false_iff_not] at this;unfold Bx2 at c;split at c<;>split at c<;>omega
    rw[this]
   ·simp(disch:=omega)only[go_sem,h0,h1,h5,y,c];refine⟨i+1,_,Ri.refl _, ?_,by omega⟩;simp(disch:=omega)only[go_sem,h0,h1,h5,y];(repeat' apply And.intro)<;>(try first | rfl | assumption | omega)
    ·rw[show((i+1:Nat):Int)-1=i by omega]
    intro C M J;by_cases e:C=i
    ·subst e;rw[Ep,Ep,Bool.or_eq_true,Bool.not_eq_true',decide_eq_true_eq,decide_eq_false_iff_not];unfold Bx2 at c;split at c<;>split at c<;>omega
    ·exact hn C (by omega) J
  ·have: ¬(0:Int)<(j:Int)-1:=by omega
   simp(disch:=omega)only[go_sem,h0,h1,h5,this];refine Es.refl ⟨?_,rfl⟩;rw[Bx1.2 fun i h=>hn i (by omega) h]
theorem Am9 (G:Nat->DVal) (H:Ac) (l:List As) (hl:l.length<=1099511627776):Af Tryz.prog G 254 [.vslice (l.flatMap dAs) l.length] H (Au (.bool (Tg l)) H):=by
 refine Ab Tryz.func254 Tryz.call254 rfl (by kernel_rfl) ?_;simp(disch:=omega)only[go_sem];refine(Bt6 G _ l hl).mono ?_;rintro _ H1 ⟨rfl,rfl⟩;simp(disch:=omega)only[go_sem];exact Es.refl ⟨rfl,rfl⟩
theorem Bk2 (G:Nat->DVal) (H:Ac) (e:Ex) (k:Nat) (hk:0<k):Af Tryz.prog G 179 [.agg (dEx e), .int .i64 k] H (Au (.bool (Jk e k)) H):=by
 refine Ab Tryz.func179 Tryz.call179 rfl (by kernel_rfl) ?_;simp(disch:=omega)only[go_sem,DVal.cells];intro r hr;dsimp only at hr;by_cases h1:e.l.length=k
 ·have h:(e.l.length:Int)=(k:Int):=by omega
  have hp:0<e.l.length:=by omega
  have hg:=Cu Ad e.l 0 hp;have hfl:=Ax Ad e.l;have y:e.l.getD 0 ex0=e.l[0]:=by rw[List.getD,List.getElem?_eq_getElem hp];rfl
  rw[Nat.zero_mul,jJ] at hg;simp(disch:=omega)only[go_sem,h,hfl,hg];refine(Us G _ e.l[0]).mono ?_;rintro _ H1 ⟨rfl,rfl⟩;simp(disch:=omega)only[go_sem];exact Es.dropA r hr (Es.refl ⟨by rw[Jk,decide_eq_true h1,jS,y],rfl⟩)
 ·have h: ¬(e.l.length:Int)=(k:Int):=by omega
  simp(disch:=omega)only[go_sem,h];exact Es.dropA r hr (Es.refl ⟨by rw[Jk,decide_eq_false h1,jT],rfl⟩)
end
theorem ch0 {l:List Ch} (h:0<l.length):(l.flatMap dCh)[0]? =some (.int .u8 l[0].kind)/\(l.flatMap dCh)[1]? =some (.vslice (l[0].l.flatMap dEx) l[0].l.length):=by
 have h0:=Hw Gh l 0 h 0 (by decide);have h1:=Hw Gh l 0 h 1 (by decide);rw[Fw5] at h0;rw[Ev2] at h1;exact⟨by simpa using h0,by simpa using h1⟩
theorem Gp8 {l:List Ex} (h:0<l.length):(l.flatMap dEx)[0]? =some (.int .u8 l[0].kind):=by
 have h0:=Hw Ad l 0 h 0 (by decide);rw[Fw3] at h0;simpa using h0
section
variable {G:Nat->DVal} {H:Ac}
theorem Cq6 (G:Nat->DVal) (H:Ac) (l:List Ch):Af Tryz.prog G 257 [.vslice (l.flatMap dCh) l.length] H (Au (.bool (Eu l)) H):=by
 have hfl:=Ax Gh l;refine Ab Tryz.func257 Tryz.call257 rfl (by kernel_rfl) ?_;by_cases h1:l.length=1
 ·have h:(l.length:Int)=1:=by omega
  obtain⟨y,C⟩:=ch0 (l:=l) (by omega);obtain⟨c,rfl⟩:=List.length_eq_one_iff.1 h1;rw[List.getElem_cons_zero] at y C;by_cases h2:c.kind=1
  ·by_cases h3:c.l.length=1
   ·have D:(c.l.length:Int)=1:=by omega
    have E:=Gp8 (l:=c.l) (by omega);have I:=Ax Ad c.l;obtain⟨x,hx⟩:=List.length_eq_one_iff.1 h3;have e:c.l[0]=x:=by simp [hx]
    rw[e] at E;have hs:Eu [c]=decide (x.kind=3):=by simp [Eu,h2,hx]
    simp(disch:=omega)only[go_sem,h,hfl,y,C,h2,D,E,I];exact Es.refl ⟨by rw[hs],rfl⟩
   ·have D: ¬(c.l.length:Int)=1:=by omega
    have hs:Eu [c]=false:=by
     rw[Eu];split
     ·rename_i hx;rw[hx] at h3;simp at h3
     ·simp
    simp(disch:=omega)only[go_sem,h,hfl,y,C,h2,D];exact Es.refl ⟨by rw[hs],rfl⟩
  ·simp(disch:=omega)only[go_sem,h,hfl,y,C,h2];exact Es.refl ⟨by simp [Eu,h2],rfl⟩
 ·have h: ¬(l.length:Int)=1:=by omega
  have hs:Eu l=false:=by
   unfold Eu;split
   ·simp at h1
   ·rfl
  simp(disch:=omega)only[go_sem,h];exact Es.refl ⟨by rw[hs],rfl⟩
theorem Bc5 (G:Nat->DVal) (H:Ac) (a:As):Af Tryz.prog G 256 [.agg (dAs a)] H (Au (.bool (!(a.c.isEmpty || Eu a.c))) H):=by
 refine Ab Tryz.func256 Tryz.call256 rfl (by kernel_rfl) ?_;simp(disch:=omega)only[go_sem,DVal.cells];intro r hr;dsimp only at hr;by_cases h1:0<a.c.length
 ·have h:(0:Int)<(a.c.length:Int):=by omega
  have he:a.c.isEmpty=false:=by rw[Ep];exact decide_eq_false (by omega)
  simp(disch:=omega)only[go_sem,h];refine(Cq6 G _ a.c).mono ?_;rintro _ H1 ⟨rfl,rfl⟩;simp(disch:=omega)only[go_sem];exact Es.dropA r hr (Es.refl ⟨by rw[he,Bool.false_or],rfl⟩)
 ·have h: ¬(0:Int)<(a.c.length:Int):=by omega
  have he:a.c.isEmpty=true:=by rw[Ep];exact decide_eq_true (by omega)
  simp(disch:=omega)only[go_sem,h];exact Es.dropA r hr (Es.refl ⟨by rw[he];rfl,rfl⟩)
theorem Ut {α:Type} (p:α->Bool) (l:List α):l.any (fun x=>!p x)=!l.all p:=by
 induction l with
 | nil=>rfl
 | cons x l ih=>rw[List.any_cons,List.all_cons,ih,Bool.not_and]
theorem Bk3 (G:Nat->DVal) (H:Ac) (l:List As) (hl:l.length<=1099511627776):Af Tryz.prog G 180 [.vslice (l.flatMap dAs) l.length] H (Au (.bool (Ns l)) H):=by
 refine Ab Tryz.func180 Tryz.call180 rfl (by kernel_rfl) ?_;by_cases h1:0<l.length
 ·have h:(0:Int)<(l.length:Int):=by omega
  by_cases h2:l.length<=8
  ·have y:(l.length:Int)<=8:=by omega
   simp(disch:=omega)only[go_sem,h,y];refine(Am9 G _ l hl).mono ?_;rintro _ H1 ⟨rfl,rfl⟩;cases h3:Tg l with
   | false=>
    simp(disch:=omega)only[go_sem];exact Es.refl ⟨by rw[Ns,h3,Bool.and_false,jT],rfl⟩
   | true=>
    simp(disch:=omega)only[go_sem];refine(Df2 G _ (fun a=>!(a.c.isEmpty || Eu a.c)) l 256 [] [] hl fun x _=>Bc5 G _ x).mono ?_;rintro _ H1 ⟨rfl,rfl⟩;rw[Ut];simp(disch:=omega)only[go_sem];exact Es.refl ⟨by rw[Ns,h3,decide_eq_true h1,decide_eq_true h2,jS,jS,jS,Bool.not_not],rfl⟩
  ·have y: ¬(l.length:Int)<=8:=by omega
   simp(disch:=omega)only[go_sem,h,y];exact Es.refl ⟨by rw[Ns,decide_eq_false h2,Bool.and_false,jT,jT],rfl⟩
 ·have h: ¬(0:Int)<(l.length:Int):=by omega
  simp(disch:=omega)only[go_sem,h];exact Es.refl ⟨by rw[Ns,decide_eq_false h1,jT,jT,jT],rfl⟩
def Pz:List (DVal×DVal):= [(.int .u8 1, .int .i64 1),(.int .u8 2, .int .i64 2),(.int .u8 3, .int .i64 0)]
theorem Cq7 (G:Nat->DVal) (H:Ac) (n:Nat) (l:List Ch) (c:Ch) (J L M:Nat) (h1:H J=some (.cells [.vslice (l.flatMap dCh) l.length] 41)) (hm:H L=some (.map Pz)) (h3:H M=some (.cells [.omap L] 236)):
  Af Tryz.prog G 184 ([]++ [.agg (dCh c)]++ [.optr M 0, .optr J 0]) H (Au (.bool (!Fj l.length c)) H):=by
 refine Ab Tryz.func184 Tryz.call184 rfl (by kernel_rfl) ?_;simp(disch:=omega)only[go_sem,DVal.cells,jG,jI];intro r hr;dsimp only at hr;have y:J≠r:=Ae hr h1;have C:M≠r:=Ae hr h3;have D:L≠r:=Ae hr hm;by_cases k1:c.kind=1
 ·simp(disch:=omega)only[go_sem,y,C,D,h1,hm,h3,k1,Pz];refine⟨_,rfl, ?_⟩;by_cases q:c.l.length=1
  ·have h:(c.l.length:Int)=1:=by omega
   simp(disch:=omega)only[go_sem,y,C,D,h1,hm,h3,k1,Pz,h];exact Es.dropA r hr (Es.refl ⟨by simp [Fj,k1,q],rfl⟩)
  ·have h: ¬(1:Int)=(c.l.length:Int):=by omega
   simp(disch:=omega)only[go_sem,y,C,D,h1,hm,h3,k1,Pz,h];exact Es.dropA r hr (Es.refl ⟨by simp [Fj,k1,q],rfl⟩)
 by_cases E:c.kind=2
 ·simp(disch:=omega)only[go_sem,y,C,D,h1,hm,h3,E,Pz];refine⟨_,rfl, ?_⟩;by_cases q:c.l.length=2
  ·have h:(c.l.length:Int)=2:=by omega
   simp(disch:=omega)only[go_sem,y,C,D,h1,hm,h3,E,Pz,h];exact Es.dropA r hr (Es.refl ⟨by simp [Fj,E,q],rfl⟩)
  ·have h: ¬(2:Int)=(c.l.length:Int):=by omega
   simp(disch:=omega)only[go_sem,y,C,D,h1,hm,h3,E,Pz,h];exact Es.dropA r hr (Es.refl ⟨by simp [Fj,E,q],rfl⟩)
 by_cases I:c.kind=3
 ·simp(disch:=omega)only[go_sem,y,C,D,h1,hm,h3,I,Pz];refine⟨_,rfl, ?_⟩;by_cases q:c.l.length=0
  ·have h:(c.l.length:Int)=0:=by omega
   simp(disch:=omega)only[go_sem,y,C,D,h1,hm,h3,I,Pz,h];refine Es.dropA r hr (Es.refl ⟨?_,rfl⟩);have e:Fj l.length c=decide (l.length<=1):=by simp [Fj,I,q]
   by_cases q2:l.length<=1
   ·rw[e,decide_eq_true q2,decide_eq_false (show¬(1:Int)<(l.length:Int) by omega)];rfl
   ·rw[e,decide_eq_false q2,decide_eq_true (show(1:Int)<(l.length:Int) by omega)];rfl
  ·have h: ¬(0:Int)=(c.l.length:Int):=by omega
   simp(disch:=omega)only[go_sem,y,C,D,h1,hm,h3,I,Pz,h];exact Es.dropA r hr (Es.refl ⟨by simp [Fj,I,q],rfl⟩)
 ·simp(disch:=omega)only[go_sem,y,C,D,h1,hm,h3,k1,E,I,Pz];exact Es.dropA r hr (Es.refl ⟨by simp [Fj,k1,E,I],rfl⟩)
theorem Ag9 (G:Nat->DVal) (H:Ac) (l:List Ch) (hl:l.length<=1099511627776):Af Tryz.prog G 73 [.vslice (l.flatMap dCh) l.length] H (Au (.bool (Dk l)) H):=by
 refine Ab Tryz.func73 Tryz.call73 rfl (by kernel_rfl) ?_;simp(disch:=omega)only[go_sem,DVal.cells];intro L X;dsimp only at X;simp(disch:=omega)only[go_sem,DVal.cells];intro M O;dsimp only at O;obtain⟨h,y,Z⟩:=Av.1 O;simp(disch:=omega)only[go_sem,DVal.cells,h,y];intro S U;dsimp only at U;obtain⟨C,D,Y⟩:=Av.1 U;obtain⟨E,I,aa⟩:=Av.1 Y;have V:Sub H (upd (upd (upd H L (some (.cells [.vslice (l.flatMap dCh) l.length] 41))) M (some (.map Pz))) S (some (.cells [.omap M] 236))):=((Sub.refl H).new X _ |>.new O _).new U _;by_cases h1:0<l.length
 ·have J:(0:Int)<(l.length:Int):=by omega
  by_cases h2:l.length<=16
  ·have W:(l.length:Int)<=16:=by omega
   simp(disch:=omega)only[go_sem,h,y,C,D,E,I,J,W];refine(Bk1 G _ (fun c=>!Fj l.length c) l 184 [] [.optr S 0, .optr L 0] hl fun x _=>Cq7 G _ l.length l x L M S (by simp [upd,h,y,C,D,E,I]) (by simp [upd,h,y,C,D,E,I,Pz]) (by simp [upd])).mono ?_;rintro _ H1 ⟨rfl,rfl⟩;rw[Ut];simp(disch:=omega)only[go_sem,h,y,C,D,E,I];exact Es.sub V (Es.refl ⟨by rw[Dk,decide_eq_true h1,decide_eq_true h2,jS,jS,Bool.not_not],rfl⟩)
  ·have W: ¬(l.length:Int)<=16:=by omega
   simp(disch:=omega)only[go_sem,h,y,C,D,E,I,J,W];exact Es.sub V (Es.refl ⟨by rw[Dk,decide_eq_false h2,Bool.and_false,jT],rfl⟩)
 ·have J: ¬(0:Int)<(l.length:Int):=by omega
  simp(disch:=omega)only[go_sem,h,y,C,D,E,I,J];exact Es.sub V (Es.refl ⟨by rw[Dk,decide_eq_false h1,jT,jT],rfl⟩)
end
theorem Zs {l:List Ch} (h:0<l.length):Oc l=decide (l[0].kind=3):=by
 cases l with
 | nil=>simp at h
 | cons c l=>rfl
theorem Bk4 {l:List As} {k:Nat} (hk:k<l.length):Hy (l.drop k)=((l[k].c.isEmpty || Dk l[k].c&&(!Oc l[k].c || decide (k+1=l.length)))&&Hy (l.drop (k+1))):=by
 rw[List.drop_eq_getElem_cons hk,Hy,Ep (l.drop (k+1)),List.length_drop];have:(l.length-(k+1)=0)↔k+1=l.length:=by omega
 simp only[this]
theorem Cq8 {l:List As}:Ur l=(decide (l.length=1)&&(l.getD 0 default).c.isEmpty):=
 match l with
 | []=>rfl
 | [a]=>by simp [Ur]
 | a::b::l=>by simp [Ur]
theorem as0 {l:List As} (h:0<l.length):(l.flatMap dAs)[0]? =some (.vslice (l[0].c.flatMap dCh) l[0].c.length):=by
 have h0:=Hw Fz l 0 h 0 (by decide);rw[Fw4] at h0;simpa using h0
section
variable {G:Nat->DVal} {H:Ac}
theorem An0 (G:Nat->DVal) (H:Ac) (l:List As) (hl:l.length<=1099511627776) (hb: ∀a∈l,a.c.length<=1099511627776):Af Tryz.prog G 181 [.vslice (l.flatMap dAs) l.length] H (Au (.bool (Ip l)) H):=by
 refine Ab Tryz.func181 Tryz.call181 rfl (by kernel_rfl) ?_;by_cases h1:l.length=0
 ·have aa:(l.length:Int)=0:=by omega
  simp(disch:=omega)only[go_sem,aa];exact Es.refl ⟨by rw[Ip,decide_eq_false (show¬0<l.length by omega),jT,jT,jT,jT],rfl⟩
 have aa: ¬(l.length:Int)=0:=by omega
 have ab:0<l.length:=by omega
 by_cases h2:32<l.length
 ·have ac:(32:Int)<(l.length:Int):=by omega
  simp(disch:=omega)only[go_sem,aa,ac];exact Es.refl ⟨by rw[Ip,decide_eq_false (show¬l.length<=32 by omega),Bool.and_false,jT,jT,jT],rfl⟩
 have ac: ¬(32:Int)<(l.length:Int):=by omega
 simp(disch:=omega)only[go_sem,aa,ac];refine(Am9 G _ l hl).mono ?_;rintro _ H1 ⟨rfl,rfl⟩;have hd:Ip l=(Tg l&&(!(decide (l.length=1)&&(l.getD 0 default).c.isEmpty)&&Hy l)):=by
  rw[Ip,decide_eq_true ab,decide_eq_true (show l.length<=32 by omega),jS,jS,Cq8,Bool.and_assoc]
 rw[hd];cases h3:Tg l with
 | false=>
  simp(disch:=omega)only[go_sem];exact Es.refl ⟨rfl,rfl⟩
 | true=>
  have ah:=as0 ab;have ai:l.getD 0 default=l[0]:=by rw[List.getD,List.getElem?_eq_getElem ab];rfl
  have hfl:=Ax Fz l;rw[ai];by_cases h4:l.length=1/\l[0].c.length=0
  ·have aj:(l.length:Int)=1:=by omega
   have ak:(l[0].c.length:Int)=0:=by omega
   have e4:l[0].c.isEmpty=true:=by rw[Ep];exact decide_eq_true h4.2
   simp(disch:=omega)only[go_sem,aj,ak,ah,hfl];exact Es.refl ⟨by simp [e4],rfl⟩
  ·have e4:(decide (l.length=1)&&l[0].c.isEmpty)=false:=by
    rw[Ep,<-Bool.decide_and];exact decide_eq_false h4
   rw[e4];by_cases h5:l.length=1
   ·have ad:((l.length:Int)=1)=True:=eq_true (by omega);have al: ¬(l[0].c.length:Int)=0:=by omega
    simp(disch:=omega)only[go_sem,ad,al,ah,hfl];obtain⟨I,M⟩: ∃I:Nat->(Nat->DVal)->Ac->Prop,∀k env heap,I k env heap↔(env 0= .vslice (l.flatMap dAs) l.length/\env 31= .vslice (l.flatMap dAs) l.length/\env 32=dI l.length/\env 33=dI k/\k<=l.length/\Hy l=Hy (l.drop k)/\Sub H1 heap):=⟨_,fun _ _ _=>Iff.rfl⟩;refine Dn5.run I (fun k=>l.length-k) 0 ((M _ _ _).2 ?_) ?_
    ·simp(disch:=omega)only[go_sem];(repeat' apply And.intro)<;>(try first | rfl | assumption | omega);exact Sub.refl _
    ·intro k env heap hi;obtain⟨y,C,D,E,hk,h,J⟩:=(M _ _ _).1 hi;by_cases S:k<l.length
     ·have ae:(k:Int)<(l.length:Int):=by omega
      have af:=Cu Fz l k S;have U:IntKind.i64.wrap ((k:Int)+1)=((k+1:Nat):Int):=by rw[IntKind.wrap_i64];omega
      have Z:IntKind.i64.wrap ((l.length:Int)-1)=(l.length:Int)-1:=by rw[IntKind.wrap_i64];omega
      have ag:=hb l[k] (List.getElem_mem S);rw[Bk4 S] at h;simp(disch:=omega)only[go_sem,y,C,D,E,ae,af,hfl,jD];intro r4 L;dsimp only at L;by_cases q1:0<l[k].c.length
      ·have V:(0:Int)<(l[k].c.length:Int):=by omega
       have e1:l[k].c.isEmpty=false:=by rw[Ep];exact decide_eq_false (by omega)
       rw[e1,Bool.false_or] at h;simp(disch:=omega)only[go_sem,y,C,D,E,V];refine(Ag9 G _ l[k].c ag).mono ?_;rintro _ H2 ⟨rfl,rfl⟩;cases q2:Dk l[k].c with
       | false=>
        rw[q2,jT,jT] at h;simp(disch:=omega)only[go_sem,y,C,D,E];exact Es.sub (J.new L _) (Es.refl ⟨by rw[h],rfl⟩)
       | true=>
        obtain⟨W,_⟩:=ch0 q1;have X:=Ax Gh l[k].c;rw[q2,jS,Zs q1] at h;by_cases O:l[k].c[0].kind=3
        ·rw[decide_eq_true O,Bool.not_true,Bool.false_or] at h;by_cases q4:k+1=l.length
         ·have Y: ¬(k:Int)<(l.length:Int)-1:=by omega
          rw[decide_eq_true q4,jS] at h;simp(disch:=omega)only[go_sem,y,C,D,E,W,X,O,Y,Z];refine⟨k+1,_,Ri.refl _,(M _ _ _).2 ?_,by omega⟩;simp(disch:=omega)only[go_sem,y,C,D,E,U];(repeat' apply And.intro)<;>(try first | rfl | assumption | omega);all_goals exact J.new L _
         ·have Y:(k:Int)<(l.length:Int)-1:=by omega
          rw[decide_eq_false q4,jT] at h;simp(disch:=omega)only[go_sem,y,C,D,E,W,X,O,Y,Z];exact Es.sub (J.new L _) (Es.refl ⟨by rw[h],rfl⟩)
        ·rw[decide_eq_false O,Bool.not_false,Bool.true_or,jS] at h;simp(disch:=omega)only[go_sem,y,C,D,E,W,X,O];refine⟨k+1,_,Ri.refl _,(M _ _ _).2 ?_,by omega⟩;simp(disch:=omega)only[go_sem,y,C,D,E,U];(repeat' apply And.intro)<;>(try first | rfl | assumption | omega);all_goals exact J.new L _
      ·have V: ¬(0:Int)<(l[k].c.length:Int):=by omega
       have e1:l[k].c.isEmpty=true:=by rw[Ep];exact decide_eq_true (by omega)
       rw[e1,Bool.true_or,jS] at h;simp(disch:=omega)only[go_sem,y,C,D,E,V];refine⟨k+1,_,Ri.refl _,(M _ _ _).2 ?_,by omega⟩;simp(disch:=omega)only[go_sem,y,C,D,E,U];(repeat' apply And.intro)<;>(try first | rfl | assumption | omega);all_goals exact J.new L _
     ·have:k=l.length:=by omega
      subst this;rw[List.drop_length] at h;simp(disch:=omega)only[go_sem,y,C,D,E];exact Es.sub J (Es.refl ⟨by rw[h];rfl,rfl⟩)
   ·have ad: ¬(l.length:Int)=1:=by omega
    simp(disch:=omega)only[go_sem,ad];obtain⟨I,M⟩: ∃I:Nat->(Nat->DVal)->Ac->Prop,∀k env heap,I k env heap↔(env 0= .vslice (l.flatMap dAs) l.length/\env 31= .vslice (l.flatMap dAs) l.length/\env 32=dI l.length/\env 33=dI k/\k<=l.length/\Hy l=Hy (l.drop k)/\Sub H1 heap):=⟨_,fun _ _ _=>Iff.rfl⟩;refine Dn5.run I (fun k=>l.length-k) 0 ((M _ _ _).2 ?_) ?_
    ·simp(disch:=omega)only[go_sem];(repeat' apply And.intro)<;>(try first | rfl | assumption | omega);exact Sub.refl _
    ·intro k env heap hi;obtain⟨y,C,D,E,hk,h,J⟩:=(M _ _ _).1 hi;by_cases S:k<l.length
     ·have ae:(k:Int)<(l.length:Int):=by omega
      have af:=Cu Fz l k S;have U:IntKind.i64.wrap ((k:Int)+1)=((k+1:Nat):Int):=by rw[IntKind.wrap_i64];omega
      have Z:IntKind.i64.wrap ((l.length:Int)-1)=(l.length:Int)-1:=by rw[IntKind.wrap_i64];omega
      have ag:=hb l[k] (List.getElem_mem S);rw[Bk4 S] at h;simp(disch:=omega)only[go_sem,y,C,D,E,ae,af,hfl,jD];intro r4 L;dsimp only at L;by_cases q1:0<l[k].c.length
      ·have V:(0:Int)<(l[k].c.length:Int):=by omega
       have e1:l[k].c.isEmpty=false:=by rw[Ep];exact decide_eq_false (by omega)
       rw[e1,Bool.false_or] at h;simp(disch:=omega)only[go_sem,y,C,D,E,V];refine(Ag9 G _ l[k].c ag).mono ?_;rintro _ H2 ⟨rfl,rfl⟩;cases q2:Dk l[k].c with
       | false=>
        rw[q2,jT,jT] at h;simp(disch:=omega)only[go_sem,y,C,D,E];exact Es.sub (J.new L _) (Es.refl ⟨by rw[h],rfl⟩)
       | true=>
        obtain⟨W,_⟩:=ch0 q1;have X:=Ax Gh l[k].c;rw[q2,jS,Zs q1] at h;by_cases O:l[k].c[0].kind=3
        ·rw[decide_eq_true O,Bool.not_true,Bool.false_or] at h;by_cases q4:k+1=l.length
         ·have Y: ¬(k:Int)<(l.length:Int)-1:=by omega
          rw[decide_eq_true q4,jS] at h;simp(disch:=omega)only[go_sem,y,C,D,E,W,X,O,Y,Z];refine⟨k+1,_,Ri.refl _,(M _ _ _).2 ?_,by omega⟩;simp(disch:=omega)only[go_sem,y,C,D,E,U];(repeat' apply And.intro)<;>(try first | rfl | assumption | omega);all_goals exact J.new L _
         ·have Y:(k:Int)<(l.length:Int)-1:=by omega
          rw[decide_eq_false q4,jT] at h;simp(disch:=omega)only[go_sem,y,C,D,E,W,X,O,Y,Z];exact Es.sub (J.new L _) (Es.refl ⟨by rw[h],rfl⟩)
        ·rw[decide_eq_false O,Bool.not_false,Bool.true_or,jS] at h;simp(disch:=omega)only[go_sem,y,C,D,E,W,X,O];refine⟨k+1,_,Ri.refl _,(M _ _ _).2 ?_,by omega⟩;simp(disch:=omega)only[go_sem,y,C,D,E,U];(repeat' apply And.intro)<;>(try first | rfl | assumption | omega);all_goals exact J.new L _
      ·have V: ¬(0:Int)<(l[k].c.length:Int):=by omega
       have e1:l[k].c.isEmpty=true:=by rw[Ep];exact decide_eq_true (by omega)
       rw[e1,Bool.true_or,jS] at h;simp(disch:=omega)only[go_sem,y,C,D,E,V];refine⟨k+1,_,Ri.refl _,(M _ _ _).2 ?_,by omega⟩;simp(disch:=omega)only[go_sem,y,C,D,E,U];(repeat' apply And.intro)<;>(try first | rfl | assumption | omega);all_goals exact J.new L _
     ·have:k=l.length:=by omega
      subst this;rw[List.drop_length] at h;simp(disch:=omega)only[go_sem,y,C,D,E];exact Es.sub J (Es.refl ⟨by rw[h];rfl,rfl⟩)
end
def Df3 {σ:Type} (R:Ex->σ->Bool->σ->Prop):List Ex->σ->Bool->σ->Prop
 | [],s,b,s'=>b=true/\s'=s
 | x::l,s,b,s'=> ∃b1 s1,R x s b1 s1/\((b1=true/\Df3 R l s1 b s')\/(b1=false/\b=false/\s'=s1))
def Az8 {σ:Type} (R:Ex->σ->Bool->σ->Prop) (all:List Ex) (s0:σ) (rest:List Ex) (s:σ):Prop:= ∀b s',Df3 R rest s b s'->Df3 R all s0 b s'
section
variable {σ:Type} {R:Ex->σ->Bool->σ->Prop} {all rest:List Ex} {s0 s s1:σ} {x:Ex}
theorem Az8.next (h:Az8 R all s0 (x::rest) s) (k:R x s true s1):Az8 R all s0 rest s1:=fun b s' hr=>h b s' ⟨true,s1,k, .inl ⟨rfl,hr⟩⟩
theorem Az8.no (h:Az8 R all s0 (x::rest) s) (k:R x s false s1):Df3 R all s0 false s1:=h false s1 ⟨false,s1,k, .inr ⟨rfl,rfl,rfl⟩⟩
theorem Az8.fin (h:Az8 R all s0 [] s):Df3 R all s0 true s:=h true s ⟨rfl,rfl⟩
end
def Yo (r:Nat) (H H':Ac):Prop:= ∀b o,b≠r->H b=some o->H' b=some o
theorem Yo.refl (r:Nat) (H:Ac):Yo r H H:=fun _ _ _ h=>h
theorem Yo.trans {r:Nat} {H H' y:Ac} (h:Yo r H H') (k:Yo r H' y):Yo r H y:=fun b o hb hh=>k b o hb (h b o hb hh)
theorem Yo.new {r:Nat} {H H':Ac} (h:Yo r H H') {q:Nat} (y:H' q=none) (x:Option DObj):Yo r H (upd H' q x):=fun b o hb hh=>by
 have:=h b o hb hh;have:b≠q:=fun e=>by rw[e,y] at this;cases this
 simp only[upd,if_neg this];exact h b o hb hh
theorem Yo.set {r:Nat} {H H':Ac} (h:Yo r H H') (x:Option DObj):Yo r H (upd H' r x):=fun b o hb hh=>by
 simp only[upd,if_neg hb];exact h b o hb hh
theorem Yo.sub {r:Nat} {H H':Ac} (h:Yo r H H') {H0:Ac} (k:Sub H0 H) (hr:H0 r=none):Sub H0 H':=fun b o hb=>h b o (fun e=>by rw[e,hr] at hb;cases hb) (k b o hb)
def Vy (s:Int):DObj:= .cells [.int .i64 s] 3
section
variable {G:Nat->DVal}
def Gm4 (R:Ex->Int->Bool->Int->Prop) (all:List Ex) (s0:Int) (r:Nat) (H0:Ac) (e:DEnd) (H':Ac):Prop:=
 ∃b s',e= .ret (.bool b)/\Df3 R all s0 b s'/\H' r=some (Vy s')/\Yo r H0 H'
def Fw8 (R:Ex->Int->Bool->Int->Prop) (x:Ex) (s:Int) (r:Nat) (H:Ac) (e:DEnd) (H':Ac):Prop:=
 ∃b s',e= .ret (.bool b)/\R x s b s'/\H' r=some (Vy s')/\Yo r H H'
set_option maxHeartbeats 4000000 in
theorem Ec6 (G:Nat->DVal) (H0:Ac) (e:Ex) (hb:Fh e<=1099511627776) (g:FuncId) (xs ys:List DVal) (R:Ex->Int->Bool->Int->Prop) (r:Nat) (s0:Int) (hr:H0 r=some (Vy s0))
  (hf: ∀x∈parts e,∀s H,H r=some (Vy s)->Yo r H0 H->Af Tryz.prog G g (xs++ [.agg (dEx x)]++ys) H (Fw8 R x s r H)):
  Af Tryz.prog G 70 [.agg (dEx e), .func (.func g) xs ys] H0 (Gm4 R (parts e) s0 r H0):=by
 have bm:= @Fw7 e;have bn:= @Fw6 e;have hfl:=Ax Ad e.l;have a5:=Ax Fz e.a;refine Ab Tryz.func70 Tryz.call70 rfl (by kernel_rfl) ?_;simp(disch:=omega)only[go_sem,DVal.cells];intro Y ao;dsimp only at ao;have n2:r≠Y:=Ae ao hr;have a0:Y≠r:=n2.symm;simp(disch:=omega)only[go_sem];obtain⟨I,hI⟩: ∃I:Nat×Int->(Nat->DVal)->Ac->Prop,∀k env heap,I k env heap↔(env 1= .func (.func g) xs ys/\env 2= .optr Y 0/\env 14= .vslice (e.l.flatMap dEx) e.l.length/\env 15=dI e.l.length/\env 16=dI k.1/\k.1<=e.l.length/\heap r=some (Vy k.2)/\heap Y=some (.cells (dEx e) 27)/\Yo r H0 heap/\Az8 R (parts e) s0 (e.l.drop k.1++e.a.flatMap Fb) k.2):=⟨_,fun _ _ _=>Iff.rfl⟩;refine Dn5.run I (fun k=>e.l.length-k.1) (0,s0) ((hI _ _ _).2 ?_) ?_
 ·simp(disch:=omega)only[go_sem,n2,a0];(repeat' apply And.intro)<;>(try first | rfl | assumption | omega)
  ·exact(Yo.refl r H0).new ao _
  ·exact fun b s' h=>h
 ·rintro⟨k,s⟩ env heap hi;obtain⟨e1,Z,ac,ad,aa,hk,hh,ai,ht,hc⟩:=(hI _ _ _).1 hi;dsimp only at aa hk hh hc;by_cases ap:k<e.l.length
  ·have a6:(k:Int)<(e.l.length:Int):=by omega
   have V:=Cu Ad e.l k ap;have a7:IntKind.i64.wrap ((k:Int)+1)=((k+1:Nat):Int):=by rw[IntKind.wrap_i64];omega
   rw[List.drop_eq_getElem_cons ap,jI] at hc;simp(disch:=omega)only[go_sem,e1,Z,ac,ad,aa,a6,V,hfl,jD];intro r6 aj;dsimp only at aj;have n6:r≠r6:=Ae aj hh;have a8:Y≠r6:=Ae aj ai;have aq:=ht.new aj (some (.cells (dEx e.l[k]) 27));simp(disch:=omega)only[go_sem,e1,Z,ac,ad,aa];refine(hf e.l[k] (Be (List.getElem_mem ap)) s _ (by simp only[upd,if_neg n6];exact hh) aq).mono ?_;rintro _ H2 ⟨b,s1,rfl,X,ag,U⟩;have bo:H2 Y=some (.cells (dEx e) 27):=U Y _ a0 (by simp only[upd,if_neg a8];exact ai);cases b with
   | false=>
    simp(disch:=omega)only[go_sem,e1,Z,ac,ad,aa];exact Es.refl ⟨false,s1,rfl,hc.no X,ag,aq.trans U⟩
   | true=>
    simp(disch:=omega)only[go_sem,e1,Z,ac,ad,aa];refine⟨(k+1,s1),_,Ri.refl _,(hI _ _ _).2 ?_,by dsimp only;omega⟩;simp(disch:=omega)only[go_sem,e1,Z,ac,ad,aa,a7];(repeat' apply And.intro)<;>(try first | rfl | assumption | omega)
    ·exact aq.trans U
    ·exact hc.next X
  ·have:k=e.l.length:=by omega
   subst this;rw[List.drop_length,jG] at hc;simp(disch:=omega)only[go_sem,e1,Z,ac,ad,aa,ai];obtain⟨J,hJ⟩: ∃J:Nat×Int->(Nat->DVal)->Ac->Prop,∀k env heap,J k env heap↔(env 1= .func (.func g) xs ys/\env 26= .vslice (e.a.flatMap dAs) e.a.length/\env 27=dI e.a.length/\env 28=dI k.1/\k.1<=e.a.length/\heap r=some (Vy k.2)/\Yo r H0 heap/\Az8 R (parts e) s0 ((e.a.drop k.1).flatMap Fb) k.2):=⟨_,fun _ _ _=>Iff.rfl⟩;refine Dn5.run J (fun k=>e.a.length-k.1) (0,s) ((hJ _ _ _).2 ?_) ?_
   ·simp(disch:=omega)only[go_sem,e1,Z,ai];(repeat' apply And.intro)<;>(try first | rfl | assumption | omega)
   ·rintro⟨j,s⟩ env heap hi;obtain⟨e1,C,D,y,hj,hh,ht,hc⟩:=(hJ _ _ _).1 hi;dsimp only at y hj hh hc;by_cases ar:j<e.a.length
    ·have a9:(j:Int)<(e.a.length:Int):=by omega
     have V:=Cu Fz e.a j ar;have ba:IntKind.i64.wrap ((j:Int)+1)=((j+1:Nat):Int):=by rw[IntKind.wrap_i64];omega
     have ak:=List.getElem_mem ar;have a1:=Df1 ak;obtain⟨a,ha⟩: ∃a,a=e.a[j]:=⟨_,rfl⟩;rw[List.drop_eq_getElem_cons ar,List.flatMap_cons,Fb,jO,<-ha] at hc;rw[<-ha] at V ak a1;have bp:=Vx a.c;have bb:=Ax Gh a.c;rw[Am7] at a1;simp(disch:=omega)only[go_sem,e1,C,D,y,a9,V,a5,jD];intro W au;dsimp only at au;have n8:r≠W:=Ae au hh;have bq:=ht.new au (some (.cells (dAs a) 44));simp(disch:=omega)only[go_sem,e1,C,D,y];obtain⟨K,hK⟩: ∃K:Nat×Int->(Nat->DVal)->Ac->Prop,∀k env heap,K k env heap↔(env 1= .func (.func g) xs ys/\env 8= .optr W 0/\env 26= .vslice (e.a.flatMap dAs) e.a.length/\env 27=dI e.a.length/\env 28=dI j/\env 33= .vslice (a.c.flatMap dCh) a.c.length/\env 34=dI a.c.length/\env 35=dI k.1/\k.1<=a.c.length/\heap r=some (Vy k.2)/\heap W=some (.cells (dAs a) 44)/\Yo r H0 heap/\Az8 R (parts e) s0 ((a.c.drop k.1).flatMap Ch.l++([a.e]++(e.a.drop (j+1)).flatMap Fb)) k.2):=⟨_,fun _ _ _=>Iff.rfl⟩;refine Dn5.run K (fun k=>a.c.length-k.1) (0,s) ((hK _ _ _).2 ?_) ?_
     ·simp(disch:=omega)only[go_sem,e1,C,D,y,n8];(repeat' apply And.intro)<;>(try first | rfl | assumption | omega)
     ·rintro⟨m,s⟩ env heap hi;obtain⟨e1,L,C,D,y,O,S,E,hm,hh,ah,ht,hc⟩:=(hK _ _ _).1 hi;dsimp only at E hm hh hc;by_cases av:m<a.c.length
      ·have bc:(m:Int)<(a.c.length:Int):=by omega
       have V:=Cu Gh a.c m av;have bd:IntKind.i64.wrap ((m:Int)+1)=((m+1:Nat):Int):=by rw[IntKind.wrap_i64];omega
       have aw:=List.getElem_mem av;have a2:=Vv aw;obtain⟨c,hcc⟩: ∃c,c=a.c[m]:=⟨_,rfl⟩;rw[List.drop_eq_getElem_cons av,List.flatMap_cons,jO,<-hcc] at hc;rw[<-hcc] at V aw a2;have br:=Vw c.l;have be:=Ax Ad c.l;rw[Xh] at a2;simp(disch:=omega)only[go_sem,e1,L,C,D,y,O,S,E,bc,V,bb,jD];intro a3 al;dsimp only at al;have bf:r≠a3:=Ae al hh;have bg:W≠a3:=Ae al ah;have bs:=ht.new al (some (.cells (dCh c) 47));simp(disch:=omega)only[go_sem,e1,L,C,D,y,O,S,E];obtain⟨M,hM⟩: ∃M:Nat×Int->(Nat->DVal)->Ac->Prop,∀k env heap,M k env heap↔(env 1= .func (.func g) xs ys/\env 8= .optr W 0/\env 26= .vslice (e.a.flatMap dAs) e.a.length/\env 27=dI e.a.length/\env 28=dI j/\env 33= .vslice (a.c.flatMap dCh) a.c.length/\env 34=dI a.c.length/\env 35=dI m/\env 40= .vslice (c.l.flatMap dEx) c.l.length/\env 41=dI c.l.length/\env 42=dI k.1/\k.1<=c.l.length/\heap r=some (Vy k.2)/\heap W=some (.cells (dAs a) 44)/\Yo r H0 heap/\Az8 R (parts e) s0 (c.l.drop k.1++((a.c.drop (m+1)).flatMap Ch.l++([a.e]++(e.a.drop (j+1)).flatMap Fb))) k.2):=⟨_,fun _ _ _=>Iff.rfl⟩;refine Dn5.run M (fun k=>c.l.length-k.1) (0,s) ((hM _ _ _).2 ?_) ?_
       ·simp(disch:=omega)only[go_sem,e1,L,C,D,y,O,S,E,bf,bg];(repeat' apply And.intro)<;>(try first | rfl | assumption | omega)
       ·rintro⟨q,s⟩ env heap hi;obtain⟨e1,L,C,D,y,O,S,E,ae,af,ab,hq,hh,ah,ht,hc⟩:=(hM _ _ _).1 hi;dsimp only at ab hq hh hc;by_cases ax:q<c.l.length
        ·have bh:(q:Int)<(c.l.length:Int):=by omega
         have V:=Cu Ad c.l q ax;have bi:IntKind.i64.wrap ((q:Int)+1)=((q+1:Nat):Int):=by rw[IntKind.wrap_i64];omega
         rw[List.drop_eq_getElem_cons ax,jI] at hc;simp(disch:=omega)only[go_sem,e1,L,C,D,y,O,S,E,ae,af,ab,bh,V,be,jD];intro a4 am;dsimp only at am;have bj:r≠a4:=Ae am hh;have bk:W≠a4:=Ae am ah;have ay:=ht.new am (some (.cells (dEx c.l[q]) 27));simp(disch:=omega)only[go_sem,e1,L,C,D,y,O,S,E,ae,af,ab];refine(hf c.l[q] (Lq ak (Sa aw (List.getElem_mem ax))) s _ (by simp only[upd,if_neg bj];exact hh) ay).mono ?_;rintro _ H2 ⟨b,s1,rfl,X,ag,U⟩;have bt:H2 W=some (.cells (dAs a) 44):=U W _ n8.symm (by simp only[upd,if_neg bk];exact ah);cases b with
         | false=>
          simp(disch:=omega)only[go_sem,e1,L,C,D,y,O,S,E,ae,af,ab];exact Es.refl ⟨false,s1,rfl,hc.no X,ag,ay.trans U⟩
         | true=>
          simp(disch:=omega)only[go_sem,e1,L,C,D,y,O,S,E,ae,af,ab];refine⟨(q+1,s1),_,Ri.refl _,(hM _ _ _).2 ?_,by dsimp only;omega⟩;simp(disch:=omega)only[go_sem,e1,L,C,D,y,O,S,E,ae,af,ab,bi];(repeat' apply And.intro)<;>(try first | rfl | assumption | omega)
          ·exact ay.trans U
          ·exact hc.next X
        ·have:q=c.l.length:=by omega
         subst this;rw[List.drop_length,jG] at hc;simp(disch:=omega)only[go_sem,e1,L,C,D,y,O,S,E,ae,af,ab];refine⟨(m+1,s),_,Ri.refl _,(hK _ _ _).2 ?_,by dsimp only;omega⟩;simp(disch:=omega)only[go_sem,e1,L,C,D,y,O,S,E,bd];(repeat' apply And.intro)<;>(try first | rfl | assumption | omega)
      ·have:m=a.c.length:=by omega
       subst this;rw[List.drop_length,List.flatMap_nil,jG,jI,jG] at hc;have bl:=Cq4 a;simp(disch:=omega)only[go_sem,e1,L,C,D,y,O,S,E,ah,bl];refine(hf a.e (Lq ak (Ow a)) s _ hh ht).mono ?_;rintro _ H2 ⟨b,s1,rfl,X,ag,U⟩;cases b with
       | false=>
        simp(disch:=omega)only[go_sem,e1,L,C,D,y,O,S,E];exact Es.refl ⟨false,s1,rfl,hc.no X,ag,ht.trans U⟩
       | true=>
        simp(disch:=omega)only[go_sem,e1,L,C,D,y,O,S,E];refine⟨(j+1,s1),_,Ri.refl _,(hJ _ _ _).2 ?_,by dsimp only;omega⟩;simp(disch:=omega)only[go_sem,e1,L,C,D,y,O,S,E,ba];(repeat' apply And.intro)<;>(try first | rfl | assumption | omega)
        ·exact ht.trans U
        ·exact hc.next X
    ·have:j=e.a.length:=by omega
     subst this;rw[List.drop_length,List.flatMap_nil] at hc;simp(disch:=omega)only[go_sem,e1,C,D,y];exact Es.refl ⟨true,s,rfl,hc.fin,hh,ht⟩
end
end Go.Dl
