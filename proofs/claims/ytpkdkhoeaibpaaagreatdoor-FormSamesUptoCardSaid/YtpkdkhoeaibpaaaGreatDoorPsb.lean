/- The data level and the contracts of the functions that are reached (part 2). -/
import Derived.Laws.BytesString
import Derived.Laws.RangeString
import Derived.Orders
import Derived.Test.YtpkdkhoeaibpaaaGreatDoorPsa
set_option linter.unusedSimpArgs false
set_option linter.unusedVariables false
set_option linter.unusedSectionVars false
-- THE DATA LEVEL, PART U: append.
namespace Go.Dl
open Go
section
variable {P:Program} {G:Nat->DVal} {N:Fr}
variable {o:Oper} {s:DS} {a:Act} {w:World} {K:DK} {Q:DExit->DS->Prop} {Qx:Exit->Act->World->Prop}
def At8 (P:Program) (w:World) (size:Nat) (x:Value) (n:Nat) (vs:List Value):Prop:=
 (Builtin.lenOf x).run P w= .ok n w/\ ∀k,(Builtin.firstCells size n x).run P { w with drawn:=k }= .ok vs.toArray { w with drawn:=k }
theorem Na {b off k:Nat} {xs:List Value} (h:Fd w b off xs):Fd { w with drawn:=k } b off xs:=h
theorem At9 {size:Nat} {y:DVal} {v:Value} {H:Aa} (hH:Aw w H) (hv:Rel w H y v) {n:Nat} {news:List DVal} (hs:Ja size H y=some (n,news)) (hl:news.length=n*size):
  ∃vs,At8 P w size v n vs/\Ap w H news vs:=by
 unfold Ja at hs;split at hs
 ·cases hs;simp only[Rel] at hv;subst hv;exact⟨[],⟨by simp [Builtin.lenOf],fun k=>by simp [Builtin.firstCells]⟩,by simp [Ap]⟩
 ·cases hs;simp only[Rel] at hv;obtain⟨ad,cap,rfl,_,hc⟩:=hv;rcases hc with rfl | ⟨b,o',xs,rfl,hc,hr⟩
  ·have hz:n*size=0:=by simpa using hl.symm
   refine⟨[],⟨by simp [Builtin.lenOf],fun k=> ?_⟩,by simp [Ap]⟩;cases ad with
   | none=>simp [Builtin.firstCells]
   | some ad=>
    simp [Builtin.firstCells,hz,loadCells,loadCellsFrom]
  ·refine⟨xs.take (n*size),⟨by simp [Builtin.lenOf],fun k=> ?_⟩,hr.take _⟩;have hlx:=hr.length;have hlen:(xs.take (n*size)).length=n*size:=by
    simp only[List.length_take] at hl⊢;omega
   have:=Cc (P:=P) (w:= { w with drawn:=k }) (Fd.take (n:=n*size) (Na hc.holds));rw[hlen] at this;simpa [Builtin.firstCells] using this
 ·rename_i sz r off n' lo
  unfold Kp at hs;split at hs<;>try (cases hs;done)
  rename_i cs e hh
  cases hs;simp only[Rel] at hv;obtain⟨o',cap,rfl,_,hcap,hoff,_⟩:=hv;obtain⟨xs,hr,hho⟩:=hH.holds hh;by_cases hc0:cap=0
  ·have hn:n=0:=by omega
   subst hn;refine⟨[],⟨by simp [Builtin.lenOf],fun k=>by simp [Builtin.firstCells,loadCells,loadCellsFrom]⟩, ?_⟩;simp [Ap]
  ·have:o'=off:=hoff.resolve_left hc0;subst this;refine⟨(xs.drop o').take (n*size),⟨by simp [Builtin.lenOf],fun k=> ?_⟩,(hr.drop _).take _⟩;have hlx:=hr.length;have hlen:((xs.drop o').take (n*size)).length=n*size:=by
    simp only[List.length_take,List.length_drop] at hl⊢;omega
   have h1:Fd w r o' (xs.drop o'):=by simpa using hho.drop (n:=o')
   have:=Cc (P:=P) (w:= { w with drawn:=k }) (Fd.take (n:=n*size) (Na h1));rw[hlen] at this;simpa [Builtin.firstCells] using this
 ·rename_i l
  cases hs;simp only[Rel] at hv;subst hv;have hsz:(ByteArray.mk ⟨l⟩).size=l.length:=rfl;refine⟨l.map fun b=> .int .u8 b.toNat,⟨by simp [Builtin.lenOf,hsz],fun k=> ?_⟩, ?_⟩
  ·simp [Builtin.firstCells]
  ·refine Ap.mk (by simp) fun i d x h1 h2=> ?_;simp only[List.getElem?_map,Option.map_eq_some_iff] at h1 h2;obtain⟨b1,e1,rfl⟩:=h1;obtain⟨b2,e2,rfl⟩:=h2;rw[e1] at e2;cases e2;simp [Rel]
 ·cases hs
variable {t t' e:TypeId} {ty:TypeId} {i:TypeInfo} {z:Value} {u:TypeDesc}
theorem Nb (ht:P.underlying t=some (.slice e)) (hu:P.underlying t'=some u) (hu':(∃e',u= .slice e')\/u= .string) (hi:P.info? e=some i) (hz:i.zero=some z)
  {b:Option Addr} {len cap n:Nat} {x:Value} {vs:List Value} (hsrc:At8 P w i.size x n vs) (hg:cap<len+n) (hfit:(len+n)*i.bytes<=35184372088832) (hbytes:(len+n:Nat)<=35184372088832)
  {olds:List Value} (ho: ∀k,(Builtin.firstCells i.size len (.slice b len cap)).run P { w with drawn:=k }= .ok olds.toArray { w with drawn:=k }):
  ∃c,len+n<=c/\(Builtin.append_ #[t,t'] ty #[.slice b len cap,x]).run P w=
   .ok (.slice (some ⟨w.heap.size,0,none⟩) (len+n) c) { w.alloc (.cells (olds.toArray++(vs.toArray++Builtin.zeroCells z.cells (c-(len+n)))) e) with drawn:=w.drawn+1 }:=by
 obtain⟨hlen,hcells⟩:=hsrc;refine⟨(Question.appendCap (len+n) cap e).cut (w.tape w.drawn (.appendCap (len+n) cap e)),by simp [Question.cut], ?_⟩;have hn: ¬(len+n<=cap):=by omega
 have h48: ¬(Builtin.nextslicecap (len+n) cap*i.bytes>281474976710656):=by
  have:=growslice_fits (need:=len+n) (old:=cap) (bytes:=i.bytes) hg (by omega);omega
 have hc1:=hcells (w.drawn+1);have ho1:=ho (w.drawn+1);have h63: ¬(9223372036854775807<((len:Int)+(n:Int))):=by omega
 simp only[World.drew_eq] at hc1 ho1;rcases hu' with⟨e',rfl⟩ | rfl
 ·simp [Builtin.append_,run_underlying ht,run_underlying hu,sizeOf,typeInfo,zeroValue,hi,hz,hlen,hn,h48,h63,Question.forced,hc1,ho1,newRow];rfl
 ·simp [Builtin.append_,run_underlying ht,run_underlying hu,sizeOf,typeInfo,zeroValue,hi,hz,hlen,hn,h48,h63,Question.forced,hc1,ho1,newRow];rfl
theorem Ho (ht:P.underlying t=some (.slice e)) (hu:P.underlying t'=some u) (hu':(∃e',u= .slice e')\/u= .string) (hi:P.info? e=some i)
  {b:Option Addr} {len cap n:Nat} {x:Value} {vs:List Value} (hsrc:At8 P w i.size x n vs) (hg:len+n<=cap) {w':World}
  (hst:(match b with | some ad=>storeCells (ad.add (len*i.size)) vs 0 | none=>pure ()).run P w= .ok () w'):
  (Builtin.append_ #[t,t'] ty #[.slice b len cap,x]).run P w= .ok (.slice b (len+n) cap) w':=by
 obtain⟨hlen,hcells⟩:=hsrc
 have hc1:=hcells w.drawn
 have hw: { w with drawn:=w.drawn }=w:=rfl
 rw[hw] at hc1
 rcases hu' with⟨e',rfl⟩ | rfl
 ·cases b with
  | none=>simp at hst;subst hst;simp [Builtin.append_,run_underlying ht,run_underlying hu,sizeOf,typeInfo,hi,hlen,hg,hc1]
  | some ad=>simp at hst;simp [Builtin.append_,run_underlying ht,run_underlying hu,sizeOf,typeInfo,hi,hlen,hg,hc1,hst]
 ·cases b with
  | none=>simp at hst;subst hst;simp [Builtin.append_,run_underlying ht,run_underlying hu,sizeOf,typeInfo,hi,hlen,hg,hc1]
  | some ad=>simp at hst;simp [Builtin.append_,run_underlying ht,run_underlying hu,sizeOf,typeInfo,hi,hlen,hg,hc1,hst]
theorem Ac6 {u:Option TypeDesc} (h:Pk u=true): ∃d,u=some d/\((∃e',d= .slice e')\/d= .string):=by
 cases u with
 | none=>cases h
 | some d=>cases d<;>first | (exact⟨_,rfl, .inl ⟨_,rfl⟩⟩) | (exact⟨_,rfl, .inr rfl⟩) | (cases h;done)
theorem Au0 {H:Aa} (hH:Aw w H) {r p:Nat} {cs ds:List DVal} {e:TypeId} (hr:H r=some (.cells cs e)) {vs:List Value} (hv:Ap w H ds vs) (h1:ds.all (·.one)=true) (hp:p<=cs.length)
  (hroom: ∀c fz,w.heap[r]? =some (.cells c e fz)->p+ds.length<=c.size) {cs':List DVal} (hcs:cs'=cs.take p++ds):
  ∃w',(storeCells ⟨r,p,none⟩ vs 0).run P w= .ok () w'/\Aw w' (upd (upd H r none) r (some (.cells cs' e)))/\Ext H w (upd (upd H r none) r (some (.cells cs' e))) w':=by
 subst hcs;obtain⟨xs,c,fz,g1,g2,g3,g4⟩:=hH r _ hr;obtain⟨tl,htl⟩:=g2;have hlx:=g3.length;have hlv:=hv.length;have hcs:c.size=xs.length+tl.length:=by rw[<-Array.length_toList,<-htl];simp
 have hrm:=hroom c fz g1;obtain⟨w',c',hrun,hheap,hlist,hother,hsize,hos,htape,hout⟩:=Fs (P:=P) r p e fz vs 0 c w g1 (by omega) (Vs hv h1) g4;have hcsz:c'.size=c.size:=by
  rw[<-Array.length_toList,hlist];simp;omega
 have hupd:upd (upd H r none) r (some (.cells (cs.take p++ds) e))=upd H r (some (.cells (cs.take p++ds) e)):=by
  funext j;simp only[upd];split<;>rfl
 rw[hupd];have hE:Ext H w (upd H r (some (.cells (cs.take p++ds) e))) w':=by
  refine⟨hos,htape,hout,by omega,fun b hb hn=>hother b (fun hbr=>by subst hbr;rw[hr] at hn;cases hn),fun b hb=> ?_,fun b hb=> ?_,fun a _ _=>by
   unfold World.frozen?;by_cases hbr:a.block=r
   ·rw[hbr,hheap,g1]
   ·rw[hother _ hbr]⟩
  ·by_cases hbr:b=r
   ·subst hbr;exact .inl (by rw[hr];simp)
   ·simp only[upd,if_neg hbr] at hb;exact .inl hb
  ·by_cases hbr:b=r
   ·subst hbr;rw[hheap,g1];simp [Hs,hcsz]
   ·rw[hother b hbr]
 refine⟨w',hrun,fun r' o' ho'=> ?_,hE⟩;by_cases hbr:r'=r
 ·subst hbr;simp only[upd,if_pos] at ho';cases ho';refine⟨xs.take p++vs,c',fz,hheap, ?_,(Ap.lasts hE.lasts _ _ (g3.take p)).append (Ap.lasts hE.lasts _ _ hv),by rw[hcsz];exact g4⟩;refine⟨c.toList.drop (p+0+vs.length), ?_⟩;rw[hlist,<-htl,Nat.add_zero,List.take_append_of_le_length (by omega)]
 ·simp only[upd,if_neg hbr] at ho';rw[hother r' hbr];exact(hH r' o' ho').lasts hE.lasts
theorem Aw.letGo {H:Aa} (hH:Aw w H) (r:Nat):Aw w (upd H r none):=by
 have hl:Lasts H w (upd H r none) w:=⟨fun b i x hb hc=>⟨by simp only[upd];split;rfl;exact hb,hc⟩,Nat.le_refl _,fun _ _=>rfl⟩;intro r' o' ho';by_cases hbr:r'=r
 ·subst hbr;simp [upd] at ho'
 ·simp only[upd,if_neg hbr] at ho';exact(hH r' o' ho').lasts hl
theorem Bh2 {H:Aa} (r:Nat):Ext H w (upd H r none) w:=
 ⟨rfl,rfl,rfl,Nat.le_refl _,fun _ _ _=>rfl,fun b hb=> .inl (by simp only[upd] at hb;split at hb<;>simp_all),fun _ _=>rfl,fun _ _ _=>rfl⟩
theorem Ib (size:Nat) (k:Nat):(Builtin.firstCells size 0 (.slice none 0 0)).run P { w with drawn:=k }= .ok #[] { w with drawn:=k }:=by simp [Builtin.firstCells]
theorem Pp {α:Type} (l m:List α):l<+:l++m:=⟨m,rfl⟩
theorem Br5 (hS:Sim G N s a w) (hd:Be N o.dst=true) {c:Call} {x y:Operand} (hx:Ay N x=true) (hy:Ay N y=true) (he:o.op= .call c) (hc:c.callee= .builtin .append) (hargs:c.args.toList= [x,y]) {t t':TypeId} (htys:c.argTypes.toList= [t,t'])
  (h:Qi P (Pk (P.underlying t')) (dev G s.env x) (dev G s.env y) o.dst (P.underlying t) K s):o.wp P a w (Dg G N K s w) Qx:=by
 have rx:=Aq hS hx;have ry:=Aq hS hy;have hm:c.args.map a.eval= #[a.eval x,a.eval y]:=by apply Array.ext';simp [hargs]
 have hat:c.argTypes= #[t,t']:=by apply Array.ext';simp [htys]
 have hex:execOp a.eval o=(do pure (.value (←Builtin.append_ #[t,t'] o.type #[a.eval x,a.eval y]))):=by
  rw[Dq he hc,hm,hat];rfl
 generalize hut:P.underlying t=ut at h;unfold Qi at h;split at h<;>try exact h.elim
 rename_i e
 obtain⟨hni,hzs,hzc,hpos,hbpos,h⟩:=h;obtain⟨u,hu,hu'⟩:=Ac6 hni;obtain⟨zd,hz⟩:=Option.isSome_iff_exists.1 hzs;rw[hz] at hzc;simp only[Option.all_some,decide_eq_true_eq] at hzc;obtain⟨i,z,hi,hiz,rfl⟩:=Ga hz;have hcsz:P.cellsOf e=i.size:=by simp [Program.cellsOf,hi]
 have hbsz:P.bytesOf e=i.bytes:=by simp [Program.bytesOf,hi]
 have hzlen:z.cells.size=i.size:=by
  have:=(Fa (Cs w s.heap z)).length;rw[<-hcsz,<-hzc,this];simp
 rw[hcsz,hbsz] at h;rw[hcsz] at hpos;rw[hbsz] at hbpos;cases hsc:Ja i.size s.heap (dev G s.env y) with
 | none=>rw[hsc] at h;exact h.elim
 | some nn=>
  obtain⟨n,news⟩:=nn;rw[hsc] at h;obtain⟨hnl,hone,h⟩:=h;obtain⟨vs,hsrc,hrel⟩:=At9 (P:=P) hS.heap ry hsc hnl;have hvl:=hrel.length;generalize dev G s.env x=dx at h rx;unfold Kq at h;split at h
  ·-- nil
   obtain⟨h0,h1⟩:=h;simp only[Rel] at rx;by_cases hn:n=0
   ·have hK:=h0 hn;subst hn;have hvs:vs= []:=List.length_eq_zero_iff.1 (by omega);subst hvs;have hrun:=Ho (ty:=o.type) (b:=none) (len:=0) (cap:=0) hut hu hu' hi hsrc (by omega) (w':=w) (by simp);refine Ek hS hd (x:= .slice none 0 0) ?_ (by simp [Rel]) hK;rw[hex,rx];simp [hrun]
   ·obtain⟨hfit,hK⟩:=h1 hn;have hn45:n<=35184372088832:=Nat.le_trans (Nat.le_mul_of_pos_right n hbpos) hfit;obtain⟨cp,hcp,hrun⟩:=Nb (ty:=o.type) (b:=none) (len:=0) (cap:=0) (olds:= []) hut hu hu' hi hiz hsrc (by omega) (by simpa using hfit) (by omega) (fun k=>Ib i.size k);refine Qo hS hd (sz:=i.size) (lo:=n) (cap:=cp) (n:=w.drawn+1) (len:=n) (e:=e) (c:= #[]++(vs.toArray++Builtin.zeroCells z.cells (cp-(0+n)))) (by omega) (by omega) ?_ ?_ hrel ?_ hK
    ·simp only[Array.size_append,size_zeroCells,hzlen,List.size_toArray,List.length_nil,Nat.zero_add];have:vs.length=n*i.size:=by omega
     rw[this,<-Nat.add_mul];exact Nat.mul_le_mul_right _ (by omega)
    ·rw[hex,rx];simp only[Nat.zero_add] at hrun;simp [hrun]
    ·simp only[Array.toList_append,List.nil_append];exact Pp _ _
  ·-- a slice of the call's own
   rename_i sz r off len lo
   obtain⟨rfl,h⟩:=h;simp only[Rel] at rx;obtain⟨o',cap,hp,hlo,hcap,hoff,hroom⟩:=rx;cases hh:s.heap r with
   | none=>rw[hh] at h;exact h.elim
   | some ob=>
    cases ob with
    | loop=>rw[hh] at h;exact h.elim
    | iter=>rw[hh] at h;exact h.elim
    | map=>rw[hh] at h;exact h.elim
    | cells cs e'=>
     rw[hh] at h;obtain⟨rfl,hin,hout⟩:=h;by_cases hle:len+n<=lo
     ·-- in place, within what is known
      obtain⟨hfits,hK⟩:=hin hle;have hmul:(len+n)*i.size=len*i.size+n*i.size:=Nat.add_mul _ _ _;by_cases hc0:cap=0
      ·have hl0:len=0:=by omega
       have hn0:n=0:=by omega
       subst hl0;subst hn0;have hvs:vs= []:=List.length_eq_zero_iff.1 (by omega);have hns:news= []:=List.length_eq_zero_iff.1 (by omega);subst hvs;subst hns;have hrun:=Ho (ty:=o.type) (b:=some ⟨r,o',none⟩) (len:=0) (cap:=cap) hut hu hu' hi hsrc (by omega) (w':=w) (by simp [storeCells]);have hsp:splice cs (off+0*i.size) []=cs:=by simp [splice]
       have hup:upd s.heap r (some (.cells (splice cs (off+0*i.size) []) e'))=s.heap:=by
        funext j;rw[hsp];simp only[upd];split
        ·rename_i hj;rw[hj,hh]
        ·rfl
       rw[hup] at hK;refine Ek hS hd (x:= .slice (some ⟨r,o',none⟩) 0 cap) ?_ ?_ hK
       ·rw[hex,hp];simp [hrun]
       ·simp only[Rel];exact⟨o',cap,rfl,hlo,by omega,hoff,hroom⟩
      ·have:o'=off:=hoff.resolve_left hc0;subst this;obtain⟨w',hst,hH,hE⟩:=Sj (P:=P) hS.heap hh hrel hone (off:=o'+len*i.size) (by omega);have hrun:=Ho (ty:=o.type) (b:=some ⟨r,o',none⟩) (len:=len) (cap:=cap) hut hu hu' hi hsrc (by omega) (w':=w') (by simpa [Ez] using hst);refine Dp hS hd (x:= .slice (some ⟨r,o',none⟩) (len+n) cap) ?_ hE hH ?_ hK
       ·rw[hex,hp];simp [hrun]
       ·simp only[Rel];exact⟨o',cap,rfl,hlo,by omega, .inr rfl,hE.lasts.room hroom⟩
     ·-- the room is not known
      obtain⟨hfits,hfit,hK⟩:=hout hle;have hn45:len+n<=35184372088832:=Nat.le_trans (Nat.le_mul_of_pos_right _ hbpos) hfit;obtain⟨xs,hxr,hxh⟩:=hS.heap.holds hh;have hxl:=hxr.length;by_cases hin':len+n<=cap
      ·-- in place
       have:o'=off:=hoff.resolve_left (by omega);subst this;have hrm: ∀c fz,w.heap[r]? =some (.cells c e' fz)->o'+len*i.size+news.length<=c.size:=by
        intro c fz hcc;have:=hroom.2 c.size (by rw[hcc];rfl);have h2:(len+n)*i.size<=cap*i.size:=Nat.mul_le_mul_right _ hin';rw[Nat.add_mul] at h2;omega
       obtain⟨w',hst,hH,hE⟩:=Au0 (P:=P) hS.heap hh hrel hone (p:=o'+len*i.size) hfits hrm (cs':=cs.take o'++(cs.drop o').take (len*i.size)++news) (by rw[List.take_add]);have hrun:=Ho (ty:=o.type) (b:=some ⟨r,o',none⟩) (len:=len) (cap:=cap) hut hu hu' hi hsrc hin' (w':=w') (by simpa [Ez] using hst);have hK':=hK r (cs.take o') (by simp [upd]) (fun e0=>by simp [e0]);rw[if_pos (.inr rfl)] at hK';have hlt:(cs.take o').length=o':=by simp;omega
       rw[hlt] at hK';refine Dp hS hd (x:= .slice (some ⟨r,o',none⟩) (len+n) cap) ?_ hE hH ?_ hK'
       ·rw[hex,hp];simp [hrun]
       ·simp only[Rel];exact⟨o',cap,rfl,by omega,by omega, .inr rfl,hE.lasts.room hroom⟩
      ·-- a new row
       have holds: ∃olds,Ap w s.heap ((cs.drop off).take (len*i.size)) olds/\olds.length=len*i.size/\ ∀k,(Builtin.firstCells i.size len (.slice (some ⟨r,o',none⟩) len cap)).run P { w with drawn:=k }= .ok olds.toArray { w with drawn:=k }:=by
        by_cases hc0:cap=0
        ·have hl0:len=0:=by omega
         subst hl0;exact⟨[],by simp [Ap],by simp,fun k=>by simp [Builtin.firstCells,loadCells,loadCellsFrom]⟩
        ·have:o'=off:=hoff.resolve_left hc0;subst this;have hlen:((xs.drop o').take (len*i.size)).length=len*i.size:=by
          simp only[List.length_take,List.length_drop];omega
         refine⟨_,(hxr.drop _).take _,hlen,fun k=> ?_⟩;have h1:Fd w r o' (xs.drop o'):=by simpa using hxh.drop (n:=o')
         have:=Cc (P:=P) (w:= { w with drawn:=k }) (Fd.take (n:=len*i.size) (Na h1));rw[hlen] at this;simpa [Builtin.firstCells] using this
       obtain⟨olds,hor,hol,hof⟩:=holds;obtain⟨cp,hcp,hrun⟩:=Nb (ty:=o.type) hut hu hu' hi hiz hsrc (by omega) hfit hn45 hof;have hfin: ∀HH:Aa,Aw w HH->Ext s.heap w HH w->K ⟨Df s.env o.dst (.oslice i.size w.heap.size 0 (len+n) (len+n)),upd HH w.heap.size (some (.cells ((cs.drop off).take (len*i.size)++news) e'))⟩->o.wp P a w (Dg G N K s w) Qx:=by
        intro HH hH0 hE0 hK';have hcont:Ap w HH ((cs.drop off).take (len*i.size)++news) (olds++vs):=
         (Ap.lasts hE0.lasts _ _ hor).append (Ap.lasts hE0.lasts _ _ hrel)
        have hpre:(olds++vs)<+:(olds.toArray++(vs.toArray++Builtin.zeroCells z.cells (cp-(len+n)))).toList:=by
         simp only[Array.toList_append,<-List.append_assoc];exact Pp _ _
        have hsize:cp*i.size<=(olds.toArray++(vs.toArray++Builtin.zeroCells z.cells (cp-(len+n)))).size:=by
         simp only[Array.size_append,size_zeroCells,hzlen,List.size_toArray,hol];have h1:vs.length=n*i.size:=by omega
         rw[h1,<-Nat.add_mul,<-Nat.add_mul];exact Nat.mul_le_mul_right _ (by omega)
        refine Dp hS hd (x:= .slice (some ⟨w.heap.size,0,none⟩) (len+n) cp) ?_ ((hE0.trans (Oh hH0 _ _ _)).drawn (w.drawn+1)) ((Kj hH0 hcont _ hpre e').drawn (w.drawn+1)) ?_ hK'
        ·rw[hex,hp];simp [hrun]
        ·simp only[Rel];refine⟨0,cp,rfl,by omega,by omega, .inr rfl, ?_⟩;constructor
         ·show w.heap.size<(w.alloc _).heap.size;simp
         ·intro k hk;have h1:(w.alloc (.cells (olds.toArray++(vs.toArray++Builtin.zeroCells z.cells (cp-(len+n)))) e')).heap[w.heap.size]? =some (.cells (olds.toArray++(vs.toArray++Builtin.zeroCells z.cells (cp-(len+n)))) e'):=by
           show(w.heap.push _)[w.heap.size]? =_;simp
          have hk':Hs (w.alloc (.cells (olds.toArray++(vs.toArray++Builtin.zeroCells z.cells (cp-(len+n)))) e')).heap[w.heap.size]? =some k:=hk;rw[h1] at hk';simp only[Hs,Option.some.injEq] at hk';omega
       have hH1:=hS.heap.letGo r;have hK':=hK w.heap.size [] hH1.fresh (fun _=>rfl);simp only[List.nil_append,List.length_nil] at hK';by_cases hkeep:len<=lo\/w.heap.size=r
       ·rw[if_pos hkeep] at hK';exact hfin _ hH1 (Bh2 r) hK'
       ·rw[if_neg hkeep] at hK';exact hfin _ hS.heap (Ext.refl _ _) hK'
  ·exact h.elim
end
end Go.Dl

-- THE DATA LEVEL, PART C: cap, clear, append of zeros.
namespace Go.Dl
open Go
section
variable {P:Program} {G:Nat->DVal} {N:Fr}
variable {o:Oper} {s:DS} {a:Act} {w:World} {K:DK} {Qx:Exit->Act->World->Prop}
theorem Cy6 (hS:Sim G N s a w) (hd:Be N o.dst=true) {c:Call} {x:Operand} {t:TypeId} (hx:Ay N x=true) (he:o.op= .call c) (hc:c.callee= .builtin .cap) (hargs:c.args.toList= [x]) (hts:c.argTypes.toList= [t])
  (h:Bq5 o.dst (P.underlying t) (dev G s.env x) K s):PV P o s a w K:=by
 have rx:=Aq hS hx;have hm:c.args.map a.eval= #[a.eval x]:=by apply Array.ext';simp [hargs]
 have hex:=Dq (a:=a) he hc;rw[hm] at hex;have ht':c.argTypes[0]? =some t:=by rw[<-Array.getElem?_toList,hts];rfl
 generalize hu:P.underlying t=u at h;generalize dev G s.env x=dx at h rx;unfold Bq5 at h;split at h
 ·simp only[Rel] at rx;exact Ln hS hd (by rw[hex];simp [builtin,Builtin.cap_,ht',run_underlying hu,rx,goInt]) h
 ·simp only[Rel] at rx;obtain⟨_,cap,rx,hle,_⟩:=rx;exact Ln hS hd (by rw[hex];simp [builtin,Builtin.cap_,ht',run_underlying hu,rx,goInt]) (h cap hle)
 ·simp only[Rel] at rx;obtain⟨_,cap,rx,h1,h2,_⟩:=rx;exact Ln hS hd (by rw[hex];simp [builtin,Builtin.cap_,ht',run_underlying hu,rx,goInt]) (h cap h2 h1)
 ·exact h.elim
theorem Uo {e t t' ty:TypeId} {i:TypeInfo} {z:Value} {k:IntKind} (ht:P.underlying t=some (.slice e)) (hu:P.underlying t'=some (.int k)) (hi:P.info? e=some i) (hz:i.zero=some z) (hp:0<i.size)
  {n:Int} (h0:0<n) (hfit:n*i.bytes<=35184372088832) (hn:n<=35184372088832):
  ∃c,n.toNat<=c/\(Builtin.append_ #[t,t'] ty #[.slice none 0 0, .int .i64 n]).run P w=
   .ok (.slice (some ⟨w.heap.size,0,none⟩) n.toNat c) { w.alloc (.cells (#[]++(Builtin.zeroCells z.cells n.toNat++Builtin.zeroCells z.cells (c-n.toNat))) e) with drawn:=w.drawn+1 }:=by
 obtain⟨m,rfl⟩: ∃m:Nat,n=m:=⟨n.toNat,by omega⟩;simp only[Int.toNat_natCast];have hw:IntKind.wrap .i64 (m:Int)=m:=IntWalk.i64_in m ⟨by omega,by omega⟩;have hfit':m*i.bytes<=35184372088832:=by
  have:((m*i.bytes:Nat):Int)<=35184372088832:=by rw[Int.natCast_mul];exact hfit
  omega
 refine⟨(Question.appendCap m 0 e).cut (w.tape w.drawn (.appendCap m 0 e)),by simp [Question.cut], ?_⟩;have h48: ¬(Builtin.nextslicecap m 0*i.bytes>281474976710656):=by
  have:=growslice_fits (need:=m) (old:=0) (bytes:=i.bytes) (by omega) (by omega);omega
 have h1: ¬((m:Int)<0):=by omega
 have h2: ¬(281474976710656<(m:Int)*(i.bytes:Int)):=by omega
 have h3: ¬(9223372036854775807<(m:Int)):=by omega
 have h4:m≠0:=by omega
 have h5: ¬(m*i.size=0):=by
  intro e;rcases Nat.mul_eq_zero.1 e with e | e<;>omega
 have hf:=Ib (P:=P) (w:=w) i.size (w.drawn+1);simp only[World.drew_eq] at hf;simp [hf,Builtin.append_,run_underlying ht,run_underlying hu,sizeOf,typeInfo,zeroValue,hi,hz,asInt,asIntOf,hw,h1,h2,h3,h4,h5,h48,Question.forced,newRow,Ib];rfl
theorem Bh3 (hS:Sim G N s a w) (hd:Be N o.dst=true) {c:Call} {x y:Operand} (hx:Ay N x=true) (hy:Ay N y=true) (he:o.op= .call c) (hc:c.callee= .builtin .append) (hargs:c.args.toList= [x,y]) {t t':TypeId} (htys:c.argTypes.toList= [t,t'])
  (hit:Gm (P.underlying t')=true) (h:Qj P (dev G s.env x) (dev G s.env y) o.dst (P.underlying t) K s):o.wp P a w (Dg G N K s w) Qx:=by
 have rx:=Aq hS hx;have ry:=Aq hS hy;have hm:c.args.map a.eval= #[a.eval x,a.eval y]:=by apply Array.ext';simp [hargs]
 have hat:c.argTypes= #[t,t']:=by apply Array.ext';simp [htys]
 have hex:execOp a.eval o=(do pure (.value (←Builtin.append_ #[t,t'] o.type #[a.eval x,a.eval y]))):=by
  rw[Dq he hc,hm,hat];rfl
 generalize hut:P.underlying t=ut at h;unfold Qj at h;split at h<;>try exact h.elim
 rename_i e
 obtain⟨k,hu⟩: ∃k,P.underlying t'=some (.int k):=by
  cases hq:P.underlying t' with
  | none=>rw[hq] at hit;cases hit
  | some d=>cases d<;>first | exact⟨_,rfl⟩ | (rw[hq] at hit;cases hit)
 generalize dev G s.env x=dx at h rx;generalize dev G s.env y=dy at h ry;generalize hzo:Ax P e=zo at h;unfold Vo at h;split at h<;>try exact h.elim
 obtain⟨h0,hp,hk0,hk1⟩:=h
 rename_i n zd
 obtain⟨i,z,hi,hiz,rfl⟩:=Ga hzo;have hby:P.bytesOf e=i.bytes:=by simp [Program.bytesOf,hi]
 have hcs:P.cellsOf e=i.size:=by simp [Program.cellsOf,hi]
 simp only[Rel] at rx ry;by_cases hn:n=0
 ·have hK:=hk0 hn;subst hn;refine Ek hS hd (x:= .slice none 0 0) ?_ (by simp [Rel]) hK;rw[hex,rx,ry];have hw:IntKind.wrap .i64 0=0:=by rfl
  simp [Builtin.append_,run_underlying hut,run_underlying hu,sizeOf,typeInfo,hi,asInt,asIntOf,hw]
 ·obtain⟨hfit,hle,hzl,hK⟩:=hk1 hn;rw[hby] at hfit;rw[hcs] at hp hzl hK;have hvr:Ap w s.heap (Bn z).cells z.cells.toList:=Fa (Cs w s.heap z);have hzs:z.cells.size=i.size:=by rw[<-hzl,hvr.length];simp
  obtain⟨cp,hcp,hrun⟩:=Uo (w:=w) (ty:=o.type) hut hu hi hiz hp (n:=n) (by omega) hfit hle;have hr:=Oi hvr n.toNat (n.toNat*z.cells.size) (by rw[hzl,hzs]);refine Qo hS hd (sz:=i.size) (lo:=n.toNat) (cap:=cp) (n:=w.drawn+1) (len:=n.toNat) (e:=e) (c:= #[]++(Builtin.zeroCells z.cells n.toNat++Builtin.zeroCells z.cells (cp-n.toNat))) (by omega) (by omega) ?_ ?_ hr ?_ hK
  ·simp only[Array.size_append,size_zeroCells,hzs,List.size_toArray,List.length_nil,Nat.zero_add];rw[<-Nat.add_mul];exact Nat.mul_le_mul_right _ (by omega)
  ·rw[hex,rx,ry];simp [hrun]
  ·simp only[Array.toList_append,List.nil_append];exact Pp _ _
theorem Cf4 (hS:Sim G N s a w) (hd:Be N o.dst=true) {c:Call} {x:Operand} {t:TypeId} (hx:Ay N x=true) (he:o.op= .call c) (hc:c.callee= .builtin .clear) (hargs:c.args.toList= [x]) (hts:c.argTypes.toList= [t])
  (h:Vp P o.dst (P.underlying t) (dev G s.env x) K s):o.wp P a w (Dg G N K s w) Qx:=by
 have rx:=Aq hS hx;have hm:c.args.map a.eval= #[a.eval x]:=by apply Array.ext';simp [hargs]
 have hex:=Dq (a:=a) he hc;rw[hm] at hex;have ht':c.argTypes[0]? =some t:=by rw[<-Array.getElem?_toList,hts];rfl
 generalize hu:P.underlying t=u at h;generalize dev G s.env x=dx at h rx;unfold Vp at h;split at h<;>try exact h.elim
 rename_i e
 generalize hzo:Ax P e=zo at h;unfold Ab9 at h;split at h<;>try exact h.elim
 ·simp only[Rel] at rx;refine Ek hS hd (x:= .tuple #[]) ?_ (by simp [Rel,Ap]) h;rw[hex];simp [builtin,Builtin.clear_,ht',run_underlying hu,rx]
 ·rename_i z sz r off n lo
  obtain⟨rfl,hnl,h⟩:=h;obtain⟨i,v,hi,hiz,rfl⟩:=Ga hzo;have hcs:P.cellsOf e=i.size:=by simp [Program.cellsOf,hi]
  simp only[Rel] at rx;obtain⟨o',cap,hp,hlo,hcap,hoff,hroom⟩:=rx;cases hh:s.heap r with
  | none=>rw[hh] at h;exact h.elim
  | some ob=>
   cases ob with
   | loop=>rw[hh] at h;exact h.elim
   | iter=>rw[hh] at h;exact h.elim
   | map=>rw[hh] at h;exact h.elim
   | cells cs e'=>
    rw[hh] at h;obtain⟨hzl,hone,hle,hK⟩:=h;rw[hcs] at hzl hle;have hvr:Ap w s.heap (Bn v).cells v.cells.toList:=Fa (Cs w s.heap v);have hzs:v.cells.size=i.size:=by rw[<-hzl,hvr.length];simp
    by_cases hn:n=0
    ·subst hn;have hsp:splice cs off (repl 0 (Bn v).cells)=cs:=by simp [splice,repl]
     rw[hsp] at hK;have hup:upd s.heap r (some (.cells cs e'))=s.heap:=by
      funext j;simp only[upd];split
      ·rename_i hj;rw[hj,hh]
      ·rfl
     rw[hup] at hK;refine Ek hS hd (x:= .tuple #[]) ?_ (by simp [Rel,Ap]) hK;rw[hex];simp [builtin,Builtin.clear_,ht',run_underlying hu,hp]
    ·have:o'=off:=hoff.resolve_left (by omega);subst this;have hr:=Oi hvr n (n*v.cells.size) (by rw[hzl,hzs]);have hall:(repl n (Bn v).cells).all (·.one)=true:=by
      rw[List.all_eq_true] at hone⊢
      intro d hd';simp only[repl,List.mem_flatten,List.mem_replicate] at hd';obtain⟨l,⟨_,rfl⟩,hm⟩:=hd';exact hone d hm
     obtain⟨w',hst,hH,hE⟩:=Sj (P:=P) hS.heap hh hr hall (off:=o') (by rw[Hw,hzl];exact hle);refine Dp hS hd (x:= .tuple #[]) ?_ hE hH (by simp [Rel,Ap]) hK;rw[hex];obtain⟨n',rfl⟩: ∃n',n=n'+1:=⟨n-1,by omega⟩;have hst':Sem.run P (storeCells ⟨r,o',none⟩ (Builtin.zeroCells v.cells (n'+1)).toList 0) w= .ok () w':=hst;simp [builtin,Builtin.clear_,ht',run_underlying hu,hp,zeroValue,typeInfo,hi,hiz,hst']
end
end Go.Dl

-- THE DATA LEVEL, PART M: objects that are no rows of cells; maps.
namespace Go.Dl
open Go
section
def Gq:Obj->Bool
 | .loop _=>true
 | .deferred _=>true
 | .map _ _=>true
 | .stringIter _ _=>true
 | _=>false
theorem Qt {w:World} {l:Nat} {o o':Obj} (hl:w.heap[l]? =some o) (h:Gq o=true) (h':Gq o'=true) (b:Nat):Hs (w.putObj l o').heap[b]? =Hs w.heap[b]? :=by
 have hlt:l<w.heap.size:=(Array.getElem?_eq_some_iff.1 hl).1;by_cases e:b=l
 ·subst e;rw[World.putObj_heap_same hlt,hl];cases o<;>first | cases h;done | (cases o'<;>first | rfl | cases h';done)
 ·rw[World.putObj_heap_other e]
theorem Lp {w:World} {l:Nat} {o o':Obj} (hl:w.heap[l]? =some o) (h:Gq o=true) (h':Gq o'=true) (H:Aa):Lasts H w H (w.putObj l o'):=by
 refine⟨fun b i x hb hc=>⟨hb, ?_⟩,by simp [World.putObj],fun b hb=>Qt hl h h' b⟩;by_cases e:b=l
 ·subst e;unfold World.cell? at hc;rw[hl] at hc;cases o<;>first | cases h;done | simp at hc
 ·unfold World.cell? at hc⊢
  simp only[World.putObj_heap_other e];exact hc
theorem Ze {w:World} {l:Nat} {o o':Obj} (hl:w.heap[l]? =some o) (h:Gq o=true) (h':Gq o'=true) (a:Addr):(w.putObj l o').frozen? a=w.frozen? a:=by
 have hlt:l<w.heap.size:=(Array.getElem?_eq_some_iff.1 hl).1;unfold World.frozen?;by_cases e:a.block=l
 ·rw[e,World.putObj_heap_same hlt,hl];cases o<;>first | cases h;done | (cases o'<;>first | rfl | cases h';done)
 ·rw[World.putObj_heap_other e]
theorem Au1 {w:World} {l:Nat} {o o':Obj} {H:Aa} (hl:w.heap[l]? =some o) (h:Gq o=true) (h':Gq o'=true) (hH:Aw w H) (hn:H l=none):Aw (w.putObj l o') H:=by
 intro r ob ho;have hr:r≠l:=fun e=>by rw[e,hn] at ho;cases ho
 rw[World.putObj_heap_other hr];exact(hH r ob ho).lasts (Lp hl h h' H)
theorem Jr {P:Program} {w:World} {r:Nat} {o:Obj} (h:w.heap[r]? =some o) (hb:Gq o=true):(getObj r).run P w= .ok o w:=by
 simp only[getObj,Sem.run,h];cases o<;>first | rfl | cases hb
theorem Gc {P:Program} {w:World} {r:Nat} {o:Obj} (o':Obj) (h:w.heap[r]? =some o) (hb:Gq o=true):(setObj r o').run P w= .ok () (w.putObj r o'):=by
 simp only[setObj,Sem.run,h,World.putObj];cases o<;>first | rfl | cases hb
theorem Nc {w:World} {H:Aa} {r:Nat} {o o':Obj} {ob:DObj} (hH:Aw w H) (hr:H r≠none) (ho:w.heap[r]? =some o) (h:Gq o=true) (h':Gq o'=true)
  (hob: ∀w' H',Lasts H w H' w'->Pe w' H' ob (some o')):Aw (w.putObj r o') (upd H r (some ob))/\Ext H w (upd H r (some ob)) (w.putObj r o'):=by
 have hlt:r<w.heap.size:=(Array.getElem?_eq_some_iff.1 ho).1;have hl:Lasts H w (upd H r (some ob)) (w.putObj r o'):=by
  have h1:=Lp ho h h' H;refine⟨fun b i x hb hc=>⟨?_,(h1.cell b i x hb hc).2⟩,h1.size,h1.keep⟩;have:b≠r:=fun e=>hr (e▸hb);simp [upd,this,hb]
 refine⟨fun b x hx=> ?_,by rfl,by rfl,by rfl,by simp,fun b hb hn=> ?_,fun b hb=> ?_,fun b hb=>Qt ho h h' b,fun a _ _=>Ze ho h h' a⟩
 ·by_cases e:b=r
  ·subst e;simp only[upd,if_pos] at hx;cases hx;rw[World.putObj_heap_same hlt];exact hob _ _ hl
  ·simp only[upd,if_neg e] at hx;rw[World.putObj_heap_other e];exact(hH b x hx).lasts hl
 ·rw[World.putObj_heap_other (fun e=>hr (by rw[<-e];exact hn))]
 ·by_cases e:b=r
  ·exact .inl (e▸hr)
  ·simp only[upd,if_neg e] at hb;exact .inl hb
theorem Al0 {w:World} {H:Aa} {o:Obj} {ob:DObj} (hH:Aw w H) (h:Gq o=true)
  (hob: ∀w' H',Lasts H w H' w'->Pe w' H' ob (some o)):Aw (w.alloc o) (upd H w.heap.size (some ob))/\Ext H w (upd H w.heap.size (some ob)) (w.alloc o):=by
 have hbl: ∀b,b<w.heap.size->(w.alloc o).heap[b]? =w.heap[b]? :=fun b hb=>by
  show(w.heap.push o)[b]? =_;rw[Array.getElem?_push,if_neg (by omega)]
 have hE:Ext H w (upd H w.heap.size (some ob)) (w.alloc o):=by
  refine⟨rfl,rfl,rfl,by simp,fun b hb _=>hbl b hb,fun b hb=> ?_,fun b hb=>by rw[hbl b hb],fun a _ _=> ?_⟩
  ·by_cases eb:b=w.heap.size
   ·exact .inr (by omega)
   ·simp only[upd,if_neg eb] at hb;exact .inl hb
  ·unfold World.frozen?;have hh:(w.alloc o).heap[a.block]? =if a.block=w.heap.size then some o else w.heap[a.block]? :=by
    show(w.heap.push o)[a.block]? =_;rw[Array.getElem?_push]
   rw[hh];by_cases e:a.block=w.heap.size
   ·rw[if_pos e,e,Array.getElem?_eq_none (Nat.le_refl _)];cases o<;>first | cases h;done | rfl
   ·rw[if_neg e]
 refine⟨fun r x hx=> ?_,hE⟩;by_cases e:r=w.heap.size
 ·subst e;simp only[upd,if_pos] at hx;cases hx;have:(w.alloc o).heap[w.heap.size]? =some o:=by
   show(w.heap.push o)[w.heap.size]? =_;simp
  rw[this];exact hob _ _ hE.lasts
 ·simp only[upd,if_neg e] at hx;rw[hbl r (hH.lt (by simp [hx]))];exact(hH r x hx).lasts hE.lasts
end
section
variable {P:Program} {G:Nat->DVal} {N:Fr}
variable {o:Oper} {s:DS} {a:Act} {w:World} {K:DK} {Qx:Exit->Act->World->Prop}
theorem So {H:Aa}: ∀ {ds:List DVal} {vs:List Value} {l:List UInt8},Ap w H ds vs->Ig ds=some l-> ∃ns:List Int,vs=ns.map (Value.int .u8)/\l=ns.map fun n=>UInt8.ofNat n.toNat
 | [],vs,l,hr,hl=>by
  simp only[Ap] at hr;subst hr;simp only[Ig,Option.some.injEq] at hl;subst hl;exact⟨[],rfl,rfl⟩
 | d::ds,vs,l,hr,hl=>by
  simp only[Ap] at hr;obtain⟨y,ys,rfl,h1,h2⟩:=hr;unfold Ig at hl;split at hl<;>try (cases hl;done)
  ·rename_i e;cases e
  ·rename_i n ds' e
   obtain⟨rfl,rfl⟩:=List.cons.inj e;obtain⟨l',h3,rfl⟩:=Option.map_eq_some_iff.1 hl;obtain⟨ns,rfl,rfl⟩:=So h2 h3;simp only[Rel] at h1;subst h1;exact⟨n::ns,rfl,rfl⟩
theorem Zf: ∀(ns:List Int) (s:ByteArray),(ns.foldl (fun r n=>r.push (UInt8.ofNat n.toNat)) s).data.toList=s.data.toList++ns.map fun n=>UInt8.ofNat n.toNat
 | [],s=>by simp
 | n::ns,s=>by rw[List.foldl_cons,Zf ns];simp [ByteArray.push]
theorem Vv (ns:List Int):ns.foldl (fun r n=>r.push (UInt8.ofNat n.toNat)) ByteArray.empty=⟨⟨ns.map fun n=>UInt8.ofNat n.toNat⟩⟩:=by
 have:=Zf ns ByteArray.empty;cases h:ns.foldl (fun r n=>r.push (UInt8.ofNat n.toNat)) ByteArray.empty with
 | mk d=>
  rw[h] at this;congr 1;apply Array.ext';simpa using this
theorem Cf5 (hS:Sim G N s a w) (hd:Be N o.dst=true) {src t:TypeId} {x:Operand} (hx:Ay N x=true) (he:o.op= .convert src t x)
  (h:Gl P o.dst (P.underlying src) (P.underlying t) (dev G s.env x) K s):PV P o s a w K:=by
 have r:=Aq hS hx;by_cases hc: ∃e,P.underlying src=some (.slice e)/\P.underlying t=some .string
 ·obtain⟨e,hs,ht⟩:=hc;rw[hs,ht] at h;obtain⟨hu,h⟩:=h;generalize dev G s.env x=dx at h r;cases hb:(Lk s.heap dx).bind Ig with
  | none=>rw[hb] at h;exact h.elim
  | some l=>
   rw[hb] at h;obtain⟨ds,h1,h2⟩:=Option.bind_eq_some_iff.1 hb;refine pvI hS hd (x:= .string ⟨⟨l⟩⟩) ?_ (by simp [Rel]) h;have go: ∀(ad:Option Addr) (n c:Nat),a.eval x= .slice ad n c->(Conv.bytesToString (.slice ad n c)).run P w= .ok (.string ⟨⟨l⟩⟩) w->(execOp a.eval o).run P w= .ok (.value (.string ⟨⟨l⟩⟩)) w:=by
    intro ad n c e1 e2;simp [execOp,he,e1,run_convert_bytes_string w src t e ad n c hs hu ht,e2]
   unfold Lk at h1;split at h1<;>try (cases h1;done)
   ·cases h1;simp only[Ig,Option.some.injEq] at h2;subst h2;simp only[Rel] at r;exact go none 0 0 r (by simp [Conv.bytesToString];rfl)
   ·rename_i cs n
    split at h1<;>cases h1
    rename_i hle
    simp only[Rel] at r;obtain⟨ad,cap,e1,_,hc⟩:=r;refine go ad n cap e1 ?_;rcases hc with rfl | ⟨b,o',xs,rfl,hc,hr⟩
    ·have hn:n=0:=by simpa using hle
     subst hn;simp only[List.take_nil,Ig,Option.some.injEq] at h2;subst h2;cases ad with
     | none=>simp [Conv.bytesToString];rfl
     | some ad=>exact run_bytesToString w ad 0 cap [] (by simp [loadCells,loadCellsFrom])
    ·obtain⟨ns,e2,rfl⟩:=So (hr.take n) h2;have hlx:=hr.length;have hl:(ns.map (Value.int .u8)).length=n:=by rw[<-e2];simp;omega
     have:=Cc (P:=P) (w:=w) (Fd.take (n:=n) hc.holds);rw[e2,hl] at this;rw[run_bytesToString w _ n cap ns this,Vv]
   ·rename_i sz r' off n lo
    unfold Lj at h1;split at h1<;>try (cases h1;done)
    rename_i cs e' hh
    split at h1<;>cases h1
    rename_i hle
    simp only[Rel] at r;obtain⟨o',cap,e1,_,hcap,hoff,_⟩:=r;refine go _ n cap e1 ?_;obtain⟨xs,hr,hho⟩:=hS.heap.holds hh;by_cases hc0:cap=0
    ·have hn:n=0:=by omega
     subst hn;simp only[List.take_zero,Ig,Option.some.injEq] at h2;subst h2;exact run_bytesToString w _ 0 cap [] (by simp [loadCells,loadCellsFrom])
    ·have:o'=off:=hoff.resolve_left hc0;subst this;obtain⟨ns,e2,rfl⟩:=So ((hr.drop o').take n) h2;have hlx:=hr.length;have hl:(ns.map (Value.int .u8)).length=n:=by rw[<-e2];simp;omega
     have h3:Fd w r' o' (xs.drop o'):=by simpa using hho.drop (n:=o')
     have:=Cc (P:=P) (w:=w) (Fd.take (n:=n) h3);rw[e2,hl] at this;rw[run_bytesToString w _ n cap ns this,Vv]
 ·refine Bg9 hS hd hx he ?_;revert h;generalize hs:P.underlying src=us at hc;generalize ht:P.underlying t=ut at hc;intro h;unfold Gl at h;split at h
  ·exact absurd ⟨_,rfl,rfl⟩ hc
  ·exact h
theorem Cf6 (hS:Sim G N s a w) (hd:Be N o.dst=true) {t:TypeId} {x:Operand} (hx:Ay N x=true) (he:o.op= .range t x)
  (h:Vl o.dst (P.underlying t) (dev G s.env x) K s):o.wp P a w (Dg G N K s w) Qx:=by
 have r:=Aq hS hx;generalize dev G s.env x=dx at h r;generalize hu:P.underlying t=u at h;unfold Vl at h;split at h<;>try exact h.elim
 rename_i l
 simp only[Rel] at r;obtain⟨k1,k2⟩:=Al0 (o:= .stringIter ⟨⟨l⟩⟩ 0) (ob:= .iter l 0) hS.heap rfl (fun w' H' _=>rfl);refine Dp hS hd (x:= .pointer (some ⟨w.heap.size,0,none⟩)) ?_ k2 k1 (by simp [Rel]) (h _ hS.heap.fresh);simp [execOp,he,r,run_range_string w t _ hu,World.iter]
theorem Cq9 (hS:Sim G N s a w) (hd:Be N o.dst=true) {b:Bool} {x:Operand} (hx:Ay N x=true) (he:o.op= .next x b)
  (h:Za o.dst b (dev G s.env x) K s):o.wp P a w (Dg G N K s w) Qx:=by
 have r:=Aq hS hx;generalize dev G s.env x=dx at h r;unfold Za at h;split at h<;>try exact h.elim
 rename_i r0
 simp only[Rel] at r;generalize hh:s.heap r0=ob at h;unfold Ab6 at h;split at h<;>try exact h.elim
 rename_i l pos
 have ho:w.heap[r0]? =some (.stringIter ⟨⟨l⟩⟩ pos):=hS.heap _ _ hh;have hg:=Jr (P:=P) ho rfl;have hsz:(ByteArray.mk ⟨l⟩).size=l.length:=rfl;by_cases hp:pos<l.length
 ·obtain⟨k1,k2⟩:=Nc (o':= .stringIter ⟨⟨l⟩⟩ (pos+(Iy l pos).2)) (ob:= .iter l (pos+(Iy l pos).2)) hS.heap (by rw[hh];simp) ho rfl rfl (fun w' H' _=>rfl);refine Dp hS hd (x:= .tuple #[.bool true, .int .i64 pos, .int .i32 (Iy l pos).1]) ?_ k2 k1 (by simp [Rel,Ap]) (h.1 hp);have hs':=Gc (P:=P) (.stringIter ⟨⟨l⟩⟩ (pos+(Iy l pos).2)) ho rfl;simp only[execOp,he,r,Instr.next,Sem.run_bind,hg,Result.andThen_ok,hsz,if_pos hp];show Result.andThen (Result.andThen ((setObj r0 (.stringIter ⟨⟨l⟩⟩ (pos+(Iy l pos).2))).run P w) _) _=_;rw[hs'];simp [goInt,Iy]
 ·refine Ek hS hd (x:= .tuple #[.bool false]) ?_ (by simp [Rel,Ap]) (h.2 hp);simp [execOp,he,r,Instr.next,hg,hsz,hp]
theorem Bh4 (hS:Sim G N s a w) (hd:Be N o.dst=true) {t:TypeId} {x:Option Operand} (hx:(match x with | some x=>Ay N x | none=>true)=true) (he:o.op= .makeMap t x)
  (h:Ks o.dst (P.underlying t) (Hu G s.env x) K s):o.wp P a w (Dg G N K s w) Qx:=by
 obtain⟨k1,k2⟩:=Al0 (o:= .map #[] 0) (ob:= .map []) hS.heap rfl (fun w' H' _=>⟨#[],0,rfl,rfl⟩)
 have hfr:=hS.heap.fresh
 generalize hu:P.underlying t=u at h
 rcases Vu hS hx with⟨rfl,e⟩ | ⟨y,rfl,e,r⟩
 ·rw[e] at h
  unfold Ks at h
  split at h<;>try exact h.elim
  ·refine Dp hS hd (x:= .map (some w.heap.size)) ?_ k2 k1 (by simp [Rel]) (h _ hfr)
   simp [execOp,he,Instr.makeMap,run_newObj_alloc]
  ·rename_i e2;cases e2
 ·rw[e] at h
  cases hdv:dev G s.env y<;>rw[hdv] at h r<;>(unfold Ks at h;split at h<;>try exact h.elim)
  all_goals try (rename_i e2;cases e2;done)
  all_goals
   simp only[Rel] at r
   refine Dp hS hd (x:= .map (some w.heap.size)) ?_ k2 k1 (by simp [Rel]) (h _ hfr)
   simp [execOp,he,Instr.makeMap,run_newObj_alloc,run_underlying hu,r,asInt,asIntOf]
theorem Ms.len {w:World} {H:Aa}: ∀ {es:List (DVal×DVal)} {ms:List MapEntry},Ms w H es ms->es.length=ms.length
 | [],_,h=>by rw[show _=_ from h];rfl
 | p::es,ms,h=>by
  obtain⟨m,ms',rfl,_,_,h3⟩:=h;simp [Ms.len h3]
theorem Ms.get {w:World} {H:Aa}: ∀ {es:List (DVal×DVal)} {ms:List MapEntry},Ms w H es ms-> ∀ {i:Nat} {p:DVal×DVal},es[i]? =some p-> ∃m,ms[i]? =some m/\Rel w H p.1 m.key/\Rel w H p.2 m.val
 | [],_,_,i,p,hp=>by simp at hp
 | q::es,ms,h,i,p,hp=>by
  obtain⟨m,ms',rfl,h1,h2,h3⟩:=h;cases i with
  | zero=>simp at hp;subst hp;exact⟨m,rfl,h1,h2⟩
  | succ i=>simp at hp;obtain⟨m',e1,e2⟩:=Ms.get h3 hp;exact⟨m',by simpa using e1,e2⟩
theorem Ms.app {w:World} {H:Aa}: ∀ {es fs:List (DVal×DVal)} {ms ns:List MapEntry},Ms w H es ms->Ms w H fs ns->Ms w H (es++fs) (ms++ns)
 | [],_,_,_,h,k=>by rw[show _=_ from h];exact k
 | p::es,fs,ms,ns,h,k=>by
  obtain⟨m,ms',rfl,h1,h2,h3⟩:=h;exact⟨m,ms'++ns,rfl,h1,h2,Ms.app h3 k⟩
theorem Ms.erase {w:World} {H:Aa}: ∀ {es:List (DVal×DVal)} {ms:List MapEntry},Ms w H es ms-> ∀(i:Nat),Ms w H (es.eraseIdx i) (ms.eraseIdx i)
 | [],_,h,i=>by rw[show _=_ from h];exact rfl
 | q::es,ms,h,0=>by
  obtain⟨m',ms',rfl,h1,h2,h3⟩:=h;exact h3
 | q::es,ms,h,i+1=>by
  obtain⟨m',ms',rfl,h1,h2,h3⟩:=h;exact⟨m',_,rfl,h1,h2,Ms.erase h3 i⟩
theorem Br6 {w:World} {H:Aa} {d:TypeDesc} {k k':DVal} {x x':Value} (hk:Gn (some d) k=true) (h:Rel w H k x) (h':Rel w H k' x') {b:Bool} (hb:Jj k k'=some b):Instr.sameNow d x x'=some b:=by
 cases k<;>first | (cases d<;>(simp [Gn] at hk;done)) | skip
 case int kk n=>
  cases d<;>simp [Gn] at hk;subst hk;cases k'<;>simp only[Jj] at hb<;>try (cases hb;done)
  rename_i k2 m
  split at hb
  ·rename_i e;subst e
   cases hb;simp only[Rel] at h h';subst h;subst h';simp only[Instr.sameNow,if_true];rfl
  ·cases hb
 case str l=>
  cases d<;>simp [Gn] at hk;cases k'<;>simp only[Jj] at hb<;>try (cases hb;done)
  cases hb;simp only[Rel] at h h';subst h;subst h';simp only[Instr.sameNow]
  rename_i s1
  have e1:((⟨⟨l⟩⟩:ByteArray)==⟨⟨s1⟩⟩)=((⟨l⟩:Array UInt8)==⟨s1⟩):=rfl;rw[e1];congr 1;rw[Bool.eq_iff_iff];simp
 case bool l=>
  cases d<;>simp [Gn] at hk;cases k'<;>simp only[Jj] at hb<;>try (cases hb;done)
  cases hb;simp only[Rel] at h h';subst h;subst h';simp only[Instr.sameNow]
  rename_i b1;cases l<;>cases b1<;>rfl
theorem Al1 {w:World} {H:Aa} {d:TypeDesc} {k:DVal} {x:Value} (hk:Gn (some d) k=true) (h:Rel w H k x): ∀ {es:List (DVal×DVal)} {ms:List MapEntry},Ms w H es ms-> ∀(i:Nat) {r:Option Nat},Cl k es i=some r->
  Instr.findNow d x ms i=some (r.bind fun j=>(ms[j-i]?).map fun m=>(j,m.val))/\ ∀j,r=some j->i<=j
 | [],ms,hm,i,r,hf=>by
  rw[show ms= [] from hm];simp only[Cl] at hf;cases hf;exact⟨rfl,fun j hj=>by cases hj⟩
 | p::es,ms,hm,i,r,hf=>by
  obtain⟨m,ms',rfl,h1,h2,h3⟩:=hm;simp only[Cl] at hf;cases hb:Jj k p.1 with
  | none=>rw[hb] at hf;cases hf
  | some b=>
   rw[hb] at hf;have hs:=Br6 hk h h1 hb;cases b with
   | true=>
    simp only[Ll] at hf;cases hf;simp only[Instr.findNow,hs];exact⟨by simp,fun j hj=>by cases hj;exact Nat.le_refl _⟩
   | false=>
    simp only[Ll] at hf;obtain⟨g1,g2⟩:=Al1 hk h h3 (i+1) hf;simp only[Instr.findNow,hs,g1];refine⟨?_,fun j hj=>by have:=g2 j hj;omega⟩;cases r with
    | none=>rfl
    | some j=>
     have:=g2 j rfl;simp only[Option.bind_some];rw[show j-i=(j-(i+1))+1 by omega];simp
theorem Al2 {w:World} {H:Aa} {kt:TypeId} {k:DVal} {x:Value} (hk:Gn (P.underlying kt) k=true) (h:Rel w H k x) {es:List (DVal×DVal)} {ms:List MapEntry} (hm:Ms w H es ms) {r:Option Nat} (hf:Cl k es 0=some r):
  (Instr.findKey kt x ms).run P w= .ok (r.bind fun j=>(ms[j]?).map fun m=>(j,m.val)) w:=by
 cases hu:P.underlying kt with
 | none=>rw[hu] at hk;cases hk
 | some d=>
  rw[hu] at hk;obtain⟨g1,_⟩:=Al1 hk h hm 0 hf;simp only[Nat.sub_zero] at g1;simp [Instr.findKey,run_underlying hu,g1]
theorem Ac7 {w:World} {H:Aa} {kt:TypeId} {k:DVal} {x:Value} {b:Bool} (hk:Gn (P.underlying kt) k=true) (h:Rel w H k x) (n:Nat):(Instr.checkKey b (n+1) kt x).run P w= .ok () w:=by
 cases hu:P.underlying kt with
 | none=>rw[hu] at hk;cases hk
 | some d=>
  rw[hu] at hk;unfold Gn at hk;split at hk<;>first | (cases hk;done) | (rename_i e;cases e;simp only[Rel] at h;subst h;simp [Instr.checkKey,run_underlying hu])
theorem Au2 {t:Option TypeDesc} (h:Zb P t=true): ∃e ie,t=some (.array 2 e)/\P.underlying e=some .bool/\P.info? e=some ie/\P.cellsOf e=1:=by
 unfold Zb at h;split at h
 ·rename_i e
  simp only[Bool.and_eq_true,beq_iff_eq] at h;obtain⟨⟨h1,h2⟩,h3⟩:=h;obtain⟨ie,hie⟩:=Option.isSome_iff_exists.1 h2;refine⟨e,ie,rfl, ?_,hie,h3⟩;unfold Bb7 at h1;split at h1
  ·rename_i e1;exact e1
  ·cases h1
 ·cases h
theorem Zg {t:Option TypeDesc} {k:DVal} (h:Fy P t k=true):Gn t k=true\/ ∃a b,k= .agg [.bool a, .bool b]/\Zb P t=true:=by
 unfold Fy at h;split at h
 ·exact .inr ⟨_,_,rfl,h⟩
 ·exact .inl h
theorem Cr0 {t e:TypeId} {ie:TypeInfo} {a b c d:Bool} (h1:P.underlying t=some (.array 2 e)) (h2:P.underlying e=some .bool) (h3:P.info? e=some ie) (h4:P.cellsOf e=1):
  Mo P 2 t [.bool a, .bool b] [.bool c, .bool d]=some (decide (a=c)&&decide (b=d)):=by
 have hag:Br P e=some false:=by simp [Br,h2]
 have hr:List.range 2= [0,1]:=rfl;simp only[Mo,h1,Mu,h3,Option.isSome_some,if_true,hr,Tv,h2,hag,h4,Cr,Yy,List.drop,List.take,Nat.mul_one];cases a<;>cases b<;>cases c<;>cases d<;>rfl
theorem Bc3 {a b:Bool} {k':DVal} {r:Bool} (h:Jj (.agg [.bool a, .bool b]) k'=some r): ∃c d,k'= .agg [.bool c, .bool d]/\r=(decide (a=c)&&decide (b=d)):=by
 unfold Jj at h;split at h;all_goals first | (cases h;done) | skip
 all_goals first | (rename_i heq;cases heq;done) | skip
 rename_i heq
 cases heq;cases h;exact⟨_,_,rfl,rfl⟩
theorem Ac8 {w:World} {H:Aa} {t:TypeId} {a b:Bool} {k':DVal} {x x':Value} {r:Bool} (hk:Zb P (P.underlying t)=true) (h:Rel w H (.agg [.bool a, .bool b]) x) (h':Rel w H k' x') (hb:Jj (.agg [.bool a, .bool b]) k'=some r):
  (Op.equal t x x').run P w= .ok r w:=by
 obtain⟨e,ie,h1,h2,h3,h4⟩:=Au2 hk;have hag:Br P t=some true:=by simp [Br,h1]
 obtain⟨c,d,rfl,rfl⟩:=Bc3 hb;have g: ∃xs,x= .agg xs/\Ap w H [.bool a, .bool b] xs.toList:=h;have g': ∃xs,x'= .agg xs/\Ap w H [.bool c, .bool d] xs.toList:=h';obtain⟨xs,rfl,hx⟩:=g;obtain⟨ys,rfl,hy⟩:=g';exact Hc (P:=P) (w:=w) (H:=H) 2 Op.maxDepth (by decide) t _ _ _ _ true _ hag hx hy (fun _=>⟨_,rfl⟩) (fun _=>⟨_,rfl⟩) (Cr0 h1 h2 h3 h4)
theorem Tx {w:World} {H:Aa} {t:TypeId} {a b:Bool} {x:Value} (hk:Zb P (P.underlying t)=true) (h:Rel w H (.agg [.bool a, .bool b]) x): ∀ {es:List (DVal×DVal)} {ms:List MapEntry},Ms w H es ms-> ∀(i:Nat) {r:Option Nat},Cl (.agg [.bool a, .bool b]) es i=some r->
  (Instr.findAsking t x ms i).run P w= .ok (r.bind fun j=>(ms[j-i]?).map fun m=>(j,m.val)) w/\ ∀j,r=some j->i<=j
 | [],ms,hm,i,r,hf=>by
  rw[show ms= [] from hm];simp only[Cl] at hf;cases hf;exact⟨by simp [Instr.findAsking],fun j hj=>by cases hj⟩
 | p::es,ms,hm,i,r,hf=>by
  obtain⟨m,ms',rfl,h1,h2,h3⟩:=hm;simp only[Cl] at hf;cases hb:Jj (.agg [.bool a, .bool b]) p.1 with
  | none=>rw[hb] at hf;cases hf
  | some b'=>
   rw[hb] at hf;have hs:=Ac8 hk h h1 hb;cases b' with
   | true=>
    simp only[Ll] at hf;cases hf;refine⟨by simp [Instr.findAsking,hs],fun j hj=>by cases hj;exact Nat.le_refl _⟩
   | false=>
    simp only[Ll] at hf;obtain⟨g1,g2⟩:=Tx hk h h3 (i+1) hf;refine⟨?_,fun j hj=>by have:=g2 j hj;omega⟩;simp only[Instr.findAsking,Sem.run_bind,hs,Result.andThen_ok,Bool.false_eq_true,if_false,g1];cases r with
    | none=>rfl
    | some j=>
     have:=g2 j rfl;simp only[Option.bind_some];rw[show j-i=(j-(i+1))+1 by omega];simp
theorem In {w:World} {H:Aa} {kt:TypeId} {k:DVal} {x:Value} (hk:Fy P (P.underlying kt) k=true) (h:Rel w H k x) {es:List (DVal×DVal)} {ms:List MapEntry} (hm:Ms w H es ms) {r:Option Nat} (hf:Cl k es 0=some r):
  (Instr.findKey kt x ms).run P w= .ok (r.bind fun j=>(ms[j]?).map fun m=>(j,m.val)) w:=by
 rcases Zg hk with hk | ⟨a,b,rfl,hk⟩
 ·exact Al2 hk h hm hf
 ·obtain⟨g1,_⟩:=Tx hk h hm 0 hf;simp only[Nat.sub_zero] at g1;obtain⟨e,ie,h1,h2,h3,h4⟩:=Au2 hk;cases ms with
  | nil=>
   have:es= []:=by cases es with
    | nil=>rfl
    | cons p es=>obtain⟨m,ms',e,_⟩:=hm;cases e
   subst this;simp only[Cl] at hf;cases hf;simp [Instr.findKey,run_underlying h1,Instr.findNow]
  | cons m ms=>
   have hn:Instr.findNow (.array 2 e) x (m::ms) 0=none:=by simp [Instr.findNow,Instr.sameNow]
   simp [Instr.findKey,run_underlying h1,hn,g1]
theorem Hq {w:World} {H:Aa} {kt:TypeId} {k:DVal} {x:Value} {b:Bool} (hk:Fy P (P.underlying kt) k=true) (h:Rel w H k x):(Instr.checkKey b (9999+1) kt x).run P w= .ok () w:=by
 rcases Zg hk with hk | ⟨c,d,rfl,hk⟩
 ·exact Ac7 hk h 9999
 ·obtain⟨e,ie,h1,h2,h3,h4⟩:=Au2 hk;simp only[Rel,Ap] at h;obtain⟨xs,rfl,y,ys,hx,rfl,z,zs,rfl,rfl,rfl⟩:=h;have hag:Br P e=some false:=by simp [Br,h2]
  have hxs:xs= #[.bool c, .bool d]:=by apply Array.ext';simpa using hx
  subst hxs;have hp0:(part e #[Value.bool c, .bool d] 0).run P w= .ok (.bool c) w:=by simp [part,Fz hag]
  have hp1:(part e #[Value.bool c, .bool d] 1).run P w= .ok (.bool d) w:=by simp [part,Fz hag]
  have hsz:=Bg (P:=P) (w:=w) (t:=e) (by rw[h3];rfl);rw[h4] at hsz;have main: ∀n,(Instr.checkKey b (n+1+1) kt (.agg #[.bool c, .bool d])).run P w= .ok () w:=fun n=>by
   simp [Instr.checkKey,run_underlying h1,run_underlying h2,hsz,Std.Legacy.Range.forIn_eq_forIn_range',Std.Legacy.Range.size,List.range',hp0,hp1]
  exact main 9998
theorem Br7 (hS:Sim G N s a w) (hd:Be N o.dst=true) {t:TypeId} {x k:Operand} {ok:Bool} (hx:Ay N x=true) (hk:Ay N k=true) (he:o.op= .lookup t x k ok)
  (h:Qm P ok o.dst (P.underlying t) (dev G s.env x) (dev G s.env k) K s):o.wp P a w (Dg G N K s w) Qx:=by
 have rx:=Aq hS hx;have rk:=Aq hS hk;generalize hu:P.underlying t=u at h;generalize dev G s.env x=dx at h rx;generalize dev G s.env k=dk at h rk;unfold Qm at h;split at h<;>try exact h.elim
 ·rename_i kt e r
  obtain⟨hkt,h⟩:=h;simp only[Rel] at rx;cases hh:s.heap r with
  | none=>rw[hh] at h;exact h.elim
  | some ob=>
   cases ob with
   | loop=>rw[hh] at h;exact h.elim
   | iter=>rw[hh] at h;exact h.elim
   | cells=>rw[hh] at h;exact h.elim
   | map es=>
    rw[hh] at h;simp only[At4] at h;obtain⟨ms,clock,ho,hm⟩:=hS.heap r _ hh;cases hf:Cl dk es 0 with
    | none=>rw[hf] at h;cases hz:Ax P e<;>rw[hz] at h<;>exact h.elim
    | some fi=>
     rw[hf] at h;have hfk:=In (P:=P) (w:=w) hkt rk hm hf;have hck:=fun b=>Hq (P:=P) (w:=w) (b:=b) hkt rk;have hgo:=Jr (P:=P) ho rfl;cases fi with
     | some i=>
      have h': ∃p,es[i]? =some p/\At3 ok o.dst p.2 true K s:=by
       cases hz:Ax P e<;>rw[hz] at h<;>exact h
      obtain⟨p,hp,hK⟩:=h';obtain⟨m,hmi,r1,r2⟩:=hm.get hp;have hmi':ms[i]? =some m:=by rw[<-Array.getElem?_toList];exact hmi
      simp only[Option.bind_some,hmi,Option.map_some] at hfk;refine Ek hS hd (x:=if ok then .tuple #[m.val, .bool true] else m.val) ?_ ?_ hK
      ·cases ok<;>simp [execOp,he,rx,Instr.lookup,run_underlying hu,hgo,hck,hfk]
      ·cases ok
       ·exact r2
       ·simp only[if_true,Rel,Ap];exact⟨_,rfl,_,_,rfl,r2,_,_,rfl,rfl,rfl⟩
     | none=>
      simp only[Option.bind_none] at hfk;cases hz:Ax P e with
      | none=>rw[hz] at h;exact h.elim
      | some z=>
       rw[hz] at h;obtain⟨ie,v,hie,hiz,rfl⟩:=Ga hz;refine Ek hS hd (x:=if ok then .tuple #[v, .bool false] else v) ?_ ?_ h
       ·cases ok<;>simp [execOp,he,rx,Instr.lookup,run_underlying hu,hgo,hck,hfk,zeroValue,typeInfo,hie,hiz]
       ·cases ok
        ·exact Cs w s.heap v
        ·simp only[if_true,Rel,Ap];exact⟨_,rfl,_,_,rfl,Cs w s.heap v,_,_,rfl,rfl,rfl⟩
 ·rename_i kt e
  obtain⟨hkt,h⟩:=h;simp only[Rel] at rx;have hfk:=In (P:=P) (w:=w) (es:= []) (ms:= []) hkt rk rfl (r:=none) rfl;have hck:=fun b=>Hq (P:=P) (w:=w) (b:=b) hkt rk;simp only[Option.bind_none] at hfk;cases hz:Ax P e with
  | none=>rw[hz] at h;exact h.elim
  | some z=>
   rw[hz] at h;obtain⟨ie,v,hie,hiz,rfl⟩:=Ga hz;refine Ek hS hd (x:=if ok then .tuple #[v, .bool false] else v) ?_ ?_ h
   ·cases ok<;>simp [execOp,he,rx,Instr.lookup,run_underlying hu,hck,hfk,zeroValue,typeInfo,hie,hiz]
   ·cases ok
    ·exact Cs w s.heap v
    ·simp only[if_true,Rel,Ap];exact⟨_,rfl,_,_,rfl,Cs w s.heap v,_,_,rfl,rfl,rfl⟩
theorem Br8 (hS:Sim G N s a w) (hd:Be N o.dst=true) {c:Call} {x k:Operand} {t:TypeId} {ts:List TypeId} (hx:Ay N x=true) (hk:Ay N k=true) (he:o.op= .call c) (hc:c.callee= .builtin .delete) (hargs:c.args.toList= [x,k]) (hts:c.argTypes.toList=t::ts)
  (h:Qn P o.dst (P.underlying t) (dev G s.env x) (dev G s.env k) K s):o.wp P a w (Dg G N K s w) Qx:=by
 have rx:=Aq hS hx;have rk:=Aq hS hk;have hm':c.args.map a.eval= #[a.eval x,a.eval k]:=by apply Array.ext';simp [hargs]
 have hex:=Dq (a:=a) he hc;rw[hm'] at hex;have ht':c.argTypes[0]? =some t:=by rw[<-Array.getElem?_toList,hts];rfl
 generalize hu:P.underlying t=u at h;generalize dev G s.env x=dx at h rx;generalize dev G s.env k=dk at h rk;unfold Qn at h;split at h<;>try exact h.elim
 rename_i kt e r
 obtain⟨hkt,h⟩:=h;simp only[Rel] at rx;cases hh:s.heap r with
 | none=>rw[hh] at h;exact h.elim
 | some ob=>
  cases ob with
  | loop=>rw[hh] at h;exact h.elim
  | iter=>rw[hh] at h;exact h.elim
  | cells=>rw[hh] at h;exact h.elim
  | map es=>
   rw[hh] at h;simp only[Vr] at h;obtain⟨ms,clock,ho,hm⟩:=hS.heap r _ hh;cases hf:Cl dk es 0 with
   | none=>rw[hf] at h;exact h.elim
   | some fi=>
    rw[hf] at h;simp only[Vq] at h;have hfk:=In (P:=P) (w:=w) hkt rk hm hf;have hck:=fun b=>Hq (P:=P) (w:=w) (b:=b) hkt rk;have hgo:=Jr (P:=P) ho rfl;have hnn:s.heap r≠none:=by rw[hh];simp
    cases fi with
    | none=>
     simp only[Option.bind_none] at hfk;obtain⟨k1,k2⟩:=Nc (o':= .map ms clock) (ob:= .map es) hS.heap hnn ho rfl rfl (fun w' H' hl=>⟨ms,clock,rfl,hm.lasts hl⟩);have hso:=Gc (P:=P) (.map ms clock) ho rfl;refine Dp hS hd (x:= .tuple #[]) ?_ k2 k1 (by simp [Rel,Ap]) h;rw[hex];simp [builtin,Builtin.delete_,ht',run_underlying hu,rx,hgo,hck,hfk,hso]
    | some i=>
     cases hmi:ms.toList[i]? with
     | none=>
      have hle:ms.toList.length<=i:=by rwa [List.getElem?_eq_none_iff] at hmi
      have he1:es.eraseIdx i=es:=List.eraseIdx_of_length_le (by rw[hm.len];exact hle);simp only[Option.bind_some,hmi,Option.map_none] at hfk;simp only[Ak0,he1] at h;obtain⟨k1,k2⟩:=Nc (o':= .map ms clock) (ob:= .map es) hS.heap hnn ho rfl rfl (fun w' H' hl=>⟨ms,clock,rfl,hm.lasts hl⟩);have hso:=Gc (P:=P) (.map ms clock) ho rfl;refine Dp hS hd (x:= .tuple #[]) ?_ k2 k1 (by simp [Rel,Ap]) h;rw[hex];simp [builtin,Builtin.delete_,ht',run_underlying hu,rx,hgo,hck,hfk,hso]
     | some m=>
      simp only[Option.bind_some,hmi,Option.map_some] at hfk;obtain⟨k1,k2⟩:=Nc (o':= .map (ms.eraseIdxIfInBounds i) clock) (ob:= .map (es.eraseIdx i)) hS.heap hnn ho rfl rfl (fun w' H' hl=>⟨_,clock,rfl,by
       rw[Array.toList_eraseIdxIfInBounds];exact(hm.lasts hl).erase i⟩)
      have hso:=Gc (P:=P) (.map (ms.eraseIdxIfInBounds i) clock) ho rfl;refine Dp hS hd (x:= .tuple #[]) ?_ k2 k1 (by simp [Rel,Ap]) h;rw[hex];simp [builtin,Builtin.delete_,ht',run_underlying hu,rx,hgo,hck,hfk,hso]
theorem Ms.modify {w:World} {H:Aa} {f:MapEntry->MapEntry}: ∀ {es:List (DVal×DVal)} {ms:List MapEntry},Ms w H es ms-> ∀(i:Nat) {p:DVal×DVal},(∀m,Rel w H p.1 (f m).key/\Rel w H p.2 (f m).val)->Ms w H (es.set i p) (ms.modify i f)
 | [],_,h,i,p,_=>by rw[show _=_ from h];cases i<;>exact rfl
 | q::es,ms,h,0,p,k=>by
  obtain⟨m',ms',rfl,h1,h2,h3⟩:=h;exact⟨f m',ms',rfl,(k m').1,(k m').2,h3⟩
 | q::es,ms,h,i+1,p,k=>by
  obtain⟨m',ms',rfl,h1,h2,h3⟩:=h;exact⟨m',_,rfl,h1,h2,Ms.modify h3 i k⟩
theorem Vw {k:DVal}: ∀ {es:List (DVal×DVal)} {n i:Nat},Cl k es n=some (some i)-> ∃p,n<=i/\es[i-n]? =some p/\Jj k p.1=some true
 | [],n,i,h=>by simp [Cl] at h
 | q::es,n,i,h=>by
  simp only[Cl] at h;cases hb:Jj k q.1 with
  | none=>rw[hb] at h;cases h
  | some b=>
   rw[hb] at h;cases b with
   | true=>simp only[Ll] at h;cases h;exact⟨q,Nat.le_refl _,by simp,hb⟩
   | false=>
    simp only[Ll] at h;obtain⟨p,h1,h2,h3⟩:=Vw h;refine⟨p,by omega, ?_,h3⟩;rw[show i-n=(i-(n+1))+1 by omega];simpa using h2
theorem Bh5 {w:World} {H:Aa} {k k':DVal} {x x':Value} (h:Rel w H k x) (h':Rel w H k' x') (hb:Jj k k'=some true) (n:Nat):Instr.sameBits (n+1) x' x=true:=by
 cases k<;>(try (simp [Jj] at hb;done))<;>cases k'<;>simp only[Jj] at hb<;>(try (cases hb;done))
 ·simp only[Rel] at h h';subst h;subst h';simp at hb;subst hb;cases n<;>simp [Instr.sameBits]
 ·split at hb<;>simp at hb
  rename_i e;subst e;subst hb
  simp only[Rel] at h h';subst h;subst h';cases n<;>simp [Instr.sameBits]
 ·simp only[Rel] at h h';subst h;subst h';simp at hb;subst hb;have e1: ∀l:List UInt8,((⟨⟨l⟩⟩:ByteArray)==⟨⟨l⟩⟩)=true:=fun l=>by
   show((⟨l⟩:Array UInt8)==⟨l⟩)=true;simp
  cases n<;>simp [Instr.sameBits,e1]
 ·rename_i cs1 cs2
  have hb:Jj (.agg cs1) (.agg cs2)=some true:=hb;obtain⟨a,b,e1⟩: ∃a b,cs1= [.bool a, .bool b]:=by
   unfold Jj at hb;split at hb;all_goals first | (cases hb;done) | skip
   all_goals first | (rename_i heq _;cases heq;done) | skip
   rename_i h1 h2
   cases h1;exact⟨_,_,rfl⟩
  subst e1;obtain⟨c,d,e2,e3⟩:=Bc3 hb;cases e2;have e3:=e3.symm;simp only[Bool.and_eq_true,decide_eq_true_eq] at e3;obtain⟨rfl,rfl⟩:=e3;have g: ∃xs,x= .agg xs/\Ap w H [.bool a, .bool b] xs.toList:=h;have g': ∃xs,x'= .agg xs/\Ap w H [.bool a, .bool b] xs.toList:=h';obtain⟨xs,rfl,hx⟩:=g;obtain⟨ys,rfl,hy⟩:=g';simp only[Ap,Rel] at hx hy;obtain⟨_,_,hx,rfl,_,_,rfl,rfl,rfl⟩:=hx;obtain⟨_,_,hy,rfl,_,_,rfl,rfl,rfl⟩:=hy;have hxs:xs= #[.bool a, .bool b]:=by apply Array.ext';simpa using hx
  have hys:ys= #[.bool a, .bool b]:=by apply Array.ext';simpa using hy
  subst hxs;subst hys;cases n<;>simp [Instr.sameBits]
theorem Al3 (hS:Sim G N s a w) {t:TypeId} {x k y:Operand} (hx:Ay N x=true) (hk:Ay N k=true) (hy:Ay N y=true) (he:o.op= .mapUpdate t x k y\/o.op= .insert t x k y)
  (h:Jo P o.dst (P.underlying t) (dev G s.env x) (dev G s.env k) (dev G s.env y) K s):o.wp P a w (Dg G N K s w) Qx:=by
 have rx:=Aq hS hx;have rk:=Aq hS hk;have ry:=Aq hS hy;generalize hu:P.underlying t=u at h;generalize dev G s.env x=dx at h rx;generalize dev G s.env k=dk at h rk;generalize dev G s.env y=dy at h ry;unfold Jo at h;split at h<;>try exact h.elim
 rename_i kt e r
 obtain⟨hdst,hkt,h⟩:=h;simp only[Rel] at rx;cases hh:s.heap r with
 | none=>rw[hh] at h;exact h.elim
 | some ob=>
  cases ob with
  | loop=>rw[hh] at h;exact h.elim
  | iter=>rw[hh] at h;exact h.elim
  | cells=>rw[hh] at h;exact h.elim
  | map es=>
   rw[hh] at h;obtain⟨hone,h⟩:=h;obtain⟨ms,clock,ho,hm⟩:=hS.heap r _ hh;cases hf:Cl dk es 0 with
   | none=>rw[hf] at h;exact h.elim
   | some fi=>
    rw[hf] at h;simp only[Qk] at h;have hfk:=In (P:=P) (w:=w) hkt rk hm hf;have hck:=fun b=>Hq (P:=P) (w:=w) (b:=b) hkt rk;have hgo:=Jr (P:=P) ho rfl;have hnn:s.heap r≠none:=by rw[hh];simp
    have fin: ∀ {o':Obj} {es':List (DVal×DVal)},Gq o'=true->(∀w' H',Lasts s.heap w H' w'->Pe w' H' (.map es') (some o'))->(execOp a.eval o).run P w= .ok .skip (w.putObj r o')->K ⟨s.env,upd s.heap r (some (.map es'))⟩->o.wp P a w (Dg G N K s w) Qx:=by
     intro o' es' hb' hob hrun hK;obtain⟨k1,k2⟩:=Nc hS.heap hnn ho rfl hb' hob;unfold Oper.wp;rw[hrun];show Dg G N K s w (a.put o.dst undef) _;rw[hdst];exact⟨_,hK,hS.ext k2 k1,k2⟩
    cases fi with
    | none=>
     simp only[Option.bind_none] at hfk;have hso:=Gc (P:=P) (.map (ms.push { key:=a.eval k,val:=a.eval y,born:=clock }) (clock+1)) ho rfl;refine fin (o':= .map (ms.push { key:=a.eval k,val:=a.eval y,born:=clock }) (clock+1)) rfl (fun w' H' hl=>⟨_,_,rfl, ?_⟩) ?_ h
     ·rw[Array.toList_push];exact(hm.lasts hl).app (fs:= [(dk,dy)]) ⟨_,[],rfl,Rel.lasts hl _ _ rk,Rel.lasts hl _ _ ry,rfl⟩
     ·rcases he with he | he<;>simp [execOp,he,rx,Instr.mapUpdate,run_underlying hu,hgo,hck,hfk,hso]
    | some i=>
     obtain⟨p,_,hp,hkey⟩:=Vw hf;rw[Nat.sub_zero] at hp;obtain⟨m,hmi,r1,r2⟩:=hm.get hp;have hmi':ms[i]? =some m:=by rw[<-Array.getElem?_toList];exact hmi
     simp only[Option.bind_some,hmi,Option.map_some] at hfk;have hsb:=Bh5 rk r1 hkey 9999;have hso:=Gc (P:=P) (.map (ms.modify i fun e=> { e with key:=a.eval k,val:=a.eval y }) clock) ho rfl;refine fin (o':= .map (ms.modify i fun e=> { e with key:=a.eval k,val:=a.eval y }) clock) rfl (fun w' H' hl=>⟨_,_,rfl, ?_⟩) ?_ h
     ·rw[Array.toList_modify];exact(hm.lasts hl).modify i (fun m=>⟨Rel.lasts hl _ _ rk,Rel.lasts hl _ _ ry⟩)
     ·rcases he with he | he<;>simp [execOp,he,rx,Instr.mapUpdate,run_underlying hu,hgo,hck,hfk,hmi',Instr.keyThatStays,hsb,hso]
end
end Go.Dl

-- THE DATA LEVEL, PART V: calls, regions, code: what the data level says of a piece of code is true of the model's.
namespace Go.Dl
open Go
section
variable {P:Program} {G:Nat->DVal} {N:Fr}
variable {o:Oper} {s s0:DS} {a:Act} {w w0:World} {K:DK} {Q:DExit->DS->Prop}
theorem Ar.mono {f:FuncId} {args:List DVal} {H:Aa} {R R':DEnd->Aa->Prop} (h:Ar P G f args H R) (hr: ∀e H',R e H'->R' e H'):Ar P G f args H R':=
 ⟨h.1,fun vs w hv hH hG=>(h.2 vs w hv hH hG).mono fun e w' ⟨e',H',r,k⟩=>⟨e',H',hr _ _ r,k⟩⟩
theorem Us.mono {l:Nat} {args:List DVal} {H:Aa} {R R':DEnd->Aa->Prop} (h:Us P G l args H R) (hr: ∀e H',R e H'->R' e H'):Us P G l args H R':=
 fun F n hF vs w hv hH hG=>by
  obtain⟨fn,tmps,asg,body,h1,h2⟩:=h F n hF vs w hv hH hG;exact⟨fn,tmps,asg,body,h1,h2.mono fun e w' ⟨e',H',r,k⟩=>⟨e',H',hr _ _ r,k⟩⟩
theorem Cr1 (hS:Sim G N s a w) (hE0:Ext s0.heap w0 s.heap w) (hd:Be N o.dst=true) {c:Call} {f:Operand} (hf:Ay N f=true) (hx:c.args.toList.all (Ay N)=true) (he:o.op= .call c) (hc:c.callee= .value f)
  (hny: ∀l,dev G s.env f≠ .func (.yield l) [] []) (h:Si P G (Cj G s.env c.args.toList) o.dst Q (dev G s.env f) K s):o.wp P a w (Dg G N K s w) (Ii G N Q s0 w0):=by
 have rf:=Aq hS hf;have rl:=Jc hS hx;generalize dev G s.env f=df at h rf hny;generalize Cj G s.env c.args.toList=ds at h rl;unfold Si at h;split at h<;>try first | exact h.elim | exact(hny _ rfl).elim
 rename_i k first captured
 simp only[Rel] at rf;obtain⟨xs,ys,hfv,h1,h2⟩:=rf;obtain⟨hcall,hcalls⟩:=h;have hargs:Ap w s.heap (first++ds++captured) (xs.toList++c.args.toList.map a.eval++ys.toList):=(h1.append rl).append h2;have harr:(xs++c.args.map a.eval++ys)=(xs.toList++c.args.toList.map a.eval++ys.toList).toArray:=by apply Array.ext';simp
 have hrun:(execOp a.eval o).run P w= .ok (.enter k (xs++c.args.map a.eval++ys)) w:=by
  simp only[execOp,he,resolve,hc,hfv,Deferred.ofValue,Sem.run_bind,Sem.run_pure,Result.andThen_ok,invoke,hcall]
 unfold Oper.wp;rw[hrun,harr];refine(hcalls _ _ hargs hS.heap hS.glob).mono fun e w' ⟨e',H',hR,hre,hH',hE⟩=> ?_;cases hre with
 | ret d v hv=>exact⟨_,hR,(hS.ext hE hH').put hd hv,hE⟩
 | panic d v hv=>exact⟨_,_,hR, .panic _ _ hv,hS.ext hE hH',hE0.trans hE⟩
theorem Hd (h:Ef N o=true):Be N o.dst=true:=by
 unfold Ef at h;rw[Bool.and_eq_true] at h;unfold Be;exact h.1
theorem Vx {α:Type} (p:α->Bool) (xs:Array α):xs.all p=xs.toList.all p:=by
 rw[<-Array.all_toList]
theorem Al4 {x:DVal} {v:Value} (hS:Sim G N s a w) (hE0:Ext s0.heap w0 s.heap w) (hrun:(execOp a.eval o).run P w=((Instr.panic v).run P w).andThen fun v w'=> .ok (.value v) w') (hv:Rel w s.heap x v) (h:My Q s x) {next:Act->World->Prop}:o.wp P a w next (Ii G N Q s0 w0):=by
 unfold My at h;split at h<;>try exact h.elim
 have hv':=hv;simp only[Rel] at hv;obtain⟨y,rfl,hy⟩:=hv;unfold Oper.wp;rw[hrun];simp only[Instr.panic,goPanic,Sem.run_halt,Result.andThen_halt];exact⟨_,s,h, .panic _ _ hv',hS,hE0⟩
theorem Bh6 (hny: ∀c f l,o.op= .call c->c.callee= .value f->dev G s.env f≠ .func (.yield l) [] []) (hok:Ef N o=true) (hS:Sim G N s a w) (hE0:Ext s0.heap w0 s.heap w) (h:dop P G o.dst K Q s o.op):o.wp P a w (Dg G N K s w) (Ii G N Q s0 w0):=by
 have hd:=Hd hok
 unfold Ef at hok
 rw[Bool.and_eq_true] at hok
 have hop:=hok.2
 rw[Vx] at hop
 cases hq:o.op<;>rw[hq] at h hop<;>simp only[Op.operands,Call.operands,List.all_cons,List.all_nil,Bool.and_true,Bool.and_eq_true] at hop<;>try (exact h.elim)
 case move x=>exact(Cq3 hS hd hop hq h).wp hS hd
 case assign x=>exact(Br0 hS hd hop hq h).wp hS hd
 case pick c x y=>exact(Cq4 hS hd hop.1 hop.2.1 hop.2.2 hq h).wp hS hd
 case alloc e=>exact Ce8 hS hd hq h
 case box e x=>exact Cy4 hS hd hop hq h
 case build t ps=>exact Cf0 hS hd (by simpa [Function.comp_def] using hop) hq h
 case buildSlice t n ps=>exact Ac4 hS hd (by simpa [Function.comp_def] using hop) hq h
 case load t x=>exact(Cq5 hS hd hop hq h).wp hS hd
 case store t x y=>exact Ce9 hS hop.1 hop.2 hq h
 case nilCheck x=>exact(At6 hS hd hop hq h).wp hS hd
 case binOp op t x y t'=>exact(Cq8 hS hd hop.1 hop.2 hq h).wp hS hd
 case unOp op t x=>exact(Cq6 hS hd hop hq h).wp hS hd
 case convert src t x=>exact(Cf5 hS hd hop hq h).wp hS hd
 case range t x=>exact Cf6 hS hd hop hq h
 case next x b=>exact Cq9 hS hd hop hq h
 case makeInterface t x=>exact(Ak2 hS hd hop hq h).wp hS hd
 case makeFunc fn fs cs=>
  simp only[Array.toList_append,List.all_append,Bool.and_eq_true] at hop
  exact(At7 hS hd hop.1 hop.2 hq h).wp hS hd
 case makeMap t x=>
  have opt: ∀(z:Option Operand),z.toArray.toList.all (Ay N)=true->(match z with | some x=>Ay N x | none=>true)=true:=by
   intro z hz;cases z with
   | none=>rfl
   | some z=>simpa using hz
  exact Bh4 hS hd (opt _ hop) hq h
 case lookup t x k ok=>exact Br7 hS hd hop.1 hop.2 hq h
 case mapUpdate t m k x=>exact Al3 hS hop.1 hop.2.1 hop.2.2 (.inl hq) h
 case insert t m k x=>exact Al3 hS hop.1 hop.2.1 hop.2.2 (.inr hq) h
 case makeSlice t l c=>exact Ak6 hS hd hop.1 hop.2 hq h
 case slice t x lo hi mx=>
  simp only[Array.toList_append,List.all_append,Bool.and_eq_true,List.all_cons,List.all_nil,Bool.and_true] at hop
  have opt: ∀(z:Option Operand),z.toArray.toList.all (Ay N)=true->(match z with | some x=>Ay N x | none=>true)=true:=by
   intro z hz;cases z with
   | none=>rfl
   | some z=>simpa using hz
  exact(Cf3 hS hd hop.1.1.1 (opt _ hop.1.1.2) (opt _ hop.1.2) (opt _ hop.2) hq h).wp hS hd
 case fieldAddr t x f=>exact(Ak4 hS hd hop hq h).wp hS hd
 case field t x f=>exact(Cf1 hS hd hop hq h).wp hS hd
 case indexAddr t x i=>exact(Ak5 hS hd hop.1 hop.2 hq h).wp hS hd
 case index t x i=>exact(Cf2 hS hd hop.1 hop.2 hq h).wp hS hd
 case typeAssert x t u ok=>exact(Ac5 hS hd hop hq h).wp hS hd
 case extract x i=>exact(Bg8 hS hd hop hq h).wp hS hd
 case panic x=>
  exact Al4 hS hE0 (v:=a.eval x) (by simp [execOp,hq]) (Aq hS hop) h
 case call c=>
  simp only[dop] at h
  simp only[Array.toList_append,List.all_append,Bool.and_eq_true] at hop
  obtain⟨hcal,hargs⟩:=hop
  cases hc:c.callee with
  | invoke r m=>rw[hc] at h;exact h.elim
  | value f=>
   rw[hc] at h hcal
   simp only[Jp] at h
   exact Cr1 hS hE0 hd (by simpa using hcal) hargs hq hc (fun l=>hny c f l hq hc) h
  | builtin b=>
   rw[hc] at h
   simp only[Jp] at h
   cases b<;>(try (cases hdv:Cj G s.env c.args.toList<;>rw[hdv] at h<;>exact h.elim))
   case len=>
    cases hdv:Cj G s.env c.args.toList with
    | nil=>rw[hdv] at h;exact h.elim
    | cons d ds=>cases ds with
     | cons d2 ds=>rw[hdv] at h;exact h.elim
     | nil=>
      obtain⟨x,hx,rfl⟩:=Qs hdv
      rw[hdv] at h
      rw[hx] at hargs
      simp only[Et] at h
      cases hts:c.argTypes.toList with
      | nil=>rw[hts] at h;exact h.elim
      | cons t ts=>cases ts with
       | nil=>rw[hts] at h;exact(Cy5 hS hd (by simpa using hargs) hq hc hx hts h).wp hS hd
       | cons t' ts'=>rw[hts] at h;exact h.elim
   case cap=>
    cases hdv:Cj G s.env c.args.toList with
    | nil=>rw[hdv] at h;exact h.elim
    | cons d ds=>cases ds with
     | cons d2 ds=>rw[hdv] at h;exact h.elim
     | nil=>
      obtain⟨x,hx,rfl⟩:=Qs hdv
      rw[hdv] at h
      rw[hx] at hargs
      simp only[Et] at h
      cases hts:c.argTypes.toList with
      | nil=>rw[hts] at h;exact h.elim
      | cons t ts=>cases ts with
       | nil=>rw[hts] at h;exact(Cy6 hS hd (by simpa using hargs) hq hc hx hts h).wp hS hd
       | cons t' ts'=>rw[hts] at h;exact h.elim
   case clear=>
    cases hdv:Cj G s.env c.args.toList with
    | nil=>rw[hdv] at h;exact h.elim
    | cons d ds=>cases ds with
     | cons d2 ds=>rw[hdv] at h;exact h.elim
     | nil=>
      obtain⟨x,hx,rfl⟩:=Qs hdv
      rw[hdv] at h
      rw[hx] at hargs
      simp only[Et] at h
      cases hts:c.argTypes.toList with
      | nil=>rw[hts] at h;exact h.elim
      | cons t ts=>cases ts with
       | nil=>rw[hts] at h;exact Cf4 hS hd (by simpa using hargs) hq hc hx hts h
       | cons t' ts'=>rw[hts] at h;exact h.elim
   case delete=>
    cases hdv:Cj G s.env c.args.toList with
    | nil=>rw[hdv] at h;exact h.elim
    | cons d ds=>cases ds with
     | nil=>rw[hdv] at h;exact h.elim
     | cons d2 ds=>cases ds with
      | cons d3 ds=>rw[hdv] at h;exact h.elim
      | nil=>
       obtain⟨x,y,hx,rfl,rfl⟩:=Ak8 hdv
       rw[hdv] at h
       rw[hx] at hargs
       simp only[List.all_cons,List.all_nil,Bool.and_true,Bool.and_eq_true] at hargs
       simp only[Et] at h
       cases hts:c.argTypes.toList with
       | nil=>rw[hts] at h;exact h.elim
       | cons t ts=>rw[hts] at h;exact Br8 hS hd hargs.1 hargs.2 hq hc hx hts h
   case append=>
    cases hdv:Cj G s.env c.args.toList with
    | nil=>rw[hdv] at h;exact h.elim
    | cons d ds=>cases ds with
     | nil=>rw[hdv] at h;exact h.elim
     | cons d2 ds=>cases ds with
      | cons d3 ds=>rw[hdv] at h;exact h.elim
      | nil=>
       obtain⟨x,y,hx,rfl,rfl⟩:=Ak8 hdv
       rw[hdv] at h
       rw[hx] at hargs
       simp only[List.all_cons,List.all_nil,Bool.and_true,Bool.and_eq_true] at hargs
       simp only[Et] at h
       cases hts:c.argTypes.toList with
       | nil=>rw[hts] at h;exact h.elim
       | cons t ts=>cases ts with
        | nil=>rw[hts] at h;exact h.elim
        | cons t' ts'=>cases ts' with
         | nil=>
          rw[hts] at h
          simp only[Kr] at h
          cases hit:Gm (P.underlying t') with
          | true=>rw[hit] at h;exact Bh3 hS hd hargs.1 hargs.2 hq hc hx hts hit h
          | false=>rw[hit] at h;exact Br5 hS hd hargs.1 hargs.2 hq hc hx hts h
         | cons t3 ts3=>rw[hts] at h;exact h.elim
   case min=>exact(Ak9 (isMax:=false) hS hd hargs hq hc h).wp hS hd
   case max=>exact(Ak9 (isMax:=true) hS hd hargs hq hc h).wp hS hd
   case panic=>
    cases hdv:Cj G s.env c.args.toList with
    | nil=>rw[hdv] at h;exact h.elim
    | cons d ds=>cases ds with
     | cons d2 ds=>rw[hdv] at h;exact h.elim
     | nil=>
      obtain⟨x,hx,rfl⟩:=Qs hdv
      rw[hdv] at h
      rw[hx] at hargs
      have hm:c.args.map a.eval= #[a.eval x]:=by apply Array.ext';simp [hx]
      refine Al4 hS hE0 (v:=a.eval x) ?_ (Aq hS (by simpa using hargs)) h
      rw[Dq hq hc,hm]
      simp [builtin]
theorem Qu: ∀(all:List Oper) (j:Nat),Ih all j=(all[j]?).bind (·.dst)
 | [],j=>by simp [Ih]
 | o::r,0=>by simp [Ih]
 | o::r,j+1=>by simp [Ih,Qu r j]
theorem Al5 {dst:Option Nat} {K:DK} {Q:DExit->DS->Prop} {s:DS} {op:Op} (h:dop P G dst K Q s op) (c:Call):op≠ .defer c:=by
 intro e;subst e;exact h
theorem Cf7 {F:Fence} {n:Nat} (hF:FOk F) (hS:Sim G N s a w) (hE0:Ext s0.heap w0 s.heap w) (hd:Be N o.dst=true) {c:Call} {f:Operand} {l:Nat} (hf:Ay N f=true) (hx:c.args.toList.all (Ay N)=true) (he:o.op= .call c) (hc:c.callee= .value f)
  (hy:dev G s.env f= .func (.yield l) [] []) (h:Us P G l (Cj G s.env c.args.toList) s.heap (Ac1 o.dst K Q s.env)):o.wpIn F n P a w (Dg G N K s w) (Ii G N Q s0 w0):=by
 have rf:=Aq hS hf;have rl:=Jc hS hx;rw[hy] at rf;generalize Cj G s.env c.args.toList=ds at h rl;simp only[Rel,Ap] at rf;obtain⟨xs,ys,hfv,h1,h2⟩:=rf;have hxs:xs= #[]:=by cases xs;simp at h1;subst h1;rfl
 subst hxs;obtain⟨fn,tmps,asg,body,hrun,hround⟩:=h F (n-1) hF _ w rl hS.heap hS.glob;have hrun':(execOp a.eval o).run P w= .ok (.round l fn tmps asg body) w:=by
  have:(c.args.toList.map a.eval).toArray=c.args.map a.eval:=by apply Array.ext';simp
  rw[this] at hrun;simp only[execOp,he,resolve,hc,hfv,Deferred.ofValue,Sem.run_bind,Sem.run_pure,Result.andThen_ok,invoke];simpa using hrun
 refine⟨fun f _=>hF.fn f, ?_⟩;rw[Oper.semAt_eq _ _ _ (by intro c' e;rw[he] at e;cases e),hrun',Oper.uponIn_round];refine⟨(by rw[hF.depth];intro hh;cases hh),hround.mono fun e w' ⟨e',H',hR,hre,hH',hE⟩=> ?_⟩;cases hre with
 | ret d v hv=>exact⟨_,hR,(hS.ext hE hH').put hd hv,hE⟩
 | panic d v hv=>exact⟨_,_,hR, .panic _ _ hv,hS.ext hE hH',hE0.trans hE⟩
theorem Js {F:Fence} {n:Nat} (hF:FOk F) (hok:Ef N o=true) (hS:Sim G N s a w) (hE0:Ext s0.heap w0 s.heap w) (h:dop P G o.dst K Q s o.op):o.wpIn F n P a w (Dg G N K s w) (Ii G N Q s0 w0):=by
 by_cases hy: ∃c f l,o.op= .call c/\c.callee= .value f/\dev G s.env f= .func (.yield l) [] []
 ·obtain⟨c,f,l,h1,h2,h3⟩:=hy;have hd:=Hd hok;unfold Ef at hok;rw[Bool.and_eq_true] at hok;have hop:=hok.2;rw[Vx] at hop;rw[h1] at h hop;simp only[Op.operands,Call.operands,Array.toList_append,List.all_append,Bool.and_eq_true] at hop;obtain⟨hcal,hargs⟩:=hop;rw[h2] at hcal;simp only[dop,h2,Jp,h3,Si] at h;exact Cf7 hF hS hE0 hd (by simpa using hcal) hargs h1 h2 h3 h
 ·exact hF.oper (Al5 h) (Bh6 (fun c f l h1 h2 h3=>hy ⟨c,f,l,h1,h2,h3⟩) hok hS hE0 h)
theorem Pq {F:Fence} {n:Nat} (hF:FOk F) (all:List Oper) (hall:all.all (Ef N)=true): ∀(rest:List Oper),rest.all (Ef N)=true-> ∀(s:DS) (a:Act) (w:World),Sim G N s a w->Ext s0.heap w0 s.heap w->Hb P G all Q rest s->
  wpListIn F n P all.toArray (Ii G N Q s0 w0) rest a w
 | [],_,s,a,w,hS,hE,h=>⟨.normal,s,h, .normal,hS,hE⟩
 | o::rest,hr,s,a,w,hS,hE,h=>by
  simp only[List.all_cons,Bool.and_eq_true] at hr;have next: ∀(o:Oper) s a w,Sim G N s a w->Ext s0.heap w0 s.heap w->Ef N o=true->dop P G o.dst (Hb P G all Q rest) Q s o.op->o.wpIn F n P a w (wpListIn F n P all.toArray (Ii G N Q s0 w0) rest) (Ii G N Q s0 w0):=by
   intro o s a w hS hE hok hd;exact Oper.wpIn_mono (fun a' w' ⟨s',hK,hS',hE'⟩=>Pq hF all hall rest hr.2 s' a' w' hS' (hE.trans hE') hK) (Js hF hok hS hE hd)
  have skip:Av o.dst Bp (Hb P G all Q rest) s->wpListIn F n P all.toArray (Ii G N Q s0 w0) rest (a.put o.dst undef) w:=fun hp=>
   Pq hF all hall rest hr.2 _ _ _ (hS.put (Hd hr.1) (Lm w s.heap)) hE hp
  unfold wpListIn;simp only[Hb] at h;cases hg:o.guard with
  | none=>
   rw[hg] at h;rw[if_pos (by simp [Region.wanted,hg])];exact(next o s a w hS hE hr.1 h)
  | some jb=>
   obtain⟨j,b⟩:=jb;rw[hg] at h;simp only at h;cases hj:Ih all j with
   | none=>rw[hj] at h;exact h.elim
   | some g=>
    rw[hj] at h;simp only at h;have hjo:(all[j]?).bind (·.dst)=some g:=by rw[<-Qu];exact hj
    obtain⟨oj,hoj,hdj⟩:=Option.bind_eq_some_iff.1 hjo;have hmem:oj∈all:=List.mem_of_getElem? hoj;have hgN:g<N:=by
     have:=List.all_eq_true.1 hall oj hmem;have:=Hd this;rw[hdj] at this;simpa [Be] using this
    have hrel:=hS.tmps g hgN;by_cases hun:s.env g= .tuple []
    ·rw[hun] at h hrel;simp only[Rel,Ap] at hrel;obtain⟨xs,hxs,hx0⟩:=hrel;have hy:yielded all.toArray a.tmps j=none:=by
      have h2: ∀z,a.tmps[g]? =some z->z= .tuple xs:=fun z hz=>by
       rw[Array.getD_eq_getD_getElem?,hz] at hxs;simpa using hxs
      unfold yielded;simp only[List.getElem?_toArray,hjo,Option.bind_some];cases hz:a.tmps[g]? with
      | none=>rfl
      | some z=>rw[h2 z hz]
     rw[if_neg (by simp [Region.wanted,hg,hy])];exact⟨fun f _=>hF.fn f,skip h⟩
    split at h<;>(try exact h.elim)<;>(try (rename_i hv;exact absurd hv hun))
    rename_i v hv
    rw[hv] at hrel;simp only[Rel] at hrel;have hy:yielded all.toArray a.tmps j=some v:=by
     have h1:a.tmps[g]? =some (.bool v):=by
      rw[Array.getD_eq_getD_getElem?] at hrel;cases hq:a.tmps[g]? with
      | none=>
       have:=hS.size;rw[Array.getElem?_eq_none_iff] at hq;omega
      | some z=>rw[hq] at hrel;simpa using hrel
     simp [yielded,hoj,hdj,h1]
    by_cases hvb:v=b
    ·rw[if_pos (by simp [Region.wanted,hg,hy,hvb])];exact(next o s a w hS hE hr.1 (h.1 hvb))
    ·rw[if_neg (by simp [Region.wanted,hg,hy,hvb])];exact⟨fun f _=>hF.fn f,skip (h.2 hvb)⟩
end
end Go.Dl

-- THE DATA LEVEL, PART E: the equations by which a piece of code is worked out.
namespace Go.Dl
open Go
section
variable {P:Program} {G:Nat->DVal} {N:Nat} {all:List Oper} {Q:DExit->DS->Prop} {s:DS} {rest:List Oper}
theorem Br9:Hb P G all Q [] s=Q .normal s:=rfl
theorem Bh7 {dst:Option Nat} {op:Op} {t:TypeId} {p:String} {a:Array Edge}:Hb P G all Q (⟨dst,op,t,p,a,none⟩::rest) s=dop P G dst (Hb P G all Q rest) Q s op:=rfl
theorem Bh8 (dst:Option Nat) (op:Op) (b:Bool) (g:DVal):At5 P G all Q dst op rest s b g=(match g with
  | .bool v=>(v=b->dop P G dst (Hb P G all Q rest) Q s op)/\(v≠b->Av dst Bp (Hb P G all Q rest) s)
  | .tuple []=>Av dst Bp (Hb P G all Q rest) s
  | _=>False):=by
 cases g with
 | bool v=>cases b<;>cases v<;>simp [At5]
 | tuple l=>cases l<;>cases b<;>rfl
 | _=>cases b<;>rfl
theorem Au3 {dst:Option Nat} {op:Op} {t:TypeId} {p:String} {a:Array Edge} {j:Nat} {b:Bool}:
  Hb P G all Q (⟨dst,op,t,p,a,some (j,b)⟩::rest) s=Ac2 P G all Q dst op rest s b (Ih all j):=by
 rw[Hb];cases h:Ih all j with
 | none=>simp [Ac2,h]
 | some g=>
  simp only[Ac2,h,Bh8];rfl
theorem Bs0:dwp P G N .skip Q s=Q .normal s:=rfl
theorem Bh9 {l:Nat}:dwp P G N (.label l) Q s=Q .normal s:=rfl
theorem Au4 {id:Nat} {ops:List Oper}:dwp P G N (.region id ops.toArray false) Q s=Hb P G ops Q ops s:=rfl
theorem Cf8 {a b:Code}:dwp P G N (.seq a b) Q s=dwp P G N a (Db (dwp P G N b Q) Q) s:=rfl
theorem Bs1 {c:Operand} {a b:Code}:dwp P G N (.cond c a b) Q s=Cm0 (dwp P G N a Q) (dwp P G N b Q) s (dev G s.env c):=rfl
theorem Bi0 {id:Nat} {c:Code}:dwp P G N (.block id c) Q s=dwp P G N c (Ac3 id Q) s:=rfl
theorem Bs2 {c:Code}:dwp P G N (.loop c) Q s=Bq8 G (dwp P G N c) Q s:=rfl
theorem Bi1 {c:Code}:dwp P G N (.scope c) Q s=dwp P G N c (Bb8 Q) s:=rfl
theorem Bs3 {id:Nat}:dwp P G N (.exit id) Q s=Q (.exit id) s:=rfl
theorem Cf9:dwp P G N .ret Q s=Q .ret s:=rfl
theorem Bo {α:Type} (f:Nat->α) (i:Nat) (v:α):upd f i v i=v:=by simp [upd]
theorem Bi2 {α:Type} (f:Nat->α) (i j:Nat) (v:α):upd f i v j=if j=i then v else f j:=rfl
end
section
variable {P:Program} {s:DS}
theorem Au5 (e:TypeId):Ce7 (some (.slice e))=true:=rfl
theorem Cg0 {t:TypeId} {c:Bool} {op:BinOp} {dst:Option Nat} {cs:List DVal} {n:Nat} {y:DVal} {K:DK}:Ot P t c op dst true (.vslice cs n) y K s=(Ce7 (P.underlying t)=true/\Cl8 cs op dst K s):=rfl
theorem Bi3 {t:TypeId} {c:Bool} {op:BinOp} {dst:Option Nat} {y:DVal} {K:DK}:Ot P t c op dst true .nilSlice y K s=Gi P t c op dst .nilSlice y K s:=rfl
theorem Cg1 {t:TypeId} {c:Bool} {op:BinOp} {dst:Option Nat} {z r o n l:Nat} {y:DVal} {K:DK}:Ot P t c op dst true (.oslice z r o n l) y K s=Gi P t c op dst (.oslice z r o n l) y K s:=rfl
theorem Au6 (t:Nat):Dh (.tmp t)=false:=rfl
theorem Yf (t:Nat):Dh (.global t)=false:=rfl
theorem Al6 (t:Nat):Dh (.func t)=false:=rfl
theorem Au7 (k:IntKind) (n:Int):Dh (.const (.int k n))=false:=rfl
theorem Al7 (b:Bool):Dh (.const (.bool b))=false:=rfl
theorem Au8 (b:ByteArray):Dh (.const (.string b))=false:=rfl
theorem Au9 (b:Option Addr):Dh (.const (.pointer b))=false:=rfl
theorem Av0 (b:Option Nat):Dh (.const (.map b))=false:=rfl
theorem Bi4:Dh (.const .nilFunc)=false:=rfl
theorem Bi5:Dh (.const .nilIface)=false:=rfl
theorem Av1 (a:Array Value):Dh (.const (.agg a))=false:=rfl
theorem Av2:Dh (.const (.slice none 0 0))=true:=rfl
end
attribute [go_sem] Au5 Hv Cg0 Bi3 Cg1 Au6 Yf Al6 Au7 Al7 Au8 Au9 Av0 Bi4 Bi5 Av1 Av2
theorem Pr {P:Program} {t:TypeId} {c:Bool} {op:BinOp} {dst:Option Nat} {K:DK} {s:DS} {a:Bool} {b:Bool}:Gi P t c op dst (.bool a) (.bool b) K s=Ia dst (Ht op) (Ik c (P.underlying t) (.bool a) (.bool b)) K s:=rfl
theorem Ps {P:Program} {t:TypeId} {c:Bool} {op:BinOp} {dst:Option Nat} {K:DK} {s:DS}:Gi P t c op dst (.nilPtr) (.nilPtr) K s=Ia dst (Ht op) (Ik c (P.underlying t) (.nilPtr) (.nilPtr)) K s:=rfl
theorem Nd {P:Program} {t:TypeId} {c:Bool} {op:BinOp} {dst:Option Nat} {K:DK} {s:DS} {r:Nat} {o:Nat}:Gi P t c op dst (.nilPtr) (.optr r o) K s=Ia dst (Ht op) (Ik c (P.underlying t) (.nilPtr) (.optr r o)) K s:=rfl
theorem Mp {P:Program} {t:TypeId} {c:Bool} {op:BinOp} {dst:Option Nat} {K:DK} {s:DS} {o:Nat} {cs:List DVal}:Gi P t c op dst (.nilPtr) (.vptr cs o) K s=Ia dst (Ht op) (Ik c (P.underlying t) (.nilPtr) (.vptr cs o)) K s:=rfl
theorem Nf {P:Program} {t:TypeId} {c:Bool} {op:BinOp} {dst:Option Nat} {K:DK} {s:DS} {r:Nat} {o:Nat}:Gi P t c op dst (.optr r o) (.nilPtr) K s=Ia dst (Ht op) (Ik c (P.underlying t) (.optr r o) (.nilPtr)) K s:=rfl
theorem Mq {P:Program} {t:TypeId} {c:Bool} {op:BinOp} {dst:Option Nat} {K:DK} {s:DS} {o:Nat} {cs:List DVal}:Gi P t c op dst (.vptr cs o) (.nilPtr) K s=Ia dst (Ht op) (Ik c (P.underlying t) (.vptr cs o) (.nilPtr)) K s:=rfl
theorem Kt {P:Program} {t:TypeId} {c:Bool} {op:BinOp} {dst:Option Nat} {K:DK} {s:DS} {i:TypeId} {v:DVal}:Gi P t c op dst (.nilIface) (.iface i v) K s=Ia dst (Ht op) (Ik c (P.underlying t) (.nilIface) (.iface i v)) K s:=rfl
theorem Ku {P:Program} {t:TypeId} {c:Bool} {op:BinOp} {dst:Option Nat} {K:DK} {s:DS} {i:TypeId} {v:DVal}:Gi P t c op dst (.iface i v) (.nilIface) K s=Ia dst (Ht op) (Ik c (P.underlying t) (.iface i v) (.nilIface)) K s:=rfl
theorem Lq {P:Program} {t:TypeId} {c:Bool} {op:BinOp} {dst:Option Nat} {K:DK} {s:DS}:Gi P t c op dst (.nilIface) (.nilIface) K s=Ia dst (Ht op) (Ik c (P.underlying t) (.nilIface) (.nilIface)) K s:=rfl
theorem Ng {P:Program} {t:TypeId} {c:Bool} {op:BinOp} {dst:Option Nat} {K:DK} {s:DS}:Gi P t c op dst (.nilFunc) (.nilFunc) K s=Ia dst (Ht op) (Ik c (P.underlying t) (.nilFunc) (.nilFunc)) K s:=rfl
theorem Kv {P:Program} {t:TypeId} {c:Bool} {op:BinOp} {dst:Option Nat} {K:DK} {s:DS} {f:Fn} {x:List DVal} {y:List DVal}:Gi P t c op dst (.func f x y) (.nilFunc) K s=Ia dst (Ht op) (Ik c (P.underlying t) (.func f x y) (.nilFunc)) K s:=rfl
theorem Kw {P:Program} {t:TypeId} {c:Bool} {op:BinOp} {dst:Option Nat} {K:DK} {s:DS} {f:Fn} {x:List DVal} {y:List DVal}:Gi P t c op dst (.nilFunc) (.func f x y) K s=Ia dst (Ht op) (Ik c (P.underlying t) (.nilFunc) (.func f x y)) K s:=rfl
theorem Lr {P:Program} {t:TypeId} {c:Bool} {op:BinOp} {dst:Option Nat} {K:DK} {s:DS}:Gi P t c op dst (.nilSlice) (.nilSlice) K s=Ia dst (Ht op) (Ik c (P.underlying t) (.nilSlice) (.nilSlice)) K s:=rfl
theorem He {P:Program} {t:TypeId} {c:Bool} {op:BinOp} {dst:Option Nat} {K:DK} {s:DS} {r:Nat} {o:Nat} {n:Nat} {l:Nat} {z:Nat}:Gi P t c op dst (.oslice z r o n l) (.nilSlice) K s=Ia dst (Ht op) (Ik c (P.underlying t) (.oslice z r o n l) (.nilSlice)) K s:=rfl
theorem Hf {P:Program} {t:TypeId} {c:Bool} {op:BinOp} {dst:Option Nat} {K:DK} {s:DS} {r:Nat} {o:Nat} {n:Nat} {l:Nat} {z:Nat}:Gi P t c op dst (.nilSlice) (.oslice z r o n l) K s=Ia dst (Ht op) (Ik c (P.underlying t) (.nilSlice) (.oslice z r o n l)) K s:=rfl
theorem Av3 {P:Program} {dst:Option Nat} {K:DK} {s:DS} {k k1 k2:IntKind} {n:Int}:Gl P dst (some (.int k)) (some (.int k1)) (.int k2 n) K s=Av dst (.int k1 (k1.wrap n)) K s:=rfl
theorem Av4 {P:Program} {dst:Option Nat} {K:DK} {s:DS} {l:List UInt8}:Gl P dst (some .string) (some .string) (.str l) K s=Av dst (.str l) K s:=rfl
theorem Bi6 (t:Nat):Cd (.tmp t)=false:=rfl
theorem Bi7 (t:Nat):Cd (.global t)=false:=rfl
theorem Bi8 (t:Nat):Cd (.func t)=false:=rfl
theorem Cg2 (P:Program) (n:Nat) (t:TypeId) (xs ys:List DVal):Mo P (n+1) t xs ys=Mu P (Mo P n) t xs ys (P.underlying t):=rfl
theorem Bi9 (v:Value):(DVal.raw v).cells= [.raw v]:=rfl
theorem Av5 (b:Bool):(DVal.bool b).cells= [.bool b]:=rfl
theorem Bs4 (b:Bool):(DVal.bool b).one=true:=rfl
theorem Bj0 (k:IntKind) (n:Int):(DVal.int k n).cells= [.int k n]:=rfl
theorem Cg3 (k:IntKind) (n:Int):(DVal.int k n).one=true:=rfl
theorem Bj1 (s:List UInt8):(DVal.str s).cells= [.str s]:=rfl
theorem Cg4 (s:List UInt8):(DVal.str s).one=true:=rfl
theorem Ac9:(DVal.nilPtr).cells= [.nilPtr]:=rfl
theorem Av6:(DVal.nilPtr).one=true:=rfl
theorem Av7 (c:List DVal) (o:Nat):(DVal.vptr c o).cells= [.vptr c o]:=rfl
theorem Bs5 (c:List DVal) (o:Nat):(DVal.vptr c o).one=true:=rfl
theorem Av8 (r o:Nat):(DVal.optr r o).cells= [.optr r o]:=rfl
theorem Bs6 (r o:Nat):(DVal.optr r o).one=true:=rfl
theorem Vy:(DVal.nilSlice).cells= [.nilSlice]:=rfl
theorem Ad0:(DVal.nilSlice).one=true:=rfl
theorem Ad1 (c:List DVal) (n:Nat):(DVal.vslice c n).cells= [.vslice c n]:=rfl
theorem Av9 (c:List DVal) (n:Nat):(DVal.vslice c n).one=true:=rfl
theorem Ad2 (z r o n l:Nat):(DVal.oslice z r o n l).cells= [.oslice z r o n l]:=rfl
theorem Aw0 (z r o n l:Nat):(DVal.oslice z r o n l).one=true:=rfl
theorem Ad3:(DVal.nilMap).cells= [.nilMap]:=rfl
theorem Aw1:(DVal.nilMap).one=true:=rfl
theorem Aw2 (r:Nat):(DVal.omap r).cells= [.omap r]:=rfl
theorem Bs7 (r:Nat):(DVal.omap r).one=true:=rfl
theorem Aw3 (f:Fn) (a c:List DVal):(DVal.func f a c).cells= [.func f a c]:=rfl
theorem Bs8 (f:Fn) (a c:List DVal):(DVal.func f a c).one=true:=rfl
theorem Yg:(DVal.nilFunc).cells= [.nilFunc]:=rfl
theorem Al8:(DVal.nilFunc).one=true:=rfl
theorem Al9 (t:TypeId) (v:DVal):(DVal.iface t v).cells= [.iface t v]:=rfl
theorem Bj2 (t:TypeId) (v:DVal):(DVal.iface t v).one=true:=rfl
theorem Vz:(DVal.nilIface).cells= [.nilIface]:=rfl
theorem Ad4:(DVal.nilIface).one=true:=rfl
theorem Am0 (v:List DVal):(DVal.tuple v).cells= [.tuple v]:=rfl
theorem Bj3 (v:List DVal):(DVal.tuple v).one=false:=rfl
theorem Bj4 (c:List DVal):(DVal.agg c).cells=c:=rfl
theorem Cg5 (c:List DVal):(DVal.agg c).one=false:=rfl
theorem Bj5:Cg .add=false:=rfl
theorem Bj6:Cg .sub=false:=rfl
theorem Bj7:Cg .mul=false:=rfl
theorem Bj8:Cg .quo=false:=rfl
theorem Bj9:Cg .rem=false:=rfl
theorem Bk0:Cg .and=false:=rfl
theorem Bs9:Cg .or=false:=rfl
theorem Bk1:Cg .xor=false:=rfl
theorem Ad5:Cg .andNot=false:=rfl
theorem Bk2:Cg .eql=false:=rfl
theorem Bk3:Cg .neq=false:=rfl
theorem Bk4:Cg .lss=false:=rfl
theorem Bk5:Cg .leq=false:=rfl
theorem Bk6:Cg .gtr=false:=rfl
theorem Bk7:Cg .geq=false:=rfl
theorem Bk8:Cg .shl=true:=rfl
theorem Bk9:Cg .shr=true:=rfl
theorem Yh:Bl (some (.bool))=true:=rfl
theorem Am1:Gm (some (.bool))=false:=rfl
theorem Ad6 (k:IntKind):Bl (some (.int k))=true:=rfl
theorem Up:Bl (some (.string))=true:=rfl
theorem Yi:Gm (some (.string))=false:=rfl
theorem Yj:Pk (some (.string))=true:=rfl
theorem Sp (e:TypeId):Bl (some (.pointer e))=true:=rfl
theorem Wa (e:TypeId):Gm (some (.pointer e))=false:=rfl
theorem Wb (e:TypeId):Bl (some (.slice e))=true:=rfl
theorem Ad7 (e:TypeId):Gm (some (.slice e))=false:=rfl
theorem Ad8 (e:TypeId):Pk (some (.slice e))=true:=rfl
theorem Wc (n:Nat) (e:TypeId):Bl (some (.array n e))=true:=rfl
theorem Ad9 (n:Nat) (e:TypeId):Gm (some (.array n e))=false:=rfl
theorem Ae0 (k e:TypeId):Bl (some (.map k e))=true:=rfl
theorem Aw4 (k e:TypeId):Gm (some (.map k e))=false:=rfl
theorem Uq (f:Array Field):Bl (some (.struct f))=true:=rfl
theorem Yk (f:Array Field):Gm (some (.struct f))=false:=rfl
theorem Yl (p r:Array TypeId) (v:Bool):Bl (some (.func p r v))=true:=rfl
theorem Am2 (p r:Array TypeId) (v:Bool):Gm (some (.func p r v))=false:=rfl
theorem Wd (e:Array TypeId):Bl (some (.tuple e))=true:=rfl
theorem Ae1 (e:Array TypeId):Gm (some (.tuple e))=false:=rfl
theorem Pt (m:Array (String×TypeId)):Bl (some (.interface m))=false:=rfl
theorem Aw5 (b:Bool):Bn (.bool b)= .bool b:=rfl
theorem Bl0 (k:IntKind) (n:Int):Bn (.int k n)= .int k n:=rfl
theorem Ae2 (l:List UInt8):Bn (.string (ByteArray.mk l.toArray))= .str l:=rfl
theorem Ae3:Bn (.pointer none)= .nilPtr:=rfl
theorem We:Bn (.slice none 0 0)= .nilSlice:=rfl
theorem Ae4:Bn (.map none)= .nilMap:=rfl
theorem Ym:Bn (.nilFunc)= .nilFunc:=rfl
theorem Wf:Bn (.nilIface)= .nilIface:=rfl
theorem Bl1 (l:List Value):Bn (.agg l.toArray)= .agg (Cz l):=rfl
theorem Am3 (l:List Value):Bn (.tuple l.toArray)= .tuple (Cz l):=rfl
theorem Aw6 (f:Fn) (a c:List Value):Bn (.func f a.toArray c.toArray)= .func f (Cz a) (Cz c):=rfl
attribute [go_sem] Br9 Bh7 Au3 Bs0 Bh9 Au4 Cf8 Bs1 Bi0 Bs2 Bi1 Bs3 Cf9 Bo Bi2 List.toList_toArray List.cons_append List.nil_append List.getElem?_cons_zero List.getElem?_cons_succ List.getElem?_nil true_and and_true eq_self
attribute [go_sem] dop.eq_1 dop.eq_2 dop.eq_3 dop.eq_4 dop.eq_5 dop.eq_6 dop.eq_7 dop.eq_8 dop.eq_9 dop.eq_10 dop.eq_11 dop.eq_12
attribute [go_sem] dop.eq_13 dop.eq_14 dop.eq_15 dop.eq_16 dop.eq_17 dop.eq_18 dop.eq_19 dop.eq_20 dop.eq_21 dop.eq_22 dop.eq_23 dop.eq_24
attribute [go_sem] dop.eq_25 dop.eq_26 dop.eq_27 dop.eq_28 dop.eq_29 dop.eq_30 dop.eq_31 Ig.eq_1 Ig.eq_2 Cl9.eq_1 Cl9.eq_2 Lj.eq_1
attribute [go_sem] Lk.eq_1 Lk.eq_2 Lk.eq_3 Bq4.eq_1 Gl.eq_1 Vl.eq_1 Ab6.eq_1 Za.eq_1 Av.eq_1 Fh.eq_1 Fh.eq_2 dev.eq_1
attribute [go_sem] dev.eq_2 dev.eq_3 dev.eq_4 Cj.eq_1 Cj.eq_2 Hu.eq_1 Hu.eq_2 Eu.eq_1 Eu.eq_2 Df.eq_1 Df.eq_2 Yx.eq_1
attribute [go_sem] At1.eq_1 At1.eq_2 Pf.eq_1 Pf.eq_2 Gk.eq_1 Gk.eq_2 Ab4.eq_1 Mt.eq_1 Bq2.eq_1 Bq2.eq_2 Li.eq_1 Li.eq_2
attribute [go_sem] Fx.eq_1 Pg.eq_1 Pg.eq_2 Pg.eq_3 Vi.eq_1 Tu.eq_1 Tu.eq_2 Ab5.eq_1 Sg.eq_1 Kn.eq_1 Kn.eq_2 Kn.eq_3
attribute [go_sem] Kn.eq_4 Kn.eq_5 Ik.eq_1 Ik.eq_2 Ik.eq_3 Ik.eq_4 Ik.eq_5 Ik.eq_6 Ik.eq_7 Ik.eq_8 Ik.eq_9 Ik.eq_10
attribute [go_sem] Ik.eq_11 Ik.eq_12 Ik.eq_13 Ik.eq_14 Ik.eq_15 At2.eq_1 At2.eq_2 Cr.eq_1 Cr.eq_2 Cr.eq_3 Vj.eq_1 Vj.eq_2
attribute [go_sem] Tv.eq_1 Tv.eq_2 Yy.eq_1 Aj7.eq_1 Aj8.eq_1 Bq3.eq_1 Bq3.eq_2 Mu.eq_1 Mu.eq_2 Mu.eq_3 Mu.eq_4 Mu.eq_5
attribute [go_sem] Ia.eq_1 Ia.eq_2 Ht.eq_1 Ht.eq_2 Cd.eq_1 Qf.eq_1 Qf.eq_2 Qf.eq_3 Qf.eq_4 Qf.eq_5 Qf.eq_6 Qf.eq_7
attribute [go_sem] Qf.eq_8 Qf.eq_9 Qf.eq_10 Qf.eq_11 Qf.eq_12 Qf.eq_13 Qf.eq_14 Qf.eq_15 Vk.eq_1 Vk.eq_2 Oe.eq_1 Oe.eq_2
attribute [go_sem] Oe.eq_3 Oe.eq_4 Oe.eq_5 Oe.eq_6 Oe.eq_7 Yz.eq_1 Yz.eq_2 Gi.eq_1 Gi.eq_2 Gi.eq_3 dUn.eq_1 dUn.eq_2
attribute [go_sem] dUn.eq_3 Ix.eq_1 Ix.eq_2 Iz.eq_1 Iz.eq_2 Mv.eq_1 Mv.eq_2 Ha.eq_1 dLo.eq_1 dLo.eq_2 dHi.eq_1 dHi.eq_2
attribute [go_sem] Of.eq_1 Og.eq_1 Jn.eq_1 Ut.eq_1 Bb5.eq_1 Ph.eq_1 Ph.eq_2 Ph.eq_3 Ph.eq_4 Ph.eq_5 Ph.eq_6 Ph.eq_7
attribute [go_sem] Il.eq_1 Il.eq_2 Mw.eq_1 Mw.eq_2 Fp.eq_1 Vm.eq_1 Vm.eq_2 Vm.eq_3 Ab7.eq_1 Ab7.eq_2 Pj.eq_1 Fq.eq_1
attribute [go_sem] Fq.eq_2 Fq.eq_3 Sh.eq_1 Sh.eq_2 Ko.eq_1 Qg.eq_1 Qg.eq_2 Iu.eq_1 Iu.eq_2 Iu.eq_3 Iu.eq_4 Ck.eq_1
attribute [go_sem] Ck.eq_2 Bg7.eq_1 Bg7.eq_2 Bg7.eq_3 Bg7.eq_4 Bg7.eq_5 Ab8.eq_1 Kp.eq_1 Ja.eq_1 Ja.eq_2 Ja.eq_3 Ja.eq_4
attribute [go_sem] Kq.eq_1 Kq.eq_2 Vn.eq_1 Vn.eq_2 Qi.eq_1 Kr.eq_1 Bq5.eq_1 Bq5.eq_2 Bq5.eq_3 Bq6.eq_1 Vo.eq_1 Bb6.eq_1
attribute [go_sem] Ab9.eq_1 Ab9.eq_2 Vp.eq_1 Aj9.eq_1 Gm.eq_1 Qj.eq_1 Mx.eq_1 Mx.eq_2 Jj.eq_1 Jj.eq_2 Jj.eq_3 Jj.eq_4
attribute [go_sem] Ll.eq_1 Ll.eq_2 Ll.eq_3 Cl.eq_1 Cl.eq_2 Gn.eq_1 Gn.eq_2 Gn.eq_3 Bb7.eq_1 Zb.eq_1 Fy.eq_1 Ac0.eq_1
attribute [go_sem] Ac0.eq_2 Qk.eq_1 Ql.eq_1 Jo.eq_1 At3.eq_1 Pm.eq_1 Pm.eq_2 At4.eq_1 Qm.eq_1 Qm.eq_2 Ak0.eq_1 Ak0.eq_2
attribute [go_sem] Vq.eq_1 Vr.eq_1 Qn.eq_1 Zc.eq_1 Ks.eq_1 Ks.eq_2 dMM.eq_1 Gp.eq_1 Gp.eq_2 Gp.eq_3 Fm.eq_1 Fm.eq_2
attribute [go_sem] Ac1.eq_1 Ac1.eq_2 Si.eq_1 Si.eq_2 My.eq_1 Et.eq_1 Et.eq_2 Et.eq_3 Et.eq_4 Et.eq_5 Et.eq_6 Et.eq_7
attribute [go_sem] Et.eq_8 Jp.eq_1 Jp.eq_2 Jp.eq_3 Ih.eq_1 Ih.eq_2 Ih.eq_3 At5.eq_1 At5.eq_2 At5.eq_3 At5.eq_4 At5.eq_5
attribute [go_sem] At5.eq_6 Ac2.eq_1 Ac2.eq_2 Db.eq_1 Db.eq_2 Db.eq_3 Db.eq_4 Db.eq_5 Uu.eq_1 Uu.eq_2 Ac3.eq_1 Ac3.eq_2
attribute [go_sem] Ac3.eq_3 Ac3.eq_4 Ac3.eq_5 Bb8.eq_1 Bb8.eq_2 Bb8.eq_3 Bb8.eq_4 Bb8.eq_5 Cm0.eq_1 Cm0.eq_2 Bp.eq_1 Cz.eq_1
attribute [go_sem] Cz.eq_2 Pr Ps Nd Mp Nf Mq Kt Ku Lq Ng Kv
attribute [go_sem] Kw Lr He Hf Av3 Av4 Bi6 Bi7 Bi8 Cg2 Bi9 Av5
attribute [go_sem] Bs4 Bj0 Cg3 Bj1 Cg4 Ac9 Av6 Av7 Bs5 Av8 Bs6 Vy
attribute [go_sem] Ad0 Ad1 Av9 Ad2 Aw0 Ad3 Aw1 Aw2 Bs7 Aw3 Bs8 Yg
attribute [go_sem] Al8 Al9 Bj2 Vz Ad4 Am0 Bj3 Bj4 Cg5 Bj5 Bj6 Bj7
attribute [go_sem] Bj8 Bj9 Bk0 Bs9 Bk1 Ad5 Bk2 Bk3 Bk4 Bk5 Bk6 Bk7
attribute [go_sem] Bk8 Bk9 Yh Am1 Ad6 Up Yi Yj Sp Wa Wb Ad7
attribute [go_sem] Ad8 Wc Ad9 Ae0 Aw4 Uq Yk Yl Am2 Wd Ae1 Pt
attribute [go_sem] Aw5 Bl0 Ae2 Ae3 We Ae4 Ym Wf Bl1 Am3 Aw6
end Go.Dl

-- THE DATA LEVEL, PART W: code, functions.
namespace Go.Dl
open Go
section
variable {P:Program} {G:Nat->DVal} {N:Fr}
variable {s s0:DS} {a:Act} {w w0:World} {Q:DExit->DS->Prop}
theorem Pn.refl (s:DS):Pn G s s:=fun w hH hG=>⟨hH,fun b h=>h,hG,fun i x h=>h⟩
theorem Pn.sim {s':DS} (h:Pn G s s') (hS:Sim G N s a w):Sim G N s' a w/\Ext s.heap w s'.heap w:=by
 obtain⟨h1,h2,h3,h4⟩:=h w hS.heap hS.glob;exact⟨⟨hS.size,hS.defers.less h2,fun i hi=>h4 i _ (hS.tmps i hi),h1,h3,hS.base⟩,⟨rfl,rfl,rfl,Nat.le_refl _,fun _ _ _=>rfl,fun b hb=> .inl (h2 b hb),fun _ _=>rfl,fun _ _ _=>rfl⟩⟩
theorem Aw7 {e:Exit} {a':Act} {w' w1:World} {s1:DS} (h:Ii G N Q s1 w1 e a' w') (hE:Ext s0.heap w0 s1.heap w1):Ii G N Q s0 w0 e a' w':=by
 obtain⟨e',s',hq,hx,hS,hE'⟩:=h;exact⟨e',s',hq,hx,hS,hE.trans hE'⟩
theorem Aw8 {F:Fence} {n:Nat} {c:Code} {ι:Type} (I:ι->DS->Prop) (μ:ι->Nat) (i:ι) (hS:Sim G N s a w) (hI:I i s) (hE:Ext s0.heap w0 s.heap w)
  (round: ∀i s a w,Sim G N s a w->I i s->c.wpIn F n P (Ii G N (Db (fun s1=> ∃j s2,Pn G s1 s2/\I j s2/\μ j<μ i) Q) s w) a w):(Code.loop c).wpIn F n P (Ii G N Q s0 w0) a w:=by
 intro b k cs hro hb hr;have key: ∀n i s a w,μ i=n->I i s->Sim G N s a w->Ext s0.heap w0 s.heap w->
   ∃e a' w',Ii G N Q s0 w0 e a' w'/\ArrivesIn (Machine.fenced P F) P (lone (b.atR a (.code c:: .inLoop c::k)) cs w) b k cs e a' w':=by
  intro n
  induction n using Nat.strongRecOn with
  | _ n ih=>
   intro i s a w hn hI hS hE;obtain⟨e,a₁,w₁,hq,harr⟩:=round i s a w hS hI b (.inLoop c::k) cs hro hb hr;obtain⟨e',s₁,hQ,hX,hS₁,hE₁⟩:=hq;have hE':=hE.trans hE₁;cases hX with
   | normal=>
    obtain⟨j,s₂,hg,hI₂,hlt⟩:=hQ;obtain⟨hS₂,hE₂⟩:=hg.sim hS₁;obtain⟨e₂,a₂,w₂,hq₂,harr₂⟩:=ih (μ j) (hn▸hlt) j s₂ a₁ w₁ rfl hI₂ hS₂ (hE'.trans hE₂);exact⟨e₂,a₂,w₂,hq₂, .of_steps (StepsIn.trans harr (.one (fenced_calm hb hr rfl) stepR_inLoop)) harr₂⟩
   | exit id=>exact⟨_,a₁,w₁,⟨_,s₁,hQ, .exit id,hS₁,hE'⟩, .pass (x:= .inLoop c) rfl (fun _ _=> .inl (by simp)) harr⟩
   | goto l=>exact⟨_,a₁,w₁,⟨_,s₁,hQ, .goto l,hS₁,hE'⟩, .pass (x:= .inLoop c) rfl (fun _ _=> .inl (by simp)) harr⟩
   | ret=>exact⟨_,a₁,w₁,⟨_,s₁,hQ, .ret,hS₁,hE'⟩, .pass (x:= .inLoop c) rfl (fun _ _=> .inl (by simp)) harr⟩
   | panic d v hv=>exact⟨_,a₁,w₁,⟨_,s₁,hQ, .panic d v hv,hS₁,hE'⟩, .pass (x:= .inLoop c) rfl (fun _ _=> .inl (by simp)) harr⟩
 obtain⟨e,a',w',hq,harr⟩:=key _ i s a w rfl hI hS hE;exact⟨e,a',w',hq, .of_steps (.one (fenced_calm hb hr rfl) stepR_loop) harr⟩
theorem Oo {F:Fence} {n:Nat} {c:Code} {Q1 Q2:Exit->Act->World->Prop} (h:c.wpIn F n P Q1 a w) (hq: ∀e a w,Q1 e a w->(∀l,e≠ .goto l)/\Q2 e a w):(Code.scope c).wpIn F n P Q2 a w:=by
 intro b k cs hro hb hr;have h0:(lone (b.atR a (.code (.scope c)::k)) cs w).fenced P F:=fenced_calm hb hr rfl;have s0:step P (lone (b.atR a (.code (.scope c)::k)) cs w)= .next (lone (b.atR a (.code c:: .inScope c::k)) cs w):=step_lone_go (by simp [stepG,stepG.exec,Frame.atR])
 have s1: ∀(a:Act) (w:World),step P (lone (b.atR a (.inScope c::k)) cs w)= .next (lone (b.atR a k) cs w):=fun a w=>step_lone_go (by simp [stepG,stepG.exec,Frame.atR])
 obtain⟨e,a₁,w₁,hq1,harr⟩:=h b (.inScope c::k) cs hro hb hr;obtain⟨hg,hq2⟩:=hq _ _ _ hq1;cases e with
 | normal=>exact⟨.normal,a₁,w₁,hq2, .head h0 s0 (StepsIn.trans harr (.one (fenced_calm hb hr rfl) (s1 _ _)))⟩
 | exit id=>
  have hx:exitTo id (.inScope c::k)=exitTo id k:=by simp [exitTo]
  exact⟨.exit id,a₁,w₁,hq2,fun k' hk=> .head h0 s0 (harr.1 k' (by rw[hx];exact hk)),
   fun hr' hk=>let ⟨k₁,h1,h2⟩:=harr.2 hr' (by rw[hx];exact hk);⟨k₁,h1, .head h0 s0 h2⟩⟩
 | goto l=>exact absurd rfl (hg l)
 | ret=>exact⟨_,a₁,w₁,hq2, .of_steps (.one h0 s0) harr⟩
 | panic ch=>exact⟨_,a₁,w₁,hq2, .of_steps (.one h0 s0) harr⟩
 | outgrown=>exact⟨_,a₁,w₁,hq2, .of_steps (.one h0 s0) harr⟩
def Jk:Code->Bool
 | .seq a b=>Jk a&&Jk b
 | .cond _ a b=>Jk a&&Jk b
 | .block _ c=>Jk c
 | .loop c=>Jk c
 | .scope c=>Jk c
 | .rangeFunc _ _ _ _=>false
 | _=>true
theorem Cx {N:Nat} {F:Fence} {n:Nat} {B:Base} (hF:FOk F): ∀(c:Code),Cm N c=true->(F=Fence.wide/\B.still=false\/Jk c=true)-> ∀(Q:DExit->DS->Prop) (s:DS),dwp P G N c Q s->
  ∀(a:Act) (w:World),Sim G ⟨N,B⟩ s a w->c.wpIn F n P (fun e a' w'=> ∃e' s',Q e' s'/\RelX w' s'.heap e' e/\Sim G ⟨N,B⟩ s' a' w'/\Ext s.heap w s'.heap w') a w
 | .skip,_,_,Q,s,h=>fun a w hS=>wpIn_skip ⟨.normal,s,h, .normal,hS,Ext.refl _ _⟩
 | .label l,_,_,Q,s,h=>fun a w hS=>wpIn_label ⟨.normal,s,h, .normal,hS,Ext.refl _ _⟩
 | .region id ops false,hok,_,Q,s,h=>fun a w hS=>by
  have hok':ops.toList.all (Ef N)=true:=by
   have:ops.all (Ef N)=true:=hok;rw[Vx] at this;exact this
  have h1:=Pq (n:=n) hF (P:=P) (G:=G) (N:=⟨N,B⟩) (s0:=s) (w0:=w) (Q:=Q) ops.toList hok' ops.toList hok' s a w hS (Ext.refl _ _) h;have:ops=ops.toList.toArray:=by simp
  rw[this];exact wpIn_region_lit h1
 | .region id ops true,_,_,Q,s,h=>fun a w hS=>h F n B hF a w hS
 | .seq x y,hok,hfl,Q,s,h=>fun a w hS=>by
  simp only[Cm,Bool.and_eq_true] at hok;simp only[Jk,Bool.and_eq_true] at hfl;refine wpIn_seq (wpIn_mono (Cx hF x hok.1 (hfl.imp id (·.1)) _ s h a w hS) ?_);rintro e a' w' ⟨e',s',hQ,hX,hS',hE⟩;cases hX with
  | normal=>exact wpIn_mono (Cx hF y hok.2 (hfl.imp id (·.2)) Q s' hQ a' w' hS') fun e a w he=>Aw7 he hE
  | exit id=>exact⟨_,s',hQ, .exit id,hS',hE⟩
  | goto l=>exact⟨_,s',hQ, .goto l,hS',hE⟩
  | ret=>exact⟨_,s',hQ, .ret,hS',hE⟩
  | panic d v hv=>exact⟨_,s',hQ, .panic d v hv,hS',hE⟩
 | .cond c x y,hok,hfl,Q,s,h=>fun a w hS=>by
  simp only[Cm,Bool.and_eq_true] at hok;simp only[Jk,Bool.and_eq_true] at hfl;have r:=Aq hS hok.1.1;simp only[dwp] at h;cases hv:dev G s.env c<;>rw[hv] at h r<;>try exact h.elim
  rename_i b
  simp only[Rel] at r;cases b
  ·exact wpIn_cond_false r (Cx hF y hok.2 (hfl.imp id (·.2)) Q s h a w hS)
  ·exact wpIn_cond_true r (Cx hF x hok.1.2 (hfl.imp id (·.1)) Q s h a w hS)
 | .block id c,hok,hfl,Q,s,h=>fun a w hS=>by
  simp only[Cm] at hok;simp only[Jk] at hfl;refine wpIn_block (wpIn_mono (Cx hF c hok hfl _ s h a w hS) ?_);rintro e a' w' ⟨e',s',hQ,hX,hS',hE⟩;cases hX with
  | normal=>exact⟨_,s',hQ, .normal,hS',hE⟩
  | exit id'=>
   simp only[Exit.inBlock];simp only[Ac3] at hQ;by_cases hid:id'=id
   ·rw[if_pos hid];simp only[hid,decide_true,Uu] at hQ;exact⟨_,s',hQ, .normal,hS',hE⟩
   ·rw[if_neg hid];simp only[hid,decide_false,Uu] at hQ;exact⟨_,s',hQ, .exit id',hS',hE⟩
  | goto l=>exact⟨_,s',hQ, .goto l,hS',hE⟩
  | ret=>exact⟨_,s',hQ, .ret,hS',hE⟩
  | panic d v hv=>exact⟨_,s',hQ, .panic d v hv,hS',hE⟩
 | .loop c,hok,hfl,Q,s,h=>fun a w hS=>by
  simp only[Cm] at hok;simp only[Jk] at hfl;obtain⟨ι,I,μ,⟨i,s',hg,hI⟩,hround⟩:=h;obtain⟨hS',hE'⟩:=hg.sim hS;exact Aw8 I μ i hS' hI hE' fun i1 s1 a1 w1 hS1 hI1=>Cx hF c hok hfl _ s1 (hround i1 s1 hI1) a1 w1 hS1
 | .rangeFunc _ _ _ _,_,hfl,_,_,h=>fun a w hS=>by
  rcases hfl with⟨rfl,hst⟩ | hfl
  ·exact h n B hst a w hS
  ·cases hfl
 | .exit id,_,_,Q,s,h=>fun a w hS=>wpIn_exit ⟨.exit id,s,h, .exit id,hS,Ext.refl _ _⟩
 | .scope c,hok,hfl,Q,s,h=>fun a w hS=>by
  simp only[Cm] at hok;simp only[Jk] at hfl;refine Oo (Cx hF c hok hfl _ s h a w hS) ?_;rintro e a' w' ⟨e',s',hQ,hX,hS',hE⟩;cases hX with
  | normal=>exact⟨by simp,_,s',hQ, .normal,hS',hE⟩
  | exit id'=>exact⟨by simp,_,s',hQ, .exit id',hS',hE⟩
  | goto l=>exact hQ.elim
  | ret=>exact⟨by simp,_,s',hQ, .ret,hS',hE⟩
  | panic d v hv=>exact⟨by simp,_,s',hQ, .panic d v hv,hS',hE⟩
 | .goto l,_,_,Q,s,h=>fun a w hS=>wpIn_goto ⟨.goto l,s,h, .goto l,hS,Ext.refl _ _⟩
 | .ret,_,_,Q,s,h=>fun a w hS=>wpIn_ret ⟨.ret,s,h, .ret,hS,Ext.refl _ _⟩
 | .refuse _,_,_,_,_,h=>h.elim
theorem Aw9 {N:Nat} (c:Code) (hok:Cm N c=true) (Q:DExit->DS->Prop) (s:DS) (h:dwp P G N c Q s):Cy3 P G N c Q s:=
 fun _ _ hst a w hS=>Cx (.inl rfl) c hok (.inl ⟨rfl,hst⟩) Q s h a w hS
def Nh (size:Nat) (cs:List DVal) (off:Nat):Option Bool->Option DVal
 | some true=>if off+size<=cs.length then some (.agg ((cs.drop off).take size)) else none
 | some false=>cs[off]?
 | none=>none
def Oj (size:Nat) (ag:Option Bool) (off:Nat):Option DObj->Option DVal
 | some (.cells cs _)=>Nh size cs off ag
 | _=>none
def Ax0 (size:Nat) (ag:Option Bool) (H:Aa):DVal->Option DVal
 | .optr r off=>Oj size ag off (H r)
 | _=>none
def Wg (P:Program) (s:DS):ResultVar->Option DVal
 | .tmp t=>some (s.env t)
 | .cell x t=>Ax0 (P.cellsOf t) (Br P t) s.heap (s.env x)
def Am4:Option DVal->Option (List DVal)->Option (List DVal)
 | some d,some ds=>some (d::ds)
 | _,_=>none
def Fi (P:Program) (s:DS):List ResultVar->Option (List DVal)
 | []=>some []
 | r::rs=>Am4 (Wg P s r) (Fi P s rs)
def Dw:Option (List DVal)->Option DVal
 | some [d]=>some d
 | some ds=>some (.tuple ds)
 | none=>none
def Ax1 (R:DEnd->Aa->Prop) (v:DVal) (H:Aa):Prop:=
 ∃v' H',(∀w,Aw w H->Aw w H'/\(∀b,H' b≠none->H b≠none)/\ ∀x,Rel w H v x->Rel w H' v' x)/\R (.ret v') H'
def Cm2 (R:DEnd->Aa->Prop) (v:DVal) (H:Aa):Prop:=
 ∃v' H',(∀w,Aw w H->Aw w H'/\(∀b,H' b≠none->H b≠none)/\ ∀x,Rel w H v x->Rel w H' v' x)/\R (.panic v') H'
def Ty (R:DEnd->Aa->Prop) (H:Aa):Option DVal->Prop
 | some v=>Ax1 R v H
 | none=>False
def Bc4 (P:Program) (rs:List ResultVar) (R:DEnd->Aa->Prop):DExit->DS->Prop
 | .normal,s=>Ty R s.heap (Dw (Fi P s rs))
 | .ret,s=>Ty R s.heap (Dw (Fi P s rs))
 | .panic v,s=>Cm2 R v s.heap
 | _,_=>False
def Gd:List DVal->Nat->(Nat->DVal)
 | [],_=>fun _=>Bp
 | x::xs,k=>upd (Gd xs (k+1)) k x
def Tz (N:Nat):ResultVar->Bool
 | .tmp t=>decide (t<N)
 | .cell x _=>decide (x<N)
theorem Ax1.refl {R:DEnd->Aa->Prop} {v:DVal} {H:Aa} (h:R (.ret v) H):Ax1 R v H:=⟨v,H,fun w hH=>⟨hH,fun b hb=>hb,fun x hx=>hx⟩,h⟩
theorem Cm2.refl {R:DEnd->Aa->Prop} {v:DVal} {H:Aa} (h:R (.panic v) H):Cm2 R v H:=⟨v,H,fun w hH=>⟨hH,fun b hb=>hb,fun x hx=>hx⟩,h⟩
theorem Bt0 (hS:Sim G N s a w) {r:ResultVar} (hr:Tz N r=true) {d:DVal} (h:Wg P s r=some d):
  ∃x,((match r with
  | .tmp t=>pure (a.tmps.getD t undef)
  | .cell x t=>do loadVar t (←asAddr (a.tmps.getD x undef))):Sem Value).run P w= .ok x w/\Rel w s.heap d x:=by
 cases r with
 | tmp t=>
  simp only[Wg] at h;cases h
  exact⟨_,rfl,hS.tmps t (by simpa [Tz] using hr)⟩
 | cell x t=>
  simp only[Wg] at h
  have rx:=hS.tmps x (by simpa [Tz] using hr)
  cases hv:s.env x<;>rw[hv] at h rx<;>simp only[Ax0] at h<;>try (cases h;done)
  rename_i r0 off
  simp only[Rel] at rx
  cases hh:s.heap r0 with
  | none=>rw[hh] at h;cases h
  | some ob=>
   cases ob with
   | loop=>rw[hh] at h;simp only[Oj] at h;cases h
   | iter=>rw[hh] at h;simp only[Oj] at h;cases h
   | map=>rw[hh] at h;simp only[Oj] at h;cases h
   | cells cs e=>
    rw[hh] at h
    simp only[Oj] at h
    obtain⟨xs,hl,hho⟩:=hS.heap.holds hh
    have hlx:=hl.length
    have e0: ∀z,(do loadVar t (←asAddr z):Sem Value)=(do let ad<-asAddr z;loadVar t ad):=fun z=>rfl
    simp only[rx,asAddr]
    cases hag:Br P t with
    | none=>rw[hag] at h;cases h
    | some ag=>
     rw[hag] at h
     cases ag with
     | true=>
      simp only[Nh] at h
      split at h<;>try (cases h;done)
      rename_i hle
      cases h
      have hx:Fd w r0 off ((xs.drop off).take (P.cellsOf t)):=by
       have:=(hho.drop (n:=off)).take (n:=P.cellsOf t)
       simpa using this
      have hln:((xs.drop off).take (P.cellsOf t)).length=P.cellsOf t:=by
       simp;omega
      refine⟨_,by simp [Mk hag hx hln];rfl, ?_⟩
      simp only[Rel]
      exact⟨_,rfl,(hl.drop off).take _⟩
     | false=>
      simp only[Nh] at h
      obtain⟨x,hx,hrel⟩:=hl.get h
      have:=hho off x hx
      rw[Nat.zero_add] at this
      exact⟨x,by simp [Ml hag this],hrel⟩
theorem Am5 (hS:Sim G N s a w): ∀ {rs:List ResultVar},rs.all (Tz N)=true-> ∀ {ds:List DVal},Fi P s rs=some ds->
  ∃xs,(rs.mapM (fun r=>(match r with
  | .tmp t=>pure (a.tmps.getD t undef)
  | .cell x t=>do loadVar t (←asAddr (a.tmps.getD x undef)):Sem Value))).run P w= .ok xs w/\Ap w s.heap ds xs
 | [],_,ds,h=>by
  simp only[Fi] at h;cases h
  exact⟨[],by simp,by simp [Ap]⟩
 | r::rs,hok,ds,h=>by
  simp only[List.all_cons,Bool.and_eq_true] at hok
  simp only[Fi] at h
  cases h1:Wg P s r with
  | none=>rw[h1] at h;cases h
  | some d=>
   cases h2:Fi P s rs with
   | none=>rw[h1,h2] at h;cases h
   | some ds'=>
    rw[h1,h2] at h
    simp only[Am4] at h;cases h
    obtain⟨x,hx,hr⟩:=Bt0 (P:=P) hS hok.1 h1
    obtain⟨xs,hxs,hrs⟩:=Am5 hS hok.2 h2
    refine⟨x::xs, ?_,by simp only[Ap];exact⟨x,xs,rfl,hr,hrs⟩⟩
    simp only[List.mapM_cons,Sem.run_bind,hx,hxs,Result.andThen_ok,Sem.run_pure]
theorem Ua (hS:Sim G N s a w) {fn:Func} (hok:fn.results.toList.all (Tz N)=true) {d:DVal} (h:Dw (Fi P s fn.results.toList)=some d):
  ∃x,(results fn a.tmps).run P w= .ok x w/\Rel w s.heap d x:=by
 cases h2:Fi P s fn.results.toList with
 | none=>rw[h2] at h;cases h
 | some ds=>
  rw[h2] at h
  obtain⟨xs,hxs,hrs⟩:=Am5 (P:=P) hS hok h2
  have hrun:(results fn a.tmps).run P w= .ok (if h:xs.toArray.size=1 then xs.toArray[0] else .tuple xs.toArray) w:=by
   unfold results
   rw[Array.mapM_eq_mapM_toList]
   simp only[Sem.run_bind,Sem.run_map]
   have:(fn.results.toList.mapM (fun r=>(match r with
    | .tmp t=>pure (a.tmps.getD t undef)
    | .cell x t=>do loadVar t (←asAddr (a.tmps.getD x undef)):Sem Value))).run P w= .ok xs w:=hxs
   first
    | rw[this]
    | (show((Sem.run P (fn.results.toList.mapM (fun r=>(match r with
    | .tmp t=>pure (a.tmps.getD t undef)
    | .cell x t=>do loadVar t (←asAddr (a.tmps.getD x undef)):Sem Value))) w).andThen _).andThen _=_;rw[this])
   rfl
  have hl:=hrs.length
  refine⟨_,hrun, ?_⟩
  cases ds with
  | nil=>
   simp only[Dw] at h;cases h
   simp only[Ap] at hrs;subst hrs
   simp only[Rel]
   exact⟨#[],rfl,by simp [Ap]⟩
  | cons d1 ds=>
   cases ds with
   | nil=>
    simp only[Dw] at h;cases h
    simp only[Ap] at hrs
    obtain⟨y,ys,rfl,hy,rfl⟩:=hrs
    simpa using hy
   | cons d2 ds=>
    simp only[Dw] at h;cases h
    have:xs.toArray.size≠1:=by simp at hl⊢;omega
    rw[dif_neg this]
    simp only[Rel]
    exact⟨_,rfl,hrs⟩
theorem Sq: ∀(args:List DVal) (k i:Nat),Gd args k (k+i)=args.getD i Bp
 | [],k,i=>rfl
 | x::xs,k,0=>by simp [Gd,upd]
 | x::xs,k,i+1=>by
  simp only[Gd,upd];rw[if_neg (by omega)];have:=Sq xs (k+1) i;rw[show k+(i+1)=k+1+i by omega,this];simp
def Cr2 (fn:Func) (n:Nat):Bool:=
 decide (n<=fn.ntmps)&&(match fn.body with | some c=>Cm fn.ntmps c | none=>false)&&fn.results.toList.all (Tz fn.ntmps)
theorem Bl2 {w:World} {D:Nat} (hD:w.heap[D]? =some (.deferred (some []))) (H:Aa):Lasts H w H (w.putObj D (.deferred none)):=Lp hD rfl rfl H
theorem Cg6 {w:World} {D:Nat} {H:Aa} (hD:w.heap[D]? =some (.deferred (some []))) (hH:Aw w H) (hn:H D=none):Aw (w.putObj D (.deferred none)) H:=Au1 hD rfl rfl hH hn
theorem Cg7 {w w0:World} {D:Nat} {H H0:Aa} (hD:w.heap[D]? =some (.deferred (some []))) (hB:w0.heap.size<=D) (hE:Ext H0 w0 H w):Ext H0 w0 H (w.putObj D (.deferred none)):=by
 refine⟨hE.os,hE.tape,hE.output,by simpa [World.putObj] using hE.size,fun b hb hn=> ?_,hE.own,fun b hb=> ?_,fun a ha hn=> ?_⟩
 ·rw[World.putObj_heap_other (by omega)];exact hE.block b hb hn
 ·rw[World.putObj_heap_other (by omega)];exact hE.keep b hb
 ·rw[<-hE.fz a ha hn];exact Ze hD rfl rfl a
theorem Sim.leaveT {F:Fence} {n:Nat} {H0:Aa} {w0:World} {fn:Func} {tmps:Array Value} {R:Ending->World->Prop} {u:FrameMode} {T:List Deferred} (hu:u≠ .run) (hB:N.base=⟨w0.heap.size,T,false⟩) {a:Act}:
  ∀(Ds:List Nat) (w:World),Ds.Nodup->(∀D∈Ds,(N.base.b<=D/\N.base.still=false)/\w.heap[D]? =some (.deferred (some []))/\s.heap D=none)->
   Sim G N s { tmps:=a.tmps,defers:=Ds.map (fun D=>({ target:= .collected D,args:= #[] }:Deferred))++T } w->Ext H0 w0 s.heap w->
   (∀w',Sim G N s { tmps:=a.tmps,defers:=T } w'->Ext H0 w0 s.heap w'->Lasts s.heap w s.heap w'->LeavesInM F n P fn tmps R T u w')->
   LeavesInM F n P fn tmps R (Ds.map (fun D=>({ target:= .collected D,args:= #[] }:Deferred))++T) u w
 | [],w,_,_,hS,hE,h=>h w hS hE (Ext.refl _ _).lasts
 | D::Ds,w,h2,h3,hS,hE,h=>by
  have hB':N.base.b=w0.heap.size:=by rw[hB]
  have hT:N.base.late=T:=by rw[hB]
  obtain⟨g1,g2,g3⟩:=h3 D (by simp);have hl:=Bl2 g2 s.heap;have hnd:=List.nodup_cons.1 h2;have h4: ∀D'∈Ds,(N.base.b<=D'/\N.base.still=false)/\(w.putObj D (.deferred none)).heap[D']? =some (.deferred (some []))/\s.heap D'=none:=fun D' hD'=>⟨(h3 D' (by simp [hD'])).1,by
   have hne:D'≠D:=fun e=>hnd.1 (by rw[<-e];exact hD');rw[World.putObj_heap_other hne];exact(h3 D' (by simp [hD'])).2.1,(h3 D' (by simp [hD'])).2.2⟩
  refine⟨hu, .inl ⟨D,_,rfl,run_takeDeferred g2,Sim.leaveT hu hB Ds _ hnd.2 h4 ?_ (Cg7 g2 (by omega) hE) fun w' hS' hE' hl'=>h w' hS' hE' ?_⟩⟩
  ·exact⟨hS.size,⟨Ds,by rw[hT],hnd.2,h4⟩,
    fun i hi=>Rel.lasts hl _ _ (hS.tmps i hi),Cg6 g2 hS.heap g3,hS.glob.lasts hl,by simpa [World.putObj] using hS.base⟩
  ·exact⟨fun b i x hb hc=>hl'.cell b i x hb (hl.cell b i x hb hc).2,Nat.le_trans hl.size hl'.size,fun b hb=>by rw[hl'.keep b (Nat.lt_of_lt_of_le hb hl.size),hl.keep b hb]⟩
theorem Sim.leaveL {F:Fence} {n:Nat} {H0:Aa} {w0:World} {fn:Func} {tmps:Array Value} {R:Ending->World->Prop} {u:FrameMode} {T:List Deferred} (hu:u≠ .run) (hB:N.base=⟨w0.heap.size,T,false⟩) {a:Act}
  (ds:List Deferred) (w:World) (hS:Sim G N s { tmps:=a.tmps,defers:=ds } w) (hE:Ext H0 w0 s.heap w)
  (h: ∀w',Sim G N s { tmps:=a.tmps,defers:=T } w'->Ext H0 w0 s.heap w'->Lasts s.heap w s.heap w'->LeavesInM F n P fn tmps R T u w'):LeavesInM F n P fn tmps R ds u w:=by
 obtain⟨Ds,h1,h2,h3⟩:=hS.defers;have hT:N.base.late=T:=by rw[hB]
 rw[hT] at h1;dsimp only at h1;subst h1;exact Sim.leaveT hu hB Ds w h2 h3 hS hE h
theorem Sim.leave {F:Fence} {n:Nat} {H0:Aa} {w0:World} {fn:Func} {tmps:Array Value} {R:Ending->World->Prop} {u:FrameMode} (hu:u≠ .run) (hB:N.base=⟨w0.heap.size,[],false⟩) {a:Act}:
  ∀(ds:List Deferred) (w:World),Sim G N s { tmps:=a.tmps,defers:=ds } w->Ext H0 w0 s.heap w->
   (∀w',Sim G N s { tmps:=a.tmps,defers:= [] } w'->Ext H0 w0 s.heap w'->Lasts s.heap w s.heap w'->LeavesIn F n P fn tmps R [] u w')->LeavesInM F n P fn tmps R ds u w:=
 fun ds w hS hE h=>Sim.leaveL (T:= []) hu hB ds w hS hE h
theorem Ak {f:FuncId} {fn:Func} {c:Code} {args:List DVal} {H:Aa} {R:DEnd->Aa->Prop} (hf:P.funcs[f]? =some fn)
  (hcall: ∀vs w,(callFunc f vs).run P w= .ok (.enter f vs) w) (hb:fn.body=some c) (hk:Cr2 fn args.length=true)
  (h:dwp P G fn.ntmps c (Bc4 P fn.results.toList R) ⟨Gd args 0,H⟩):Ar P G f args H R:=by
 unfold Cr2 at hk;rw[hb] at hk;simp only[Bool.and_eq_true,decide_eq_true_eq] at hk;obtain⟨⟨hA,hok⟩,hres⟩:=hk;refine⟨hcall,fun vs w hv hH hG=> ?_⟩;have hl:=hv.length;refine(callsIn_wide (n:=0)).1 (callsIn_of_wp_marks hf hb trivial ?_);have hS:Sim G ⟨fn.ntmps,⟨w.heap.size,[],false⟩⟩ ⟨Gd args 0,H⟩ { tmps:=vs.toArray++Array.replicate (fn.ntmps-vs.toArray.size) undef,defers:= [] } w:=by
  refine⟨by simp;omega,Dfs.nil _ _ _,fun i hi=> ?_,hH,hG,Nat.le_refl _⟩;have h0:=Sq args 0 i;rw[Nat.zero_add] at h0;show Rel w H (Gd args 0 i) _;rw[h0];by_cases hlt:i<args.length
  ·have h1:args[i]? =some (args.getD i Bp):=by simp [List.getD,List.getElem?_eq_getElem hlt]
   obtain⟨x,hx,hr⟩:=hv.get h1;have:(vs.toArray++Array.replicate (fn.ntmps-vs.toArray.size) undef).getD i undef=x:=by
    have hlt':i<vs.length:=by omega
    rw[Array.getD_eq_getD_getElem?,Array.getElem?_append_left (by simpa using hlt')];simp [hx]
   rw[this];exact hr
  ·have h1:args.getD i Bp=Bp:=by simp [List.getD,List.getElem?_eq_none (Nat.le_of_not_lt hlt)]
   have:(vs.toArray++Array.replicate (fn.ntmps-vs.toArray.size) undef).getD i undef=undef:=by
    rw[Array.getD_eq_getD_getElem?,Array.getElem?_append_right (by simp;omega)];simp only[Array.getElem?_replicate];split<;>rfl
   rw[h1,this];exact Lm w H
 refine wpIn_mono (Aw9 c hok _ _ h 0 ⟨w.heap.size,[],false⟩ rfl _ w hS) ?_;rintro e a' w1 ⟨e',s',hQ,hX,hS1,hE1⟩;have fin: ∀(v:DVal),Dw (Fi P s' fn.results.toList)=some v->Ax1 R v s'.heap->
   LeavesInM Fence.wide 0 P fn a'.tmps (fun e w'=> ∃e' H',R e' H'/\RelE w' H' e' e/\Aw w' H'/\Ext H w H' w') a'.defers .returning w1:=by
  intro v hv hfin;refine Sim.leave (a:=a') (by simp) rfl a'.defers w1 hS1 hE1 fun w' hS' hE' _=> ?_;obtain⟨x,hx,hr⟩:=Ua (P:=P) hS' hres hv;obtain⟨v',H',hg,hR⟩:=hfin;obtain⟨g1,g2,g3⟩:=hg w' hS'.heap;exact⟨x,hx, .ret v',H',hR, .ret v' x (g3 x hr),g1,hE'.trans ⟨rfl,rfl,rfl,Nat.le_refl _,fun _ _ _=>rfl,fun b hb=> .inl (g2 b hb),fun _ _=>rfl,fun _ _ _=>rfl⟩⟩
 cases hX with
 | normal=>
  simp only[Bc4] at hQ;cases hd:Dw (Fi P s' fn.results.toList) with
  | none=>rw[hd] at hQ;exact hQ.elim
  | some v=>rw[hd] at hQ;exact fin v hd hQ
 | ret=>
  simp only[Bc4] at hQ;cases hd:Dw (Fi P s' fn.results.toList) with
  | none=>rw[hd] at hQ;exact hQ.elim
  | some v=>rw[hd] at hQ;exact fin v hd hQ
 | exit id=>exact hQ.elim
 | goto l=>exact hQ.elim
 | panic d v hv=>
  obtain⟨v',H',hg,hR⟩:=hQ;refine Sim.leave (a:=a') (by simp) rfl a'.defers w1 hS1 hE1 fun w' hS' hE' hl=> ?_;obtain⟨g1,g2,g3⟩:=hg w' hS'.heap;exact⟨.panic v',H',hR, .panic v' v (g3 v (Rel.lasts hl _ _ hv)),g1,hE'.trans ⟨rfl,rfl,rfl,Nat.le_refl _,fun _ _ _=>rfl,fun b hb=> .inl (g2 b hb),fun _ _=>rfl,fun _ _ _=>rfl⟩⟩
end
attribute [go_sem] Nh.eq_1 Nh.eq_2 Oj.eq_1 Ax0.eq_1 Wg.eq_1 Wg.eq_2 Am4.eq_1 Fi.eq_1 Fi.eq_2 Dw.eq_1 Ty.eq_1 Bc4.eq_1 Bc4.eq_2 Bc4.eq_3 Gd.eq_1 Gd.eq_2
theorem Ax2 (x y:DVal) (zs:List DVal):Dw (some (x::y::zs))=some (.tuple (x::y::zs)):=rfl
theorem Ax3:Dw (some [])=some (.tuple []):=rfl
attribute [go_sem] Ax2 Ax3
end Go.Dl

-- THE DATA LEVEL, PART X: plain data seen at this level; small words.
namespace Go.Dl
open Go
theorem Bl3 {n:Int} (h1: -9223372036854775808<=n) (h2:n<=9223372036854775807):IntKind.wrap .i64 n=n:=IntWalk.i64_in n ⟨h1,h2⟩
abbrev dI (n:Int):DVal:= .int .i64 n
theorem Bq8.run {G:Nat->DVal} {body:(DExit->DS->Prop)->DK} {Q:DExit->DS->Prop} {s:DS} {ι:Type} (I:ι->(Nat->DVal)->Aa->Prop) (μ:ι->Nat) (i:ι) (h0:I i s.env s.heap)
  (hr: ∀i env heap,I i env heap->body (Db (fun s1=> ∃j s2,Pn G s1 s2/\I j s2.env s2.heap/\μ j<μ i) Q) ⟨env,heap⟩):Bq8 G body Q s:=
 ⟨ι,fun i s=>I i s.env s.heap,μ,⟨i,s,Pn.refl s,h0⟩,fun i s h=>hr i s.env s.heap h⟩
theorem Cm3 {G:Nat->DVal} {ι:Type} {I:ι->(Nat->DVal)->Aa->Prop} {μ:ι->Nat} {s:DS} {m:Nat} (j:ι) (h:I j s.env s.heap) (hm:μ j<m): ∃j s2,Pn G s s2/\I j s2.env s2.heap/\μ j<m:=⟨j,s,Pn.refl s,h,hm⟩
theorem Am6 {α:Type} (f:α->DVal) (l:List α) (i:Nat) (h:i<l.length):(l.map f)[i]? =some (f l[i]):=by simp [h]
theorem Cr3 {a b:Prop} (h:a):(a/\b)=b:=by simp [h]
theorem Bt1 {p:Prop} [Decidable p] (h:p):decide p=true:=by simp [h]
theorem Bl4 {p:Prop} [Decidable p] (h: ¬p):decide p=false:=by simp [h]
end Go.Dl

-- THE DATA LEVEL, PART Y: regions whose order is drawn: a plan takes operations that only compute as early as they may come; whatever order is drawn ends as the plan does.
namespace Go.Dl
open Go
def EVF (dst:Option Nat) (F:DK->DS->Prop):Prop:=
 ∀K s,F K s-> ∃d,Av dst d K s/\ ∀K' s',Av dst d K' s'->F K' s'
theorem Eh (dst:Option Nat) (d:DVal):EVF dst (Av dst d):=fun K s h=>⟨d,h,fun K' s' h'=>h'⟩
theorem Fb (dst:Option Nat) {F:DK->DS->Prop} (h: ∀K s,¬F K s):EVF dst F:=fun K s hf=>(h K s hf).elim
theorem Az {dst:Option Nat} {p:Prop} {F:DK->DS->Prop} (h:EVF dst F):EVF dst (fun K s=>p/\F K s):=fun K s ⟨hp,hf⟩=>by
 obtain⟨d,h1,h2⟩:=h K s hf;exact⟨d,h1,fun K' s' h'=>⟨hp,h2 K' s' h'⟩⟩
theorem Fj (dst:Option Nat) (o:Option DVal):EVF dst (Fh dst o):=by
 cases o with
 | none=>exact Fb _ fun K s h=>h
 | some d=>exact Eh dst d
theorem Cg8 (dst:Option Nat) (c a b:DVal):EVF dst (Yx dst c a b):=by
 intro K s h;revert h;unfold Yx;split
 ·intro h;exact⟨_,h,fun _ _ h'=>h'⟩
 ·intro h;exact h.elim
theorem Bt2 (P:Program) (dst:Option Nat) (b:Bool) (t:Option TypeDesc) (z:Option DVal) (ps:List (Nat×DVal)):EVF dst (Pf P dst b t z ps):=by
 intro K s h;revert h;unfold Pf;split
 ·intro h;exact Fj _ _ K s h
 ·intro h;exact Fj _ _ K s h
 ·intro h;exact h.elim
theorem Am7 (size:Nat) (dst:Option Nat) (ag:Option Bool) (cs:List DVal) (off:Nat):EVF dst (Pg size dst ag cs off):=by
 intro K s h;revert h;unfold Pg;split
 ·intro h;exact Az (Eh _ _) K s h
 ·intro h;exact Fj _ _ K s h
 ·intro h;exact h.elim
theorem Bt3 (size:Nat) (ag:Option Bool) (dst:Option Nat) (off:Nat) (o:Option DObj):EVF dst (Vi size ag dst off o):=by
 intro K s h;revert h;unfold Vi;split
 ·intro h;exact Am7 _ _ _ _ _ K s h
 ·intro h;exact h.elim
theorem Cg9 (size:Nat) (ag:Option Bool) (dst:Option Nat) (v:DVal) (K:DK) (s:DS) (h:Tu size ag dst v K s):
  ∃d,Av dst d K s/\ ∀K' s',(∀r off,v= .optr r off->s'.heap r=s.heap r)->Av dst d K' s'->Tu size ag dst v K' s':=by
 unfold Tu at h;split at h<;>try exact h.elim
 ·obtain⟨d,h1,h2⟩:=Am7 _ _ _ _ _ K s h;exact⟨d,h1,fun K' s' _ h'=>h2 K' s' h'⟩
 ·rename_i r off
  obtain⟨d,h1,h2⟩:=Bt3 _ _ _ _ _ K s h;exact⟨d,h1,fun K' s' hk h'=>by show Vi _ _ _ _ (s'.heap r) K' s';rw[hk r off rfl];exact h2 K' s' h'⟩
theorem Am8 (dst:Option Nat) (v:DVal):EVF dst (Kn dst v):=by
 intro K s h;revert h;unfold Kn;split<;>intro h<;>first | exact h.elim | exact⟨_,h,fun _ _ h'=>h'⟩
theorem Ax4 (dst:Option Nat) (o b:Option Bool):EVF dst (Ia dst o b):=by
 intro K s h;revert h;unfold Ia;split<;>intro h<;>first | exact h.elim | exact⟨_,h,fun _ _ h'=>h'⟩
theorem Bl5 (k:IntKind) (a b:Int) (dst:Option Nat) (op:BinOp):EVF dst (fun K s=>Qf k a b dst K s op):=by
 intro K s h;revert h;unfold Qf;split<;>intro h<;>first | exact h.elim | exact⟨_,h,fun _ _ h'=>h'⟩ | exact⟨_,h.2,fun _ _ h'=>⟨h.1,h'⟩⟩
theorem Bt4 (k:IntKind) (a b:Int) (dst:Option Nat) (op:BinOp):EVF dst (fun K s=>Vk k a b dst K s op):=by
 intro K s h;revert h;unfold Vk;split<;>intro h<;>first | exact h.elim | exact⟨_,h,fun _ _ h'=>h'⟩ | exact⟨_,h.2,fun _ _ h'=>⟨h.1,h'⟩⟩
theorem Bl6 (a b:List UInt8) (dst:Option Nat) (op:BinOp):EVF dst (fun K s=>Oe a b dst K s op):=by
 intro K s h;revert h;unfold Oe;split<;>intro h<;>first | exact h.elim | exact⟨_,h,fun _ _ h'=>h'⟩ | exact⟨_,h.2,fun _ _ h'=>⟨h.1,h'⟩⟩
theorem Ch0 (op:BinOp) (k k':IntKind) (a b:Int) (dst:Option Nat) (x:Bool):EVF dst (fun K s=>Yz op k k' a b dst K s x):=by
 cases x
 ·exact Az (Bl5 k a b dst op)
 ·exact Bt4 k a b dst op
theorem Bt5 (P:Program) (t:TypeId) (c:Bool) (op:BinOp) (dst:Option Nat) (x y:DVal):EVF dst (Gi P t c op dst x y):=by
 intro K s h;revert h;unfold Gi;split
 ·intro h;exact Ch0 _ _ _ _ _ _ _ K s h
 ·intro h;exact Bl6 _ _ _ _ K s h
 ·intro h;exact Az (Az (Ax4 _ _ _)) K s h
 ·intro h;exact Ax4 _ _ _ K s h
theorem Cy7 (dst:Option Nat) (op:UnOp) (x:DVal):EVF dst (dUn dst op x):=by
 intro K s h;revert h;unfold dUn;split<;>intro h<;>first | exact h.elim | exact⟨_,h,fun _ _ h'=>h'⟩
theorem Ax5 (dst:Option Nat) (a b:Option TypeDesc) (x:DVal):EVF dst (Ix dst a b x):=by
 intro K s h;revert h;unfold Ix;split<;>intro h<;>first | exact h.elim | exact⟨_,h,fun _ _ h'=>h'⟩
theorem Ae5 (t:TypeId) (x:DVal) (dst:Option Nat) (b:Bool):EVF dst (Iz t x dst b):=by
 intro K s h;revert h;unfold Iz;split<;>intro h<;>first | exact h.elim | exact⟨_,h,fun _ _ h'=>h'⟩
theorem Am9 (l:List UInt8) (dst:Option Nat) (a b:Option Int):EVF dst (fun K s=>Of l dst K s a b):=by
 cases a<;>cases b<;>first | exact Fb _ (fun K s h=>h) | exact Az (Az (Az (Eh _ _)))
theorem Zh (size:Nat) (cs:List DVal) (len:Nat) (dst:Option Nat) (a b:Option Int):EVF dst (fun K s=>Og size cs len dst K s a b):=by
 cases a<;>cases b<;>first | exact Fb _ (fun K s h=>h) | exact Az (Az (Az (Eh _ _)))
theorem Sr (size r off cap:Nat) (dst:Option Nat) (a b c:Option Int):EVF dst (fun K s=>Jn size r off cap dst K s a b c):=by
 cases a<;>cases b<;>cases c<;>first | exact Fb _ (fun K s h=>h) | exact Az (Az (Az (Az (Eh _ _))))
theorem Bl7 (dst:Option Nat) (a b:Option Int):EVF dst (fun K s=>Ut dst K s a b):=by
 cases a<;>cases b<;>first | exact Fb _ (fun K s h=>h) | exact Az (Az (Eh _ _))
theorem Bt6 (P:Program) (lo hi:Option DVal) (dst:Option Nat) (t:Option TypeDesc) (v:DVal) (m:Option DVal) (K:DK) (s:DS) (h:Ph P lo hi dst t v m K s):
  ∃d,Av dst d K s/\ ∀K' s',(∀r off,v= .optr r off->s'.heap r=s.heap r)->Av dst d K' s'->Ph P lo hi dst t v m K' s':=by
 have lift: ∀ {F:DK->DS->Prop},EVF dst F->F K s-> ∃d,Av dst d K s/\ ∀K' s',(∀r off,v= .optr r off->s'.heap r=s.heap r)->Av dst d K' s'->F K' s':=by
  intro F hF hf;obtain⟨d,h1,h2⟩:=hF K s hf;exact⟨d,h1,fun K' s' _ h'=>h2 K' s' h'⟩
 unfold Ph at h;split at h<;>try exact h.elim
 ·exact lift (Am9 _ _ _ _) h
 ·exact lift (Az (Bl7 _ _ _)) h
 ·exact lift (Az (Zh _ _ _ _ _ _)) h
 ·exact lift (Az (Az (Sr _ _ _ _ _ _ _ _))) h
 ·exact lift (Az (Az (Az (Sr _ _ _ _ _ _ _ _)))) h
 ·rename_i n e r off
  obtain⟨h1,h2,h3⟩:=h;obtain⟨d,h4,h5⟩:=Sr _ _ _ _ _ _ _ _ K s h3;exact⟨d,h4,fun K' s' hk h'=>⟨h1,by rw[hk r off rfl];exact h2,h5 K' s' h'⟩⟩
 ·exact lift (Az (Az (Zh _ _ _ _ _ _))) h
theorem Yn (P:Program) (x:DVal) (dst:Option Nat) (f:Option Field):EVF dst (Mw P x dst f):=by
 cases f with
 | none=>exact Fb _ (fun K s h=>h)
 | some f=>exact Az (Fj _ _)
theorem Ae6 (P:Program) (f:Nat) (x:DVal) (dst:Option Nat) (t:Option TypeDesc):EVF dst (Fp P f x dst t):=by
 intro K s h;revert h;unfold Fp;split
 ·intro h;exact Yn _ _ _ _ K s h
 ·intro h;exact h.elim
theorem Bc5 (size:Nat) (cs:List DVal) (off:Nat) (dst:Option Nat) (b:Option Bool):EVF dst (Vm size cs off dst b):=by
 intro K s h;revert h;unfold Vm;split
 ·intro h;exact Eh _ _ K s h
 ·intro h;exact Fj _ _ K s h
 ·intro h;exact h.elim
theorem Bl8 (P:Program) (cs:List DVal) (dst:Option Nat) (f:Option Field):EVF dst (Ab7 P cs dst f):=by
 cases f with
 | none=>exact Fb _ (fun K s h=>h)
 | some f=>exact Bc5 _ _ _ _ _
theorem Bt7 (P:Program) (f:Nat) (dst:Option Nat) (t:Option TypeDesc) (x:DVal):EVF dst (Pj P f dst t x):=by
 intro K s h;revert h;unfold Pj;split
 ·intro h;exact Bl8 _ _ _ _ K s h
 ·intro h;exact h.elim
theorem Ae7 (P:Program) (dst:Option Nat) (t:Option TypeDesc) (x i:DVal):EVF dst (Fq P dst t x i):=by
 intro K s h;revert h;unfold Fq;split
 ·intro h;exact Az (Az (Az (Az (Eh _ _)))) K s h
 ·intro h;exact Az (Az (Az (Eh _ _))) K s h
 ·intro h;exact Az (Az (Az (Fj _ _))) K s h
 ·intro h;exact h.elim
theorem Bt8 (P:Program) (dst:Option Nat) (t:Option TypeDesc) (x i:DVal):EVF dst (Sh P dst t x i):=by
 intro K s h;revert h;unfold Sh;split
 ·intro h;exact Az (Az (Bc5 _ _ _ _ _)) K s h
 ·intro h;exact Az (Fj _ _) K s h
 ·intro h;exact h.elim
theorem Ax6 (i:Nat) (dst:Option Nat) (x:DVal):EVF dst (Ko i dst x):=by
 intro K s h;revert h;unfold Ko;split
 ·intro h;exact Fj _ _ K s h
 ·intro h;exact h.elim
theorem Wh (dst:Option Nat) (z:Option DVal):EVF dst (Qg dst z):=by
 cases z with
 | none=>exact Fb _ (fun K s h=>h)
 | some z=>exact Eh _ _
theorem An0 (v:DVal) (z:Option DVal) (dst:Option Nat) (a b:Bool):EVF dst (Iu v z dst a b):=by
 cases a<;>cases b
 ·exact Fb _ (fun K s h=>h)
 ·exact Eh _ _
 ·exact Wh _ _
 ·exact Eh _ _
theorem Yo (P:Program) (t:TypeId) (ok:Bool) (dst:Option Nat) (b:Bool) (x:DVal):EVF dst (Ck P t ok dst b x):=by
 intro K s h;revert h;unfold Ck;split
 ·intro h;exact An0 _ _ _ _ _ K s h
 ·intro h;exact Az (Wh _ _) K s h
 ·intro h;exact h.elim
theorem Cr4 (dst:Option Nat) (t:Option TypeDesc) (x:DVal):EVF dst (Bg7 dst t x):=by
 intro K s h;revert h;unfold Bg7;split<;>intro h<;>first | exact h.elim | exact⟨_,h,fun _ _ h'=>h'⟩
theorem Bt9 (P:Program) (x:DVal) (dst:Option Nat) (ts:List TypeId):EVF dst (Ab8 P x dst ts):=by
 intro K s h;revert h;unfold Ab8;split
 ·intro h;exact Cr4 _ _ _ K s h
 ·intro h;exact h.elim
def Jt:Op->Bool
 | .move _ | .assign _ | .pick _ _ _ | .build _ _ | .load _ _ | .nilCheck _ | .unOp _ _ _ | .convert _ _ _ | .makeInterface _ _ | .makeFunc _ _ _
 | .slice _ _ _ _ _ | .fieldAddr _ _ _ | .field _ _ _ | .indexAddr _ _ _ | .index _ _ _ | .typeAssert _ _ _ _ | .extract _ _=>true
 | .binOp _ _ _ y _=>!Dh y
 | .call c=>match c.callee with
  | .builtin .len | .builtin .min | .builtin .max=>true
  | _=>false
 | _=>false
def Ae8:Op->Option Operand
 | .load _ a=>some a
 | .slice _ x _ _ _=>some x
 | .convert _ _ x=>some x
 | _=>none
def Ev (H H':Aa):DVal->Prop
 | .optr r _=>H' r=H r
 | .oslice _ r _ _ _=>H' r=H r
 | _=>True
theorem Ju {H:Aa} {v:DVal}:Ev H H v:=by
 unfold Ev;split<;>trivial
theorem Ev.ptr {H H':Aa} {d:DVal} (h:Ev H H' d): ∀r off,d= .optr r off->H' r=H r:=fun r off e=>by subst e;exact h
def An1 (G:Nat->DVal) (s s':DS) (op:Op):Prop:= ∀a,Ae8 op=some a->Ev s.heap s'.heap (dev G s.env a)
theorem An2 {H H':Aa} {x:DVal} (h:Ev H H' x):Lk H' x=Lk H x:=by
 unfold Lk;split<;>try rfl
 simp only[Ev] at h;rw[h]
theorem Bu0 (P:Program) (dst:Option Nat) (a b:Option TypeDesc) (x:DVal) (K:DK) (s:DS) (h:Gl P dst a b x K s):
  ∃d,Av dst d K s/\ ∀K' s',Ev s.heap s'.heap x->Av dst d K' s'->Gl P dst a b x K' s':=by
 revert h;unfold Gl;split
 ·rintro⟨h1,h⟩;cases hb:(Lk s.heap x).bind Ig with
  | none=>rw[hb] at h;exact h.elim
  | some l=>
   rw[hb] at h;exact⟨_,h,fun K' s' hk h'=>⟨h1,by rw[An2 hk,hb];exact h'⟩⟩
 ·intro h;obtain⟨d,h1,h2⟩:=Ax5 _ _ _ _ K s h;exact⟨d,h1,fun K' s' _ h'=>h2 K' s' h'⟩
theorem Jd {G:Nat->DVal} {env env':Nat->DVal}: ∀ {xs:List Operand},(∀x∈xs,dev G env' x=dev G env x)->Cj G env' xs=Cj G env xs
 | [],_=>rfl
 | x::xs,h=>by
  simp only[Cj];rw[h x (by simp),Jd fun y hy=>h y (by simp [hy])]
theorem Ls {G:Nat->DVal} {env env':Nat->DVal}: ∀ {xs:List (Nat×Operand)},(∀x∈xs.map (·.2),dev G env' x=dev G env x)->Eu G env' xs=Eu G env xs
 | [],_=>rfl
 | (i,x)::xs,h=>by
  simp only[Eu];rw[h x (by simp),Ls fun y hy=>h y (by simp at hy⊢;exact .inr hy)]
theorem Lt {G:Nat->DVal} {env env':Nat->DVal} {x:Option Operand} (h: ∀y∈x.toArray,dev G env' y=dev G env y):Hu G env' x=Hu G env x:=by
 cases x with
 | none=>rfl
 | some x=>simp only[Hu];rw[h x (by simp)]
def Jv (all:List Oper) (env:Nat->DVal) (o:Oper):Option Bool:=
 match o.guard with
 | none=>some true
 | some (j,b)=>match Ih all j with
  | some g=>match env g with
   | .bool v=>some (v==b)
   | .tuple []=>some false
   | _=>none
  | none=>none
end Go.Dl
