/- The data level and the contracts of the functions that are reached (part 12). -/
import Derived.Deep.Slices
import Derived.DeepKeys4
import Derived.LaidLaws
import Derived.Stop.LaidErr
import Derived.Shelf.Vars
import Derived.Test.YtpkdkhoeaibpaaaGreatDoorRows
import Derived.Test.YtpkdkhoeaibpaaaGreatDoorPdk
set_option linter.unusedSimpArgs false
set_option linter.unusedVariables false
set_option linter.unusedSectionVars false
-- THE READING, PART 6: slices of any kind of int, structs.
namespace Go.Dl
open Go Go.RowKit Go.Proofs.YtpkdkhoeaibpaaaGreatDoor
theorem Dy3 {k:IntKind} {n:Int} (h:(Lit.int k n).wf=true):k.min<=n/\n<=k.max:=by
 simpa [Lit.wf] using h
section
variable {P:Program} {H:Type} {w:World}
def Aa9 (P:Program) (H:Type) (w:World) (fs:List Field) (off total:Nat) (α:Type) (f:α->List DVal) (g:α->List (DataW H)->Prop):Prop:=
 ∀(enc:TypeId×Value->H) base sp held Cw (cs:List Value) xs,cs.length=total->(fs.mapM fun fl=>DataW.trod enc P w base sp held Cw fl.type ((cs.drop fl.offset).take (P.cellsOf fl.type)))=some xs-> ∃x,g x (xs.map (·.1))/\Br w (fun _=>none) (f x) (cs.drop off)
theorem Ft (n:Nat):Aa9 P H w [] n n Unit (fun _=> []) (fun _ ds=>ds= []):=by
 intro enc base sp held Cw cs xs hl h;simp at h;subst h;exact⟨(),rfl,by rw[List.drop_of_length_le (by omega)];simp [Br]⟩
theorem Bn {fl:Field} {fs:List Field} {off total n:Nat} {α β:Type} {f:α->List DVal} {g:α->DataW H->Prop} {f':β->List DVal} {g':β->List (DataW H)->Prop} (h1:Gi P H w fl.type α f g) (ho:fl.offset=off) (hn:P.cellsOf fl.type=n)
  (h2:Aa9 P H w fs (off+n) total β f' g'):Aa9 P H w (fl::fs) off total (α×β) (fun x=>f x.1++f' x.2) (fun x ds=> ∃d ds',ds=d::ds'/\g x.1 d/\g' x.2 ds'):=by
 intro enc base sp held Cw cs xs hl h;rw[List.mapM_cons] at h;simp only[Option.bind_eq_bind,Option.bind_eq_some_iff,Option.pure_def,Option.some.injEq] at h;obtain⟨y,hy,ys,hys,rfl⟩:=h;obtain⟨x1,g1,r1⟩:=h1 enc base sp held Cw _ y.1 y.2 hy;obtain⟨x2,g2,r2⟩:=h2 enc base sp held Cw cs ys hl hys;refine⟨(x1,x2),⟨y.1,ys.map (·.1),by simp,g1,g2⟩, ?_⟩;rw[ho,hn] at r1;have:cs.drop off=(cs.drop off).take n++cs.drop (off+n):=by
  rw[<-List.drop_drop,List.take_append_drop]
 rw[this];exact r1.append r2
theorem Fu {t:TypeId} {fs:List Field} {α:Type} {f:α->List DVal} {g:α->List (DataW H)->Prop} (ht:P.underlying t=some (.struct fs.toArray)) (h:Aa9 P H w fs 0 (P.cellsOf t) α f g):
  Gi P H w t α f (fun x d=> ∃ds,d= .agg ds/\g x ds):=by
 intro enc base sp held Cw cs d ps hh;cases Cw with
 | zero=>simp [DataW.trod] at hh
 | succ Cw=>
  unfold DataW.trod at hh;rw[ht] at hh;dsimp only at hh;split at hh
  ·rename_i hl
   simp only[Option.map_eq_some_iff,Prod.mk.injEq] at hh;obtain⟨xs,hx,rfl,rfl⟩:=hh;obtain⟨x,g1,r1⟩:=h enc base sp held Cw cs xs hl hx;exact⟨x,⟨_,rfl,g1⟩,by simpa using r1⟩
  ·cases hh
theorem Gi.map {t:TypeId} {α β:Type} {f:α->List DVal} {g:α->DataW H->Prop} (h:Gi P H w t α f g) {f':β->List DVal} {g':β->DataW H->Prop} (c: ∀x d,g x d-> ∃y,f' y=f x/\g' y d):Gi P H w t β f' g':=by
 intro enc base sp held Cw cs d ps hh;obtain⟨x,g1,r1⟩:=h enc base sp held Cw cs d ps hh;obtain⟨y,e,g2⟩:=c x d g1;exact⟨y,g2,by rw[e];exact r1⟩
theorem Dk8 {t:TypeId} {α:Type} {f:α->List DVal} {g:α->DataW H->Prop} (hr:Gi P H w t α f g) {enc:TypeId×Value->H} {base:Nat} {sp:Nat->Bool} {held:Bool} {v:Value} {d:DataW H} {ps:List MemPlace}
  (h:DataW.Trod enc P w base sp held t v d ps) (hv: ∃xs,v= .agg xs): ∃x,g x d/\Rel w (fun _=>none) (.agg (f x)) v:=by
 obtain⟨Cw,h⟩:=h;obtain⟨xs,rfl⟩:=hv;obtain⟨x,hg,hx⟩:=hr _ _ _ _ _ _ _ _ h;exact⟨x,hg,by simp only[Rel];exact⟨xs,rfl,by simpa [Value.cells] using hx⟩⟩
theorem Dy4 {r:Reach} {base:Nat} {t:TypeId} {v:Value} {fs:Array Field} (hu:P.underlying t=some (.struct fs)) (h:Value.okWide P w r base t v): ∃xs,v= .agg xs:=by
 unfold Value.okWide at h;rw[hu] at h;cases v<;>first | exact⟨_,rfl⟩ | (exfalso;revert h;unfold Cell.okWide;rw[hu];simp [Cell.ok,hu];done) | skip
end
end Go.Dl

-- Chapter 3: the reading of expressions: data that hold data of their own kind.
namespace Go.Dl
open Go Go.RowKit Go.Deep Go.Proofs Go.Proofs.YtpkdkhoeaibpaaaGreatDoor
set_option maxRecDepth 100000
section
variable {P:Program} {H:Type} {w:World}
def Ij (N:Nat) (P:Program) (H:Type) (w:World) (t:TypeId) (α:Type) (f:α->List DVal) (g:α->DataW H->Prop):Prop:=
 ∀(enc:TypeId×Value->H) base sp held Cw cs d ps,DataW.trod enc P w base sp held Cw t cs=some (d,ps)->Rows.uptoBulk d<=N-> ∃x,g x d/\Br w (fun _=>none) (f x) cs
def Wh (N:Nat) (P:Program) (H:Type) (w:World) (fs:List Field) (off total:Nat) (α:Type) (f:α->List DVal) (g:α->List (DataW H)->Prop):Prop:=
 ∀(enc:TypeId×Value->H) base sp held Cw (cs:List Value) xs,cs.length=total->(fs.mapM fun fl=>DataW.trod enc P w base sp held Cw fl.type ((cs.drop fl.offset).take (P.cellsOf fl.type)))=some xs->(∀x∈xs,Rows.uptoBulk x.1<=N)-> ∃x,g x (xs.map (·.1))/\Br w (fun _=>none) (f x) (cs.drop off)
theorem Gi.n {t:TypeId} {α:Type} {f:α->List DVal} {g:α->DataW H->Prop} (h:Gi P H w t α f g) (N:Nat):Ij N P H w t α f g:=fun enc base sp held Cw cs d ps hh _=>h enc base sp held Cw cs d ps hh
theorem Aq4 {t:TypeId} {α:Type} {f:α->List DVal} {g:α->DataW H->Prop} (h: ∀N,Ij N P H w t α f g):Gi P H w t α f g:=fun enc base sp held Cw cs d ps hh=>h _ enc base sp held Cw cs d ps hh (Nat.le_refl _)
theorem Ij.less {N M:Nat} {t:TypeId} {α:Type} {f:α->List DVal} {g:α->DataW H->Prop} (h:Ij N P H w t α f g) (hm:M<=N):Ij M P H w t α f g:=fun enc base sp held Cw cs d ps hh hb=>h enc base sp held Cw cs d ps hh (by omega)
theorem Bk3 {l:List (DataW H)} {d:DataW H} (h:d∈l):Rows.uptoBulk d<=Rows.uptoBulkAll l:=by
 induction l with
 | nil=>cases h
 | cons x l ih=>
  rw[Rows.uptoBulkAll];rcases List.mem_cons.1 h with rfl | h
  ·omega
  ·have:=ih h;omega
theorem Lo {N:Nat} {t e:TypeId} {α:Type} {f:α->List DVal} {g:α->DataW H->Prop} (ht:P.underlying t=some (.slice e)) (he:Ij N P H w e α f g):
  Ij N P H w t (List α) (fun xs=> [.vslice (xs.flatMap f) xs.length]) (SlG g):=by
 intro enc base sp held Cw cs d ps h hbulk;rcases open_slice ht h with⟨rfl,hx⟩ | ⟨a,len,cap,m,n,D,Pl,rfl,hb,hl,hm,hmm,hx,hall⟩
 ·cases hx;exact⟨[], .inl ⟨rfl,rfl⟩,by simp [Br,Rel]⟩
 ·have hlm:len<=m:=by rw[hmm];split<;>omega
  simp only[Prod.mk.injEq] at hx;obtain⟨rfl,rfl⟩:=hx;have hbk: ∀k,k<len->Rows.uptoBulk (D k)<=N:=fun k hk=>by
   have:=Bk3 (l:=(List.range len).map D) (List.mem_map.2 ⟨k,List.mem_range.2 hk,rfl⟩);rw[Rows.uptoBulk] at hbulk;omega
  have key: ∀k,k<=len-> ∃(xs:List α) (ys:List Value),xs.length=k/\Wg g xs ((List.range k).map D)/\ys.length=k*P.cellsOf e/\Hr w a.block a.off ys/\Br w (fun _=>none) (xs.flatMap f) ys:=by
   intro k
   induction k with
   | zero=>intro _;exact⟨[],[],rfl,trivial,by simp,fun i x hx=>by simp at hx,by simp [Br]⟩
   | succ k ih=>
    intro hk;obtain⟨xs,ys,h1,h2,h3,h4,h5⟩:=ih (by omega);obtain⟨cs',g1,g2⟩:=hall k (by omega);obtain⟨x,hg,hr⟩:=he _ _ _ _ _ _ _ _ g2 (hbk k (by omega));obtain⟨c1,c2⟩:=Zd g1;refine⟨xs++ [x],ys++cs',by simp [h1], ?_,by simp only[List.length_append,h3,c1,Nat.succ_mul],h4.append ?_, ?_⟩
    ·rw[List.range_succ,List.map_append];exact h2.append ⟨hg,trivial⟩
    ·rw[h3];have ha:(a.add (k*P.cellsOf e)).block=a.block/\(a.add (k*P.cellsOf e)).off=a.off+k*P.cellsOf e:=by
      unfold Addr.add;split
      ·rename_i h0;rw[h0];exact⟨rfl,rfl⟩
      ·exact⟨rfl,rfl⟩
     rw[ha.1,ha.2] at c2;exact c2
    ·rw[List.flatMap_append];simpa using h5.append hr
  obtain⟨xs,ys,h1,h2,h3,h4,h5⟩:=key len (Nat.le_refl _);refine⟨xs, .inr ⟨_,_,rfl,by omega,h2⟩, ?_⟩;have hrel:Rel w (fun _=>none) (.vslice (xs.flatMap f) xs.length) (.slice (some a) len cap):=by
   simp only[Rel];refine⟨some a,cap,by rw[h1],by omega, ?_⟩;cases hys:ys with
   | nil=>subst hys;left;exact List.eq_nil_of_length_eq_zero (by rw[h5.length];rfl)
   | cons y yr=>
    right;have h6:=h4 0 y (by rw[hys];rfl);have hpos:0<len/\0<P.cellsOf e:=by
     rw[hys] at h3;simp only[List.length_cons] at h3;constructor
     ·rcases Nat.eq_zero_or_pos len with h0 | h0
      ·subst h0;simp at h3
      ·exact h0
     ·rcases Nat.eq_zero_or_pos (P.cellsOf e) with h0 | h0
      ·rw[h0] at h3;simp at h3
      ·exact h0
    have hsp:a.spot=none:=by
     obtain⟨cs',g1,g2⟩:=hall 0 (by omega);unfold World.cells? at g1;split at g1
     ·obtain⟨_,m2⟩:=Om g1;obtain⟨z,_,hz⟩:=m2 0 0 (by simp [hpos.2]);have:(a.add (0*P.cellsOf e)).add 0=a:=by simp [Addr.add]
      rw[this] at hz;exact Xo hz
     ·cases g1
    refine⟨a.block,a.off,y::yr,by cases a;simp at hsp⊢;exact hsp, .inr ⟨rfl,hys▸h4⟩,hys▸h5⟩
  simp only[Br];exact⟨_,_,rfl,hrel,rfl⟩
theorem Qd (N n:Nat):Wh N P H w [] n n Unit (fun _=> []) (fun _ ds=>ds= []):=fun enc base sp held Cw cs xs hl h _=>Ft n enc base sp held Cw cs xs hl h
theorem Db {N:Nat} {fl:Field} {fs:List Field} {off total n:Nat} {α β:Type} {f:α->List DVal} {g:α->DataW H->Prop} {f':β->List DVal} {g':β->List (DataW H)->Prop} (h1:Ij N P H w fl.type α f g) (ho:fl.offset=off) (hn:P.cellsOf fl.type=n)
  (h2:Wh N P H w fs (off+n) total β f' g'):Wh N P H w (fl::fs) off total (α×β) (fun x=>f x.1++f' x.2) (fun x ds=> ∃d ds',ds=d::ds'/\g x.1 d/\g' x.2 ds'):=by
 intro enc base sp held Cw cs xs hl h hb;rw[List.mapM_cons] at h;simp only[Option.bind_eq_bind,Option.bind_eq_some_iff,Option.pure_def,Option.some.injEq] at h;obtain⟨y,hy,ys,hys,rfl⟩:=h;obtain⟨x1,g1,r1⟩:=h1 enc base sp held Cw _ y.1 y.2 hy (hb y (by simp));obtain⟨x2,g2,r2⟩:=h2 enc base sp held Cw cs ys hl hys fun x hx=>hb x (by simp [hx]);refine⟨(x1,x2),⟨y.1,ys.map (·.1),by simp,g1,g2⟩, ?_⟩;rw[ho,hn] at r1;have:cs.drop off=(cs.drop off).take n++cs.drop (off+n):=by
  rw[<-List.drop_drop,List.take_append_drop]
 rw[this];exact r1.append r2
theorem Nr {N:Nat} {t:TypeId} {fs:List Field} {α:Type} {f:α->List DVal} {g:α->List (DataW H)->Prop} (ht:P.underlying t=some (.struct fs.toArray)) (h:Wh N P H w fs 0 (P.cellsOf t) α f g):
  Ij (N+1) P H w t α f (fun x d=> ∃ds,d= .agg ds/\g x ds):=by
 intro enc base sp held Cw cs d ps hh hbulk;cases Cw with
 | zero=>simp [DataW.trod] at hh
 | succ Cw=>
  unfold DataW.trod at hh;rw[ht] at hh;dsimp only at hh;split at hh
  ·rename_i hl
   simp only[Option.map_eq_some_iff,Prod.mk.injEq] at hh;obtain⟨xs,hx,rfl,rfl⟩:=hh;obtain⟨x,g1,r1⟩:=h enc base sp held Cw cs xs hl hx fun y hy=>by
    have:=Bk3 (l:=xs.map (·.1)) (List.mem_map.2 ⟨y,hy,rfl⟩);rw[Rows.uptoBulk] at hbulk;omega
   exact⟨x,⟨_,rfl,g1⟩,by simpa using r1⟩
  ·cases hh
theorem Ij.map {N:Nat} {t:TypeId} {α β:Type} {f:α->List DVal} {g:α->DataW H->Prop} (h:Ij N P H w t α f g) {f':β->List DVal} {g':β->DataW H->Prop} (c: ∀x d,g x d-> ∃y,f' y=f x/\g' y d):Ij N P H w t β f' g':=by
 intro enc base sp held Cw cs d ps hh hb;obtain⟨x,g1,r1⟩:=h enc base sp held Cw cs d ps hh hb;obtain⟨y,e,g2⟩:=c x d g1;exact⟨y,g2,by rw[e];exact r1⟩
end
section
variable {H:Type} {w:World}
def GE (e:Ex) (d:DataW H):Prop:=Hu e<=Rows.uptoBulk d/\okE e
def GA (a:As) (d:DataW H):Prop:=Zj a<=Rows.uptoBulk d/\okA a
def GC (c:Ch) (d:DataW H):Prop:=Be7 c<=Rows.uptoBulk d/\okC c
theorem Do8: ∀ {l:List Ex} {ds:List (DataW H)},Wg GE l ds->Kw l<=Rows.uptoBulkAll ds/\okL l
 | [],[],_=>⟨Nat.le_refl _,trivial⟩
 | [],_::_,h=>h.elim
 | _::_,[],h=>h.elim
 | x::l,d::ds,h=>by
  obtain⟨a,b⟩:=Do8 h.2;have:=h.1.1;rw[Kw,Rows.uptoBulkAll,okL];exact⟨by omega,h.1.2,b⟩
theorem Do9: ∀ {l:List As} {ds:List (DataW H)},Wg GA l ds->Mb l<=Rows.uptoBulkAll ds/\Bf2 l
 | [],[],_=>⟨Nat.le_refl _,trivial⟩
 | [],_::_,h=>h.elim
 | _::_,[],h=>h.elim
 | x::l,d::ds,h=>by
  obtain⟨a,b⟩:=Do9 h.2;have:=h.1.1;rw[Mb,Rows.uptoBulkAll,Bf2];exact⟨by omega,h.1.2,b⟩
theorem Dp0: ∀ {l:List Ch} {ds:List (DataW H)},Wg GC l ds->Jr l<=Rows.uptoBulkAll ds/\Ak8 l
 | [],[],_=>⟨Nat.le_refl _,trivial⟩
 | [],_::_,h=>h.elim
 | _::_,[],h=>h.elim
 | x::l,d::ds,h=>by
  obtain⟨a,b⟩:=Dp0 h.2;have:=h.1.1;rw[Jr,Rows.uptoBulkAll,Ak8];exact⟨by omega,h.1.2,b⟩
theorem Eg6 {l:List Ex} {d:DataW H} (h:SlG GE l d):Kw l+1<=Rows.uptoBulk d/\okL l:=by
 rcases h with⟨rfl,rfl⟩ | ⟨es,sp,rfl,_,h⟩
 ·exact⟨by simp [Kw,Rows.uptoBulk],trivial⟩
 ·have:=Do8 h;exact⟨by rw[Rows.uptoBulk];omega,this.2⟩
theorem Ek8 {l:List As} {d:DataW H} (h:SlG GA l d):Mb l+1<=Rows.uptoBulk d/\Bf2 l:=by
 rcases h with⟨rfl,rfl⟩ | ⟨es,sp,rfl,_,h⟩
 ·exact⟨by simp [Mb,Rows.uptoBulk],trivial⟩
 ·have:=Do9 h;exact⟨by rw[Rows.uptoBulk];omega,this.2⟩
theorem Dy5 {l:List Ch} {d:DataW H} (h:SlG GC l d):Jr l+1<=Rows.uptoBulk d/\Ak8 l:=by
 rcases h with⟨rfl,rfl⟩ | ⟨es,sp,rfl,_,h⟩
 ·exact⟨by simp [Jr,Rows.uptoBulk],trivial⟩
 ·have:=Dp0 h;exact⟨by rw[Rows.uptoBulk];omega,this.2⟩
theorem Aq5 {N:Nat} (he:Ij N Tryz.prog H w 29 Ex dEx GE):Ij N Tryz.prog H w 198 Ch dCh GC:=by
 have h:=Nr (N:=N) (H:=H) (w:=w) Tryz.underlying198 (Db (n:=1) ((Gj Tryz.underlying196).n N) rfl (by kernel_rfl) (Db (n:=1) (Lo Tryz.underlying26 he) rfl (by kernel_rfl) (by
   rw[show Tryz.prog.cellsOf 198=0+1+1 by kernel_rfl];exact Qd _ _)))
 refine(h.less (Nat.le_succ N)).map fun x d hg=>⟨.mk x.1 x.2.1, ?_, ?_⟩
 ·rw[Ae5];rfl
 ·obtain⟨ds,rfl,d0,ds0,rfl,g0,d1,ds1,rfl,g1,_⟩:=hg;have:=Eg6 g1;exact⟨by rw[Be7,Rows.uptoBulk,Rows.uptoBulkAll,Rows.uptoBulkAll];omega,by rw[okC];exact this.2⟩
theorem Cl9 {N:Nat} (he:Ij N Tryz.prog H w 29 Ex dEx GE):Ij N Tryz.prog H w 222 As dAs GA:=by
 have h:=Nr (N:=N) (H:=H) (w:=w) Tryz.underlying222 (Db (n:=1) (Lo Tryz.underlying126 (Aq5 he)) rfl (by kernel_rfl) (Db (n:=9) he rfl (by kernel_rfl) (by
   rw[show Tryz.prog.cellsOf 222=0+1+9 by kernel_rfl];exact Qd _ _)))
 refine(h.less (Nat.le_succ N)).map fun x d hg=>⟨.mk x.1 x.2.1, ?_, ?_⟩
 ·rw[Di8];simp
 ·obtain⟨ds,rfl,d0,ds0,rfl,g0,d1,ds1,rfl,g1,_⟩:=hg;have:=Dy5 g0;have:=g1.1;exact⟨by rw[Zj,Rows.uptoBulk,Rows.uptoBulkAll,Rows.uptoBulkAll];omega,by rw[okA];exact⟨(Dy5 g0).2,g1.2⟩⟩
theorem Xp: ∀N,Ij N Tryz.prog H w 29 Ex dEx GE
 | 0=>fun enc base sp held Cw cs d ps _ hb=>by have:=Bk1 d;omega
 | N+1=>by
  have he:=Xp N;have h:=Nr (N:=N) (H:=H) (w:=w) Tryz.underlying29 (Db (n:=1) ((Gj Tryz.underlying24).n N) rfl (by kernel_rfl) (Db (n:=1) ((Gj Tryz.underlying25).n N) rfl (by kernel_rfl)
   (Db (n:=1) ((Gj Tryz.underlying2).n N) rfl (by kernel_rfl) (Db (n:=1) ((Ln Tryz.underlying9).n N) rfl (by kernel_rfl)
   (Db (n:=1) (Lo Tryz.underlying26 he) rfl (by kernel_rfl) (Db (n:=1) (Lo Tryz.underlying27 (Cl9 he)) rfl (by kernel_rfl)
   (Db (n:=1) ((Gj Tryz.underlying3).n N) rfl (by kernel_rfl) (Db (n:=1) ((Gj Tryz.underlying3).n N) rfl (by kernel_rfl) (Db (n:=1) ((Gj Tryz.underlying3).n N) rfl (by kernel_rfl) (by
   rw[show Tryz.prog.cellsOf 29=0+1+1+1+1+1+1+1+1+1 by kernel_rfl];exact Qd _ _))))))))))
  refine h.map fun x d hg=>⟨.mk x.1 x.2.1 x.2.2.1 x.2.2.2.1 x.2.2.2.2.1 x.2.2.2.2.2.1 x.2.2.2.2.2.2.1 x.2.2.2.2.2.2.2.1 x.2.2.2.2.2.2.2.2.1, ?_, ?_⟩
  ·rw[Au8];rfl
  ·obtain⟨ds,rfl,d0,ds0,rfl,g0,d1,ds1,rfl,g1,d2,ds2,rfl,g2,d3,ds3,rfl,g3,d4,ds4,rfl,g4,d5,ds5,rfl,g5,_⟩:=hg;have h4:=Eg6 g4;have h5:=Ek8 g5;have h3:=g3.1;unfold maxLen at h3;exact⟨by rw[Hu,Rows.uptoBulk];simp only[Rows.uptoBulkAll];omega,by rw[okE];exact⟨h3,h4.2,h5.2⟩⟩
theorem Fv:Gi Tryz.prog H w 29 Ex dEx GE:=Aq4 Xp
theorem Cm0:Gi Tryz.prog H w 126 (List Ch) (fun l=> [dCl l]) (SlG GC):=Iw Tryz.underlying126 (Aq4 fun N=>Aq5 (Xp N))
end
end Go.Dl

-- Chapter 4: the reading of forms.
namespace Go.Dl
open Go Go.RowKit Go.Deep Go.Proofs Go.Proofs.YtpkdkhoeaibpaaaGreatDoor
set_option maxRecDepth 100000
section
variable {H:Type} {w:World}
theorem Aq6 {α:Type} {g:α->DataW H->Prop} {p:α->Prop} (hp: ∀x d,g x d->p x): ∀ {xs:List α} {ds:List (DataW H)},Wg g xs ds-> ∀x∈xs,p x
 | [],_,_,x,hx=>by cases hx
 | _::_,[],h,_,_=>h.elim
 | y::xs,d::ds,h,x,hx=>by
  rcases List.mem_cons.1 hx with rfl | hx
  ·exact hp _ _ h.1
  ·exact Aq6 hp h.2 x hx
theorem Db5 {α:Type} {g:α->DataW H->Prop} {p:α->Prop} (hp: ∀x d,g x d->p x) {xs:List α} {d:DataW H} (h:SlG g xs d): ∀x∈xs,p x:=by
 rcases h with⟨rfl,rfl⟩ | ⟨es,sp,rfl,_,h⟩
 ·intro x hx;cases hx
 ·exact Aq6 hp h
theorem GE.fit {e:Ex} {d:DataW H} {n:Nat} (h:GE e d) (hn:Rows.uptoBulk d<=n):Dn n e:=⟨Nat.le_trans h.1 hn,h.2⟩
theorem Ca8 {α:Type} {f:Nat->α->Prop} {l:List α} {d:DataW H} {n:Nat} (hf: ∀(n m:Nat) (x:α),f n x->n<=m->f m x) (h:SlG (fun x d=>f (Rows.uptoBulk d) x) l d) (hn:Rows.uptoBulk d<=n):Ht f n l:=by
 have hl:=Ca7 h;refine⟨by omega,fun x hx=> ?_⟩;rcases h with⟨rfl,rfl⟩ | ⟨es,sp,rfl,_,h⟩
 ·cases hx
 ·have key: ∀ {l:List α} {es:List (DataW H)},Wg (fun x d=>f (Rows.uptoBulk d) x) l es-> ∀x∈l,f (Rows.uptoBulkAll es) x:=by
   intro l
   induction l with
   | nil=>intro es _ x hx;cases hx
   | cons y l ih=>
    intro es hes x hx;cases es with
    | nil=>exact hes.elim
    | cons e es=>
     rcases List.mem_cons.1 hx with rfl | hx
     ·exact hf _ _ _ hes.1 (by rw[Rows.uptoBulkAll];omega)
     ·exact hf _ _ _ (ih hes.2 x hx) (by rw[Rows.uptoBulkAll];omega)
  exact hf _ _ _ (key h x hx) (by rw[Rows.uptoBulk] at hn;omega)
theorem Sh:Gi Tryz.prog H w 23 (List (List UInt8)) (fun l=> [dW l]) (fun l d=>Ys (Rows.uptoBulk d) l):=by
 have h:=Iw (H:=H) (w:=w) Tryz.underlying23 (Ln Tryz.underlying9);refine h.map fun x d hg=>⟨x, ?_, ?_⟩
 ·have e: ∀l:List (List UInt8),l.map DVal.str=l.flatMap fun s=> [DVal.str s]:=fun l=>by induction l<;>simp_all
  simp [dW,e]
 ·have hl:=Ca7 hg;refine⟨by omega,fun s hs=> ?_⟩;exact Db5 (p:=fun s:List UInt8=>s.length<=9223372036854775807) (fun s d h=>by have:=h.1;unfold maxLen at this;exact this) hg s hs
theorem Xq:Gi Tryz.prog H w 45 Ind Fb (fun s d=>Vp (Rows.uptoBulk d) s):=by
 have h:=Fu (H:=H) (w:=w) Tryz.underlying45 (Bn (n:=9) Fv rfl (by kernel_rfl) (Bn (n:=9) Fv rfl (by kernel_rfl) (Bn (n:=9) Fv rfl (by kernel_rfl) (Bn (n:=9) Fv rfl (by kernel_rfl) (by
   rw[show Tryz.prog.cellsOf 45=0+9+9+9+9 by kernel_rfl];exact Ft _)))))
 refine h.map fun x d hg=>⟨⟨x.1,x.2.1,x.2.2.1,x.2.2.2.1⟩,by simp [Fb], ?_⟩;obtain⟨ds,rfl,d0,ds0,rfl,g0,d1,ds1,rfl,g1,d2,ds2,rfl,g2,d3,ds3,rfl,g3,_⟩:=hg;exact⟨g0.fit (by rw[Rows.uptoBulk];simp only[Rows.uptoBulkAll];omega),g1.fit (by rw[Rows.uptoBulk];simp only[Rows.uptoBulkAll];omega),g2.fit (by rw[Rows.uptoBulk];simp only[Rows.uptoBulkAll];omega),g3.fit (by rw[Rows.uptoBulk];simp only[Rows.uptoBulkAll];omega)⟩
theorem Aq7:Gi Tryz.prog H w 47 Dis Gh (fun s d=>Yt (Rows.uptoBulk d) s):=by
 have h:=Fu (H:=H) (w:=w) Tryz.underlying47 (Bn (n:=9) Fv rfl (by kernel_rfl) (Bn (n:=9) Fv rfl (by kernel_rfl) (Bn (n:=9) Fv rfl (by kernel_rfl) (by
   rw[show Tryz.prog.cellsOf 47=0+9+9+9 by kernel_rfl];exact Ft _))))
 refine h.map fun x d hg=>⟨⟨x.1,x.2.1,x.2.2.1⟩,by simp [Gh], ?_⟩;obtain⟨ds,rfl,d0,ds0,rfl,g0,d1,ds1,rfl,g1,d2,ds2,rfl,g2,_⟩:=hg;exact⟨g0.fit (by rw[Rows.uptoBulk];simp only[Rows.uptoBulkAll];omega),g1.fit (by rw[Rows.uptoBulk];simp only[Rows.uptoBulkAll];omega),g2.fit (by rw[Rows.uptoBulk];simp only[Rows.uptoBulkAll];omega)⟩
theorem Cm1:Gi Tryz.prog H w 32 Par Iy (fun s d=>Yu (Rows.uptoBulk d) s):=by
 have h:=Fu (H:=H) (w:=w) Tryz.underlying32 (Bn (n:=1) Sh rfl (by kernel_rfl) (Bn (n:=1) (Gj Tryz.underlying22) rfl (by kernel_rfl) (Bn (n:=9) Fv rfl (by kernel_rfl) (Bn (n:=9) Fv rfl (by kernel_rfl) (Bn (n:=1) (Gj Tryz.underlying3) rfl (by kernel_rfl) (by
   rw[show Tryz.prog.cellsOf 32=0+1+1+9+9+1 by kernel_rfl];exact Ft _))))))
 refine h.map fun x d hg=>⟨⟨x.1,x.2.1,x.2.2.1,x.2.2.2.1,x.2.2.2.2.1⟩,by simp [Iy], ?_⟩;obtain⟨ds,rfl,d0,ds0,rfl,g0,d1,ds1,rfl,g1,d2,ds2,rfl,g2,d3,ds3,rfl,g3,d4,ds4,rfl,g4,_⟩:=hg;exact⟨g0.up (by rw[Rows.uptoBulk];simp only[Rows.uptoBulkAll];omega),g2.fit (by rw[Rows.uptoBulk];simp only[Rows.uptoBulkAll];omega),g3.fit (by rw[Rows.uptoBulk];simp only[Rows.uptoBulkAll];omega)⟩
theorem Cm2:Gi Tryz.prog H w 110 Asp Qt (fun s d=>Yv (Rows.uptoBulk d) s):=by
 have h:=Fu (H:=H) (w:=w) Tryz.underlying110 (Bn (n:=1) (Ln Tryz.underlying9) rfl (by kernel_rfl) (Bn (n:=9) Fv rfl (by kernel_rfl) (by
   rw[show Tryz.prog.cellsOf 110=0+1+9 by kernel_rfl];exact Ft _)))
 refine h.map fun x d hg=>⟨⟨x.1,x.2.1⟩,by simp [Qt], ?_⟩;obtain⟨ds,rfl,d0,ds0,rfl,g0,d1,ds1,rfl,g1,_⟩:=hg;have h0:=g0.1;unfold maxLen at h0;exact⟨h0,g1.fit (by rw[Rows.uptoBulk];simp only[Rows.uptoBulkAll];omega)⟩
theorem Cm3:Gi Tryz.prog H w 123 Cmp Kg (fun s d=>Ng (Rows.uptoBulk d) s):=by
 have h:=Fu (H:=H) (w:=w) Tryz.underlying123 (Bn (n:=1) Sh rfl (by kernel_rfl) (Bn (n:=36) Xq rfl (by kernel_rfl) (Bn (n:=9) Fv rfl (by kernel_rfl) (Bn (n:=1) (Gj Tryz.underlying3) rfl (by kernel_rfl) (by
   rw[show Tryz.prog.cellsOf 123=0+1+36+9+1 by kernel_rfl];exact Ft _)))))
 refine h.map fun x d hg=>⟨⟨x.1,x.2.1,x.2.2.1,x.2.2.2.1⟩,by simp [Kg], ?_⟩;obtain⟨ds,rfl,d0,ds0,rfl,g0,d1,ds1,rfl,g1,d2,ds2,rfl,g2,d3,ds3,rfl,g3,_⟩:=hg;exact⟨g0.up (by rw[Rows.uptoBulk];simp only[Rows.uptoBulkAll];omega),g1.up (by rw[Rows.uptoBulk];simp only[Rows.uptoBulkAll];omega),g2.fit (by rw[Rows.uptoBulk];simp only[Rows.uptoBulkAll];omega)⟩
theorem Bu9:Gi Tryz.prog H w 36 (List Par) (fun l=> [Ry l]) (fun l d=>Ht Yu (Rows.uptoBulk d) l):=
 (Iw Tryz.underlying36 Cm1).map fun x d hg=>⟨x,rfl,Ca8 (fun _ _ _=>Yu.up) hg (Nat.le_refl _)⟩
theorem Bv0:Gi Tryz.prog H w 48 (List Asp) (fun l=> [Qj l]) (fun l d=>Ht Yv (Rows.uptoBulk d) l):=
 (Iw Tryz.underlying48 Cm2).map fun x d hg=>⟨x,rfl,Ca8 (fun _ _ _=>Yv.up) hg (Nat.le_refl _)⟩
theorem Ul:Gi Tryz.prog H w 49 (List Cmp) (fun l=> [Bk l]) (fun l d=>Ht Ng (Rows.uptoBulk d) l):=
 (Iw Tryz.underlying49 Cm3).map fun x d hg=>⟨x,rfl,Ca8 (fun _ _ _=>Ng.up) hg (Nat.le_refl _)⟩
theorem Cm4:Gi Tryz.prog H w 128 Arm Zn (fun s d=>Bg5 (Rows.uptoBulk d) s):=by
 have h:=Fu (H:=H) (w:=w) Tryz.underlying128 (Bn (n:=1) Cm0 rfl (by kernel_rfl) (Bn (n:=1) Ul rfl (by kernel_rfl) (by
   rw[show Tryz.prog.cellsOf 128=0+1+1 by kernel_rfl];exact Ft _)))
 refine h.map fun x d hg=>⟨⟨x.1,x.2.1⟩,by simp [Zn], ?_⟩;obtain⟨ds,rfl,d0,ds0,rfl,g0,d1,ds1,rfl,g1,_⟩:=hg;have h0:=Dy5 g0;exact⟨⟨by rw[Rows.uptoBulk];simp only[Rows.uptoBulkAll];omega,h0.2⟩,g1.up (fun _ _ _=>Ng.up) (by rw[Rows.uptoBulk];simp only[Rows.uptoBulkAll];omega)⟩
theorem Bv1:Gi Tryz.prog H w 51 (List Arm) (fun l=> [Bo l]) (fun l d=>Ht Bg5 (Rows.uptoBulk d) l):=
 (Iw Tryz.underlying51 Cm4).map fun x d hg=>⟨x,rfl,Ca8 (fun _ _ _=>Bg5.up) hg (Nat.le_refl _)⟩
theorem Cm5:Gi Tryz.prog H w 53 Typ Dr (fun s d=>Nh (Rows.uptoBulk d) s):=by
 have h:=Fu (H:=H) (w:=w) Tryz.underlying53 (Bn (n:=1) (Gj Tryz.underlying50) rfl (by kernel_rfl) (Bn (n:=1) Sh rfl (by kernel_rfl) (Bn (n:=9) Fv rfl (by kernel_rfl) (Bn (n:=9) Fv rfl (by kernel_rfl)
   (Bn (n:=36) Xq rfl (by kernel_rfl) (Bn (n:=27) Aq7 rfl (by kernel_rfl) (Bn (n:=1) Ul rfl (by kernel_rfl) (Bn (n:=1) (Ln Tryz.underlying9) rfl (by kernel_rfl)
   (Bn (n:=1) Bv1 rfl (by kernel_rfl) (Bn (n:=1) (Bu7 Tryz.underlying4) rfl (by kernel_rfl) (by
   rw[show Tryz.prog.cellsOf 53=0+1+1+9+9+36+27+1+1+1+1 by kernel_rfl];exact Ft _)))))))))))
 refine h.map fun x d hg=>⟨⟨x.1,x.2.1,x.2.2.1,x.2.2.2.1,x.2.2.2.2.1,x.2.2.2.2.2.1,x.2.2.2.2.2.2.1,x.2.2.2.2.2.2.2.1,x.2.2.2.2.2.2.2.2.1,x.2.2.2.2.2.2.2.2.2.1⟩,by simp [Dr], ?_⟩;obtain⟨ds,rfl,d0,ds0,rfl,g0,d1,ds1,rfl,g1,d2,ds2,rfl,g2,d3,ds3,rfl,g3,d4,ds4,rfl,g4,d5,ds5,rfl,g5,d6,ds6,rfl,g6,d7,ds7,rfl,g7,d8,ds8,rfl,g8,d9,ds9,rfl,g9,_⟩:=hg;have hk:=Dy3 g0.1;have h7:=g7.1;unfold maxLen at h7;have hb:Rows.uptoBulk (DataW.agg (d0::d1::d2::d3::d4::d5::d6::d7::d8::d9::ds9))=1+(Rows.uptoBulk d0+(Rows.uptoBulk d1+(Rows.uptoBulk d2+(Rows.uptoBulk d3+(Rows.uptoBulk d4+(Rows.uptoBulk d5+(Rows.uptoBulk d6+(Rows.uptoBulk d7+(Rows.uptoBulk d8+(Rows.uptoBulk d9+Rows.uptoBulkAll ds9)))))))))):=by
  rw[Rows.uptoBulk];simp only[Rows.uptoBulkAll];omega
 exact⟨g1.up (by omega),g2.fit (by omega),g3.fit (by omega),g4.up (by omega),g5.up (by omega),g6.up (fun _ _ _=>Ng.up) (by omega),⟨h7,hk.1,hk.2⟩,g8.up (fun _ _ _=>Bg5.up) (by omega)⟩
theorem Cm6:Gi Tryz.prog H w 55 Fms Mm (fun s d=>Bx9 (Rows.uptoBulk d) s):=by
 have h:=Fu (H:=H) (w:=w) Tryz.underlying55 (Bn (n:=9) Fv rfl (by kernel_rfl) (Bn (n:=36) Xq rfl (by kernel_rfl) (Bn (n:=27) Aq7 rfl (by kernel_rfl) (Bn (n:=1) Bu9 rfl (by kernel_rfl)
   (Bn (n:=1) Bv0 rfl (by kernel_rfl) (Bn (n:=1) Ul rfl (by kernel_rfl) (Bn (n:=87) Cm5 rfl (by kernel_rfl) (by
   rw[show Tryz.prog.cellsOf 55=0+9+36+27+1+1+1+87 by kernel_rfl];exact Ft _))))))))
 refine h.map fun x d hg=>⟨⟨x.1,x.2.1,x.2.2.1,x.2.2.2.1,x.2.2.2.2.1,x.2.2.2.2.2.1,x.2.2.2.2.2.2.1⟩,by simp [Mm], ?_⟩;obtain⟨ds,rfl,d0,ds0,rfl,g0,d1,ds1,rfl,g1,d2,ds2,rfl,g2,d3,ds3,rfl,g3,d4,ds4,rfl,g4,d5,ds5,rfl,g5,d6,ds6,rfl,g6,_⟩:=hg;have hb:Rows.uptoBulk (DataW.agg (d0::d1::d2::d3::d4::d5::d6::ds6))=1+(Rows.uptoBulk d0+(Rows.uptoBulk d1+(Rows.uptoBulk d2+(Rows.uptoBulk d3+(Rows.uptoBulk d4+(Rows.uptoBulk d5+(Rows.uptoBulk d6+Rows.uptoBulkAll ds6))))))):=by
  rw[Rows.uptoBulk];simp only[Rows.uptoBulkAll];omega
 exact⟨g0.fit (by omega),g1.up (by omega),g2.up (by omega),g3.up (fun _ _ _=>Yu.up) (by omega),g4.up (fun _ _ _=>Yv.up) (by omega),g5.up (fun _ _ _=>Ng.up) (by omega),g6.up (by omega)⟩
end
end Go.Dl

-- THE READING, PART G: the package's variables that a row lists ('laid'), as the data level sees them.
namespace Go.Dl
open Go Go.RowKit
def Tg:DataW Unit->Bool
 | .lit (.bool _)=>true
 | .lit (.int _ _)=>true
 | .lit (.string _)=>true
 | .agg ds=>litsBs ds
 | _=>false
where litsBs:List (DataW Unit)->Bool
 | []=>true
 | d::ds=>Tg d&&litsBs ds
def Eb:DataW Unit->List Value
 | .lit (.bool b)=> [.bool b]
 | .lit (.int k n)=> [.int k n]
 | .lit (.string s)=> [.string ⟨⟨s⟩⟩]
 | .agg ds=>litCellss ds
 | _=> []
where litCellss:List (DataW Unit)->List Value
 | []=> []
 | d::ds=>Eb d++litCellss ds
theorem Aj3 {ds:List (DataW Unit)}:Tg.litsBs ds=true↔ ∀d∈ds,Tg d=true:=by
 induction ds with
 | nil=>simp [Tg.litsBs]
 | cons d ds ih=>simp [Tg.litsBs,ih]
theorem Wi (ds:List (DataW Unit)):Eb.litCellss ds=ds.flatMap Eb:=by
 induction ds with
 | nil=>rfl
 | cons d ds ih=>simp [Eb.litCellss,ih]
theorem Bv2 {α:Type} (cs:List α) (off size:Nat->Nat): ∀(n:Nat),(∀j,j<n->off (j+1)=off j+size j)->off 0=0->off n<=cs.length->(List.range n).flatMap (fun j=>(cs.drop (off j)).take (size j))=cs.take (off n)
 | 0,_,h0,_=>by simp [h0]
 | n+1,h,h0,hn=>by
  have hs:=h n (by omega);rw[List.range_succ,List.flatMap_append,Bv2 cs off size n (fun j hj=>h j (by omega)) h0 (by omega),hs];simp only[List.flatMap_cons,List.flatMap_nil,List.append_nil];rw[List.take_add]
theorem Aj4 {α β:Type} (xs:List α) (g:α->List β) (f:Nat->List β) (n:Nat) (hn:xs.length=n) (h: ∀(j:Nat) (x:α),xs[j]? =some x->f j=g x):(List.range n).flatMap f=xs.flatMap g:=by
 rw[List.flatMap_def,List.flatMap_def];congr 1;apply List.ext_getElem?;intro j;simp only[List.getElem?_map];by_cases hj:j<n
 ·rw[List.getElem?_eq_getElem (by omega:j<xs.length),List.getElem?_range hj];simp only[Option.map_some];rw[h j xs[j] (List.getElem?_eq_getElem (by omega))]
 ·rw[List.getElem?_eq_none (by omega:xs.length<=j),List.getElem?_eq_none (by simp;omega)];rfl
section
variable {P:Program} {w:World}
theorem Xr (hl:laidOutB P=true) {base:Nat} {sp:Nat->Bool}: ∀(Cw:Nat) (t:TypeId) (cs:List Value) (d:DataW Unit) (ps:List MemPlace),isVar P t=true->Tg d=true->
  DataW.trod (fun _=>()) P w base sp false Cw t cs=some (d,ps)->cs=Eb d
 | 0,_,_,_,_,_,_,h=>by simp [DataW.trod] at h
 | Cw+1,t,cs,d,ps,hv,hd,h=>by
  have ih:= @Xr hl base sp Cw;have hlt:t<P.types.size:=by simp only[isVar,Bool.and_eq_true,decide_eq_true_eq] at hv;exact hv.1
  have hrow:=rowFine_of_laidOut hl hlt;simp only[rowFine,hv,Bool.not_true,Bool.false_or] at hrow;unfold DataW.trod at h;split at h<;>(try (simp at h;done))
  ·simp only[Option.some.injEq,Prod.mk.injEq] at h;obtain⟨rfl,rfl⟩:=h;rfl
  ·split at h
   ·rename_i hk
    obtain⟨rfl,_⟩:=hk;simp only[Option.some.injEq,Prod.mk.injEq] at h;obtain⟨rfl,rfl⟩:=h;rfl
   ·cases h
  ·split at h
   ·simp only[Option.some.injEq,Prod.mk.injEq] at h;obtain⟨rfl,rfl⟩:=h;cases hd
   ·cases h
  ·split at h
   ·simp only[Option.some.injEq,Prod.mk.injEq] at h;obtain⟨rfl,rfl⟩:=h;simp [Eb]
   ·cases h
  ·simp only[Option.some.injEq,Prod.mk.injEq] at h;obtain⟨rfl,rfl⟩:=h;cases hd
  ·simp only[Option.map_eq_some_iff,Prod.mk.injEq] at h;obtain⟨_,_,rfl,_⟩:=h;cases hd
  ·simp only[Option.some.injEq,Prod.mk.injEq] at h;obtain⟨rfl,rfl⟩:=h;cases hd
  ·dsimp only at h;split at h
   ·simp only[Option.bind_eq_some_iff,Option.map_eq_some_iff,Prod.mk.injEq] at h;obtain⟨_,_,_,_,rfl,_⟩:=h;cases hd
   ·cases h
  ·rename_i cs _ _ fs hu
   rw[hu] at hrow;simp only[Bool.and_eq_true,beq_iff_eq,List.all_eq_true] at hrow;obtain⟨⟨hf,hsum⟩,hoff⟩:=hrow;split at h
   ·rename_i hcl
    simp only[Option.map_eq_some_iff,Prod.mk.injEq] at h;obtain⟨xs,hx,rfl,rfl⟩:=h;obtain⟨hxl,hxg⟩:=Om hx;simp only[Tg,Aj3] at hd;have key: ∀(j:Nat) (f:Field) (x:DataW Unit×List MemPlace),fs.toList[j]? =some f->xs[j]? =some x->(cs.drop f.offset).take (P.cellsOf f.type)=Eb x.1:=by
     intro j f x hjf hjx;obtain⟨y,hy,hfy⟩:=hxg j f hjf;rw[hjx] at hy;cases hy;exact ih _ _ x.1 x.2 (hf f (List.mem_of_getElem? hjf)) (hd _ (List.mem_map.2 ⟨x,List.mem_of_getElem? hjx,rfl⟩)) hfy
    have hp:=Bv2 cs (fun j=>((fs.toList.take j).map fun f=>P.cellsOf f.type).sum) (fun j=>(fs.toList[j]?).elim 0 fun f=>P.cellsOf f.type) fs.toList.length (fun j hj=>by
     rw[List.take_succ_eq_append_getElem hj];simp [List.getElem?_eq_getElem hj]) (by simp) (by rw[List.take_length,hcl,hsum];omega)
    simp only[List.take_length,<-hsum,<-hcl] at hp;rw[<-hp];simp only[Eb,Wi,List.flatMap_map];refine Aj4 xs _ _ _ hxl fun j x hjx=> ?_;have hjx':j<xs.length:=(List.getElem?_eq_some_iff.1 hjx).1;have hj':j<fs.toList.length:=by omega
    have h1:=hoff j (List.mem_range.2 hj');rw[List.getElem?_eq_getElem hj'] at h1;simp only[beq_iff_eq] at h1;have h2:=key j fs.toList[j] x (List.getElem?_eq_getElem hj') hjx;rw[h1] at h2;simp only[List.getElem?_eq_getElem hj',Option.elim_some];exact h2
   ·cases h
  ·rename_i cs _ _ n e hu
   rw[hu] at hrow;simp only[Bool.and_eq_true,beq_iff_eq] at hrow;obtain⟨hf,hsum⟩:=hrow;split at h
   ·rename_i hcl
    simp only[Option.map_eq_some_iff,Prod.mk.injEq] at h;obtain⟨xs,hx,rfl,rfl⟩:=h;obtain⟨hxl,hxg⟩:=Om hx;rw[List.length_range] at hxl;simp only[Tg,Aj3] at hd;have hp:=Bv2 cs (fun j=>j*P.cellsOf e) (fun _=>P.cellsOf e) n (fun j _=>Nat.succ_mul j _) (by simp) (by rw[hcl,hsum];exact Nat.le_refl _);rw[List.take_of_length_le (by rw[hcl,hsum];exact Nat.le_refl _)] at hp;rw[<-hp];simp only[Eb,Wi,List.flatMap_map];refine Aj4 xs _ _ _ hxl fun j x hjx=> ?_;have hjx':j<xs.length:=(List.getElem?_eq_some_iff.1 hjx).1;obtain⟨y,hy,hfy⟩:=hxg j j (by rw[List.getElem?_range (by omega)]);rw[hjx] at hy;cases hy;exact ih _ _ _ _ hf (hd _ (List.mem_map.2 ⟨x,List.mem_of_getElem? hjx,rfl⟩)) hfy
   ·cases h
  ·simp only[Option.some.injEq,Prod.mk.injEq] at h;obtain⟨rfl,rfl⟩:=h;cases hd
  ·split at h
   ·rename_i e;cases e
   ·simp only[Option.map_eq_some_iff,Prod.mk.injEq] at h;obtain⟨_,_,rfl,_⟩:=h;cases hd
   ·cases h
  ·simp only[Option.some.injEq,Prod.mk.injEq] at h;obtain⟨rfl,rfl⟩:=h;cases hd
  ·split at h
   ·dsimp only at h;split at h
    ·simp only[Option.bind_eq_some_iff] at h;obtain⟨_,_,h⟩:=h;split at h
     ·simp only[Option.some.injEq,Prod.mk.injEq] at h;obtain⟨rfl,rfl⟩:=h;cases hd
     ·cases h
    ·cases h
   ·cases h
  ·simp only[Option.some.injEq,Prod.mk.injEq] at h;obtain⟨rfl,rfl⟩:=h;cases hd
  ·simp only[Option.some.injEq,Prod.mk.injEq] at h;obtain⟨rfl,rfl⟩:=h;cases hd
  ·simp only[Option.some.injEq,Prod.mk.injEq] at h;obtain⟨rfl,rfl⟩:=h;cases hd
theorem Ay7: ∀ {laid:List (String×DataW Unit)} {n:String} {d:DataW Unit},laidMet P laid w->(n,d)∈laid->
  ∃g t cs Cw p,P.globalNamed n=some g/\(P.globals[g]?).map (·.type)=some t/\w.var? P n=some cs/\DataW.trod (fun _=>()) P w 0 (fun _=>true) false Cw t cs.toList=some (d,p)/\
   ∀u v,w.cell? ⟨g,0,none⟩=some (.iface u v)->0<cs.size->Value.okWide P w .any 0 u v
 | [],_,_,_,hm=>by cases hm
 | x::laid,n,d,h,hm=>by
  rcases List.mem_cons.1 hm with rfl | hm
  ·obtain⟨ps,⟨g,t,cs,Cw,p,q,h1,h2,h3,h4,h5,h6⟩,_,h8⟩:=h;refine⟨g,t,cs,Cw,p,h1,h2,h3,h4,fun u v hc hz=>(h8 g 0 ?_).2 u v hc⟩;rw[h6];refine List.mem_append_left _ (List.mem_append_left _ ?_);unfold MemPlace.row;exact List.mem_map.2 ⟨0,List.mem_range.2 hz,by simp⟩
  ·exact Ay7 h.tail hm
def Eg7 (v:Value):Prop:=(∃b,v= .bool b)\/(∃k n,v= .int k n)\/ ∃s:List UInt8,v= .string ⟨⟨s⟩⟩
mutual
theorem Bk4: ∀(d:DataW Unit),Tg d=true-> ∀v∈Eb d,Eg7 v
 | .lit (.bool b),_,v,hv=>by simp [Eb] at hv;exact .inl ⟨b,hv⟩
 | .lit (.int k n),_,v,hv=>by simp [Eb] at hv;exact .inr (.inl ⟨k,n,hv⟩)
 | .lit (.string s),_,v,hv=>by simp [Eb] at hv;exact .inr (.inr ⟨s,hv⟩)
 | .agg ds,h,v,hv=>Aq8 ds (by simpa [Tg] using h) v (by simpa [Eb] using hv)
 | .lit (.float _ _),h,_,_=>by cases h
 | .nil,h,_,_=>by cases h
 | .ptr _,h,_,_=>by cases h
 | .slice _ _,h,_,_=>by cases h
 | .iface _ _,h,_,_=>by cases h
 | .map _,h,_,_=>by cases h
 | .held _,h,_,_=>by cases h
theorem Aq8: ∀(ds:List (DataW Unit)),Tg.litsBs ds=true-> ∀v∈Eb.litCellss ds,Eg7 v
 | [],_,v,hv=>by simp [Eb.litCellss] at hv
 | d::ds,h,v,hv=>by
  simp only[Tg.litsBs,Bool.and_eq_true] at h
  simp only[Eb.litCellss,List.mem_append] at hv
  rcases hv with hv | hv
  ·exact Bk4 d h.1 v hv
  ·exact Aq8 ds h.2 v hv
end
theorem Db6 {Hp:Bb}: ∀(d:DataW Unit),Tg d=true->Br w Hp (Fc (Eb d)) (Eb d):=by
 have all: ∀(vs:List Value),(∀v∈vs,(∃b,v= .bool b)\/(∃k n,v= .int k n)\/ ∃s:List UInt8,v= .string ⟨⟨s⟩⟩)->Br w Hp (Fc vs) vs:=by
  intro vs
  induction vs with
  | nil=>intro _;simp [Fc,Br]
  | cons v vs ih=>
   intro h;simp only[Fc,Br];refine⟨v,vs,rfl, ?_,ih fun x hx=>h x (by simp [hx])⟩;rcases h v (by simp) with⟨b,rfl⟩ | ⟨k,n,rfl⟩ | ⟨s,rfl⟩<;>simp [De,Rel]
 exact fun d h=>all _ (Bk4 d h)
theorem Db7 {laid:List (String×DataW Unit)} {n:String} {d:DataW Unit} {g:Nat} (hl:laidOutB P=true) (h:laidMet P laid w) (hm:(n,d)∈laid) (hd:Tg d=true) (hg:P.globalNamed n=some g)
  (hgt:isVar P (((P.globals[g]?).map (·.type)).getD 0)=true):Rel w (fun _=>none) (.vptr (Fc (Eb d)) 0) (.pointer (some ⟨g,0,none⟩)):=by
 obtain⟨g',t,cs,Cw,p,h1,h2,h3,h4,_⟩:=Ay7 h hm;rw[hg] at h1;cases h1;rw[h2] at hgt;have hc:=Xr hl Cw t cs.toList d p hgt hd h4;simp only[Rel];refine⟨g,0,cs.toList,rfl, ?_,by rw[hc];exact Db6 d hd⟩;refine .inr ⟨rfl,fun i x hx=> ?_⟩;have:=World.var?_cell hg h3 i;rw[Nat.zero_add,this];simpa using hx
end
end Go.Dl

-- That no place of laid variables stands twice, found in one pass.
namespace Go.Dl
open Go Go.RowKit
def On:List MemPlace->Nat->Bool
 | [],_=>true
 | .cell b off::l,m=>decide (off<1024)&&!(m.testBit (b*1024+off))&&On l (m ||| 1<<<(b*1024+off))
 | .map _::_,_=>false
theorem Ca9 {m k n:Nat} (h:(m ||| 1<<<k).testBit n=false):m.testBit n=false/\n≠k:=by
 rw[Nat.testBit_or,Bool.or_eq_false_iff] at h;refine⟨h.1,fun e=> ?_⟩;subst e;have:=h.2;rw[Nat.testBit_shiftLeft] at this;simp at this
theorem Wj: ∀(l:List MemPlace) (m:Nat),On l m=true->l.Nodup/\ ∀p∈l,∃b off,p= .cell b off/\off<1024/\m.testBit (b*1024+off)=false
 | [],_,_=>⟨List.nodup_nil,fun p hp=>by cases hp⟩
 | .map _::_,_,h=>by simp [On] at h
 | .cell b off::l,m,h=>by
  simp only[On,Bool.and_eq_true,decide_eq_true_eq,Bool.not_eq_true'] at h;obtain⟨⟨h1,h2⟩,h3⟩:=h;obtain⟨k1,k2⟩:=Wj l _ h3;refine⟨List.nodup_cons.2 ⟨fun hm=> ?_,k1⟩,fun p hp=> ?_⟩
  ·obtain⟨b',off',e,_,h5⟩:=k2 _ hm;cases e;exact(Ca9 h5).2 rfl
  ·rcases List.mem_cons.1 hp with rfl | hp
   ·exact⟨b,off,rfl,h1,h2⟩
   ·obtain⟨b',off',e,h4,h5⟩:=k2 _ hp;exact⟨b',off',e,h4,(Ca9 h5).1⟩
theorem Ay8 {P:Program} {w:World} {l:List (String×DataW Unit)} (Cw:Nat) (h:(DataW.laidRun P w Cw (l.map (·.1))).map (·.1)=some l)
  (hr:(DataW.laidRun P w Cw (l.map (·.1))).map (fun x=>On x.2 0&&laidRowsB P w x.2)=some true):laidMet P l w:=by
 cases hx:DataW.laidRun P w Cw (l.map (·.1)) with
 | none=>simp [hx] at h
 | some x=>
  obtain⟨l',ps⟩:=x;simp only[hx,Option.map_some,Option.some.injEq] at h hr;subst h;simp only[Bool.and_eq_true] at hr;exact laidMet_of_run Cw hx (decide_eq_true (Wj _ _ hr.1).1) hr.2
end Go.Dl

-- Chapter 3: the reading of the package's variables; a world in which they hold what their text lays.
namespace Go.Dl
open Go Go.RowKit Go.Proofs Go.Proofs.YtpkdkhoeaibpaaaGreatDoor
set_option maxRecDepth 100000
theorem Cb0:laidOutB Tryz.prog=true:=by kernel_rfl
theorem Bv3 {P:Program} {w:World} {laid:List (String×DataW Unit)} {n:String} {d:DataW Unit} {g:Nat} (hl:laidOutB P=true) (h:laidMet P laid w) (hm:(n,d)∈laid) (hd:Tg d=true) (hg:P.globalNamed n=some g)
  (hgt:isVar P (((P.globals[g]?).map (·.type)).getD 0)=true):Jq w.heap[g]? =some (Eb d).length:=by
 obtain⟨g',t,cs,Cw,p,h1,h2,h3,h4,_⟩:=Ay7 h hm;rw[hg] at h1;cases h1;rw[h2] at hgt;have hc:=Xr hl Cw t cs.toList d p hgt hd h4;unfold World.var? at h3;rw[hg] at h3;simp only[Option.bind_some] at h3;split at h3
 ·rename_i c t' fz ho
  cases h3;rw[ho];simp only[Jq,Option.some.injEq];rw[<-hc,Array.length_toList]
 ·cases h3
theorem Th: ∀l:List Value,(Fc l).length=l.length
 | []=>rfl
 | _::l=>by simp [Fc,Th l]
theorem Dk9:Fc (Eb Rows.laid_strings_asciiSpace)=Lib.asciiSpaceTab.map fun z=>DVal.int .u8 z:=by kernel_rfl
section
end
noncomputable def Eg8 (h:Array Obj) (g:Nat) (cs:Array Value):Array Obj:=h.modify g fun
 | .cells _ t frozen=> .cells cs t frozen
 | o=>o
theorem Eg9 {laid:List (String×DataW Unit)} {W:World} (hL:laidMetH Tryz.prog laid W) (hs:W.ShapedOpen Tryz.prog) (hh:(laid.filter fun x=>x.2.handleName?.isSome)= [])
  (m5:("strings.asciiSpace",Rows.laid_strings_asciiSpace)∈laid): ∃G,GX G/\GOk G W (fun _=>none):=by
 have hL':laidMet Tryz.prog laid W:=by
  unfold laidMetH at hL;rw[hh] at hL;exact hL
 have r5:=Db7 Cb0 hL' m5 (by kernel_rfl) (show Tryz.prog.globalNamed "strings.asciiSpace" =some 0 by kernel_rfl) (by kernel_rfl);have x5:=Bv3 Cb0 hL' m5 (by kernel_rfl) (show Tryz.prog.globalNamed "strings.asciiSpace" =some 0 by kernel_rfl) (by kernel_rfl);refine⟨fun g=>if g=0 then .vptr (Fc (Eb Rows.laid_strings_asciiSpace)) 0 else .optr g 0,⟨by simp [Dk9]⟩,⟨fun g=> ?_,fun g cs e=> ?_⟩⟩
 ·show Rel W _ (if g=_ then _ else _) _;split
  ·rename_i e;subst e;exact r5
  ·simp [Rel]
 ·change (if g=_ then _ else _)=_ at e;split at e
  ·rename_i e';subst e';cases e;rw[x5,Th]
  ·cases e
noncomputable def Ay9 (os:Os):World:=
 let N:=(World.settled Tryz.prog os).heap.size
 let w0:=World.holding Tryz.prog os ⟨#[.cells #[.slice (some ⟨N+1,0,none⟩) 7 7, .slice none 0 0, .int .i64 2] 323,
  .cells (#[9,13,1,32,133,101,160,5760,5600,8192,8202,1,8232,8233,1,8239,8287,48,12288,12288,1].map (Value.int .u16)) 326], #[],[]⟩
 let h9:=Eg8 w0.heap 0 (Eb Rows.laid_strings_asciiSpace).toArray
 let ha:=Eg8 h9 1 #[.pointer (some ⟨N,0,none⟩)]
 { w0 with heap:=ha }
def Ti:Array Value:= #[.int .u8 0, .int .u8 0, .int .i64 0, .string ⟨#[]⟩, .slice none 0 0, .slice none 0 0, .int .i64 0, .int .i64 0, .int .i64 0]
def Dy6 {H:Type}:List (DataW H):= [.lit (.int .u8 0), .lit (.int .u8 0), .lit (.int .i64 0), .lit (.string []), .nil, .nil, .lit (.int .i64 0), .lit (.int .i64 0), .lit (.int .i64 0)]
section
end
end Go.Dl

-- Chapter 4: zero forms.
namespace Go.Dl
open Go Go.RowKit
def Eh0:Array Value:=Ti++Ti++Ti++Ti
def Eh1:Array Value:=Ti++Ti++Ti
def Ek9:Array Value:= #[.int .u8 0, .slice none 0 0]++Ti++Ti++Eh0++Eh1++ #[.slice none 0 0, .string ⟨#[]⟩, .slice none 0 0, .bool false]
def Dl0:Array Value:=Ti++Eh0++Eh1++ #[.slice none 0 0, .slice none 0 0, .slice none 0 0]++Ek9
def Al8 {H:Type}:DataW H:= .agg Dy6
def Dp1 {H:Type}:DataW H:= .agg [Al8,Al8,Al8,Al8]
def Dp2 {H:Type}:DataW H:= .agg [Al8,Al8,Al8]
def Eh2 {H:Type}:DataW H:= .agg [.lit (.int .u8 0), .nil,Al8,Al8,Dp1,Dp2, .nil, .lit (.string []), .nil, .lit (.bool false)]
def Eh3 {H:Type}:List (DataW H):= [Al8,Dp1,Dp2, .nil, .nil, .nil,Eh2]
end Go.Dl
