/- The data level and the contracts of the functions that are reached (part 5). -/
import Derived.Test.YtpkdkhoeaibpaaaGreatDoorProg
import Derived.Lib.Space
import Derived.Shelf.Lays
import Derived.Shelf.Strings.Fields
import Derived.KernelRfl
import Derived.Lib.ItoaMem
import Derived.Lib.ConvBytes
import Derived.Lib.LaidTab
import Derived.Lib.ItoaLen
import Derived.Lib.ParseIntBTie
import Derived.Lib.IndexMore
import Derived.Lib.IndexAny
import Derived.Lib.TrimByte
import Derived.Lib.Strings
import Derived.Lib.Repeat
import Derived.Lib.CountLaws
import Derived.Lib.ParseIntB
import Derived.Lib.Fields
import Derived.Laws.RangeString
import Derived.Laws.RangeAny
import Derived.ChangeSame
import Derived.Deep.Slices
import Derived.RowKit3
import Derived.DeepKeys4
import Derived.LaidLaws
import Derived.Stop.LaidErr
import Derived.Shelf.Vars
import Derived.Test.YtpkdkhoeaibpaaaGreatDoorPmd
set_option linter.unusedSimpArgs false
set_option linter.unusedVariables false
set_option linter.unusedSectionVars false
-- AN INTERPRETER OF THE DATA LEVEL, PART 8: calls, all code; a closed call.
namespace Go.Dl
open Go
theorem Yg {c:Code} {l:Late} (h:Qe c=some l): ∃id y1 y2 p1 p2 af1 af2,c= .seq l.A1 (.seq l.A2 (.seq (.region id #[Xd l.d l.g l.caps.toArray y1 p1 af1,Ao1 l.d y2 p2 af2] false) l.C)):=by
 unfold Qe at h;split at h
 ·split at h<;>cases h
  rename_i hd
  subst hd;exact⟨_,_,_,_,_,_,_,rfl⟩
 ·cases h
theorem Ad7 {c cc:Code} {t1 t2:Nat} (h:Sh c=some (t1,t2,cc)): ∃id y3 y4 p3 p4 af3 af4,c= .seq (.region id #[Io t1 y3 p3 af3,Li t1 t2 y4 p4 af4] false) cc:=by
 unfold Sh at h;split at h
 ·split at h<;>cases h
  rename_i hd
  subst hd;exact⟨_,_,_,_,_,_,_,rfl⟩
 ·cases h
section
variable {X:XP} {G:Nat->DVal}
variable {B:Aa} {ρ:Nat->Option Nat} {E:Tr DVal} {A:XH} {s:DS} {Q:DExit->DS->Prop}
theorem Ah4 {R:Type} {z:R} (hX:XOk X G) (hS:RS B ρ E A s): ∀(os:List Operand) (κ:List DVal->R),Lk X.gt z E os κ=z\/ ∃vs,RVL ρ vs (Az G s.env os)/\Lk X.gt z E os κ=κ vs
 | [],κ=> .inr ⟨[],rfl,rfl⟩
 | o::os,κ=>by
  have e0:Lk X.gt z E (o::os) κ=evK X.gt z E o fun v=>Lk X.gt z E os fun vs=>κ (v::vs):=rfl;rw[e0];rcases Ac5 hX.gt hS o (fun v=>Lk X.gt z E os fun vs=>κ (v::vs)) with e | ⟨v,h1,e⟩
  ·exact .inl e
  ·rw[e];rcases Ah4 hX hS os (fun vs=>κ (v::vs)) with e | ⟨vs,h2,e⟩
   ·exact .inl e
   ·exact .inr ⟨v::vs, .cons h1 h2,e⟩
def Snd (X:XP) (G:Nat->DVal) (ih:FuncId->Code->Tr DVal->XH->Out):Prop:=
 ∀(f:FuncId) (c:Code) (N:Nat) (B:Aa) (ρ:Nat->Option Nat) (E:Tr DVal) (A:XH) (s:DS) (Q:DExit->DS->Prop),Bg X.plans f N c=true->RS B ρ E A s->Ad B ρ Q (ih f c E A)->dwp X.P G N c Q s
variable {ih:FuncId->Code->Tr DVal->XH->Out}
theorem Vk {args args':List DVal} {H:Aa} {κ:Tr DVal->COut} {R:DEnd->Aa->Prop} (ha:RVL ρ args args') (hH:RH B ρ A H) (h:Cr B ρ R (Lr args 0 .leaf κ)): ∃E,RS B ρ E A ⟨Cy args' 0,H⟩/\Cr B ρ R (κ E):=by
 rcases Yf 0 .leaf κ ha (fun i _=>rfl) with e | ⟨E',g1,_,g3⟩
 ·rw[e] at h;exact h.elim
 ·rw[g3] at h;exact⟨E',⟨fun i v hi=>g1 i v (Nat.zero_le _) hi,hH⟩,h⟩
theorem Ad8 {d:Nat} {v v':DVal} {κ:Tr DVal->COut} {R:DEnd->Aa->Prop} (hS:RS B ρ E A s) (hv:RV ρ v v') (h:Cr B ρ R (Tr.setK .bad v 10 E d κ)): ∃E',RS B ρ E' A ⟨upd s.env d v',s.heap⟩/\Cr B ρ R (κ E'):=by
 rcases Dv (z:=COut.bad) (x:=v) 10 E d κ with e | ⟨t',h1,e⟩
 ·rw[e] at h;exact h.elim
 ·rw[e] at h;exact⟨t',hS.put h1 hv,h⟩
theorem Kk (hih:Snd X G ih) {rs:List ResultVar} {g:FuncId} {fg:Func} {c cc:Code} {t1 t2:Nat} {caps caps':List DVal} {x x':DVal} {R:DEnd->Aa->Prop}
  (hg:X.P.funcs[g]? =some fg) (hb:fg.body=some c) (hr:Sh c=some (t1,t2,cc)) (hp:Bg X.plans g fg.ntmps cc=true)
  (hS:RS B ρ E A s) (hc:RVL ρ caps caps') (hx:RV ρ x x') (h:Cr B ρ R (Iv X ih rs g caps x E A)):
  dwp X.P G fg.ntmps cc (Mp fun H'=>Nh R H' (Br (Cl X.P ⟨s.env,H'⟩ rs))) ⟨upd (upd (Cy caps' 0) t1 x') t2 x',s.heap⟩:=by
 unfold Iv at h;simp only[hg,hb,hr] at h;obtain⟨F,h1,h⟩:=Vk hc hS.heap h;obtain⟨F1,h2,h⟩:=Ad8 h1 hx h;obtain⟨F2,h3,h⟩:=Ad8 h2 hx h;refine hih g cc fg.ntmps B ρ F2 A _ _ hp h3 ?_;cases ho:ih g cc F2 A<;>rw[ho] at h<;>try (exact h.elim)
 ·exact fun ρ' s' hl hS'=>Oj (s:=⟨s.env,s'.heap⟩) ⟨fun i v hi=>(hS.env i v hi).mono hl,hS'.heap⟩ (Cr.le hl h)
 ·exact fun ρ' s' hl hS'=>Oj (s:=⟨s.env,s'.heap⟩) ⟨fun i v hi=>(hS.env i v hi).mono hl,hS'.heap⟩ (Cr.le hl h)
theorem Ax2 (hX:XOk X G) (hih:Snd X G ih) {k:FuncId} {args args':List DVal} {H:Aa} {R:DEnd->Aa->Prop} (hk:Ah1 X.P X.plans k args.length=true) (ha:RVL ρ args args') (hH:RH B ρ A H) (h:Cr B ρ R (Ad4 X ih k args A)):Bj X.P G k args' H R:=by
 unfold Ad4 at h;unfold Ah1 at hk;cases hf:X.P.funcs[k]? with
 | none=>rw[hf] at h;exact h.elim
 | some fn=>
  rw[hf] at h hk;simp only at h hk;simp only[Bool.and_eq_true,Bool.not_eq_true'] at hk;obtain⟨hname,hk⟩:=hk;cases hb:fn.body with
  | none=>rw[hb] at h;exact h.elim
  | some c=>
   rw[hb] at h hk;simp only at h hk;cases hl:Qe c with
   | none=>
    rw[hl] at h hk;simp only[Bool.and_eq_true] at h hk;obtain⟨E,h1,h⟩:=Vk ha hH h;exact Ua hf (fun vs w=>Mz hf hname hb vs w) hb (by rw[ha.length];exact hk.1) (hih k c fn.ntmps B ρ E A _ _ hk.2 h1 (Be7 h))
   | some l=>
    rw[hl] at h hk;simp only at h hk;unfold Ah0 at hk;cases hg:X.P.funcs[l.g]? with
    | none=>rw[hg] at hk;cases hk
    | some fg=>
     rw[hg] at hk;simp only at hk;cases hbg:fg.body with
     | none=>rw[hbg] at hk;cases hk
     | some c2=>
      rw[hbg] at hk;simp only at hk;cases hr:Sh c2 with
      | none=>rw[hr] at hk;cases hk
      | some q=>
       obtain⟨t1,t2,cc⟩:=q;rw[hr] at hk;simp only[Bool.and_eq_true,Bool.not_eq_true'] at hk;obtain⟨⟨⟨⟨⟨g1,g2⟩,g3⟩,g4⟩,⟨⟨g5,g6⟩,g7⟩⟩,g8⟩:=hk;obtain⟨id,y1,y2,p1,p2,af1,af2,rfl⟩:=Yg hl;obtain⟨id2,y3,y4,p3,p4,af3,af4,rfl⟩:=Ad7 hr;have hres:fg.results= #[]:=by
        have:fg.results.toList= []:=List.isEmpty_iff.1 g2;exact Array.ext' (by rw[this])
       have hA:l.caps.toArray.toList=l.caps:=by simp
       refine Xe hf hg (fun vs w=>Mz hf hname hb vs w) (fun vs w=>Mz hg g1 hbg vs w) hb hbg ?_ ?_ hres ?_
       ·rw[hA,ha.length];simp only[Bool.and_eq_true];exact g8
       ·rw[hA];simp only[Bool.and_eq_true];exact g4
       ·rw[hA];unfold Bg5 at h;obtain⟨E0,h1,h⟩:=Vk ha hH h;refine hih k l.A1 fn.ntmps B ρ E0 A _ _ g5 h1 ?_;cases ho:ih k l.A1 E0 A<;>rw[ho] at h<;>simp only at h<;>try (exact h.elim)
        rename_i E1 A1
        intro ρ1 s1 hl1 hS1;have h:=Cr.le hl1 h;refine hih k l.A2 fn.ntmps B ρ1 E1 A1 _ _ g6 hS1 ?_;cases ho2:ih k l.A2 E1 A1<;>rw[ho2] at h<;>simp only at h<;>try (exact h.elim)
        rename_i E2 A2
        intro ρ2 s2 hl2 hS2;have h:=Cr.le hl2 h;rcases Ah4 (z:=COut.bad) hX hS2 l.caps (fun caps=>Tr.setK .bad (.func (.func l.g) [] caps) 10 E2 l.d fun E3=>Qo X ih fn.results.toList l.g caps (ih k l.C E3 A2)) with e | ⟨caps,hcaps,e⟩
        ·rw[e] at h;exact h.elim
        rw[e] at h;obtain⟨E3,hS3,h⟩:=Ad8 hS2 (.func (.func l.g) .nil hcaps) h;refine hih k l.C fn.ntmps B ρ2 E3 A2 _ _ g7 hS3 ?_;cases ho3:ih k l.C E3 A2<;>rw[ho3] at h<;>simp only[Qo] at h<;>try (exact h.elim)
        ·exact fun ρ3 s3 hl3 hS4=>Kk hih hg hbg hr g3 hS4 (hcaps.mono hl3) (by simp only[RV]) (Cr.le hl3 h)
        ·exact fun ρ3 s3 hl3 hS4=>Kk hih hg hbg hr g3 hS4 (hcaps.mono hl3) (by simp only[RV]) (Cr.le hl3 h)
        ·exact fun ρ3 s3 v3 hl3 hS4 hv=>Kk hih hg hbg hr g3 hS4 (hcaps.mono hl3) hv (Cr.le hl3 h)
theorem Yh (hX:XOk X G) (hih:Snd X G ih):Mw X.P G (Yc X ih):=by
 intro B ρ k args args' A H R ha hH h;unfold Yc at h;split at h
 ·rename_i v heq
  obtain⟨x,hx,rfl,hb,rfl⟩:=Np heq;have:=Dm hb;subst this;have hp:=List.all_eq_true.1 hX.plain x hx;simp only[Bool.and_eq_true] at hp;have:args'=x.2.1:=ha.fn (Ca hp.1);subst this;refine(hX.memo x hx H).mono ?_;rintro _ _ ⟨rfl,rfl⟩;exact h ρ _ _ (Ble.refl _) hH (Gp hp.2)
 ·cases hg:Vf X.good k args.length with
  | false=>rw[hg] at h;exact h.elim
  | true=>
   rw[hg] at h;exact Ax2 hX hih (List.all_eq_true.1 hX.good _ (Nq hg)) ha hH h
theorem Ah5 (hX:XOk X G): ∀n,Snd X G (Rn X n)
 | 0=>fun f c N B ρ E A s Q _ _ h=>h.elim
 | n+1=>by
  have hih:=Ah5 hX n;have hcall:=Yh hX hih;intro f c N B ρ E A s Q hp hS h;have h:Ad B ρ Q (Aw6 X (Rn X n) f c E A):=h;cases c with
  | skip=>exact h ρ s (Ble.refl _) hS
  | label l=>exact h ρ s (Ble.refl _) hS
  | region id ops draw=>
   cases draw with
   | false=>exact Ah2 hX hcall _ _ E A s ρ hS h
   | true=>
    simp only[Aw6] at h;simp only[Bg] at hp;cases hpl:Ad2 X.plans f id with
    | none=>rw[hpl] at h;exact h.elim
    | some p=>
     rw[hpl] at h hp;have hp:(ops.toList.all (Cb N)&&Pq ops.toList [] p&&Bu ops.toList p [])=true:=hp;exact Bc7 (N:=⟨N,⟨0,[],false⟩⟩) hX.mixed p hp (Iw hX hcall _ p E A s ρ hS h)
  | seq a b=>
   simp only[Bg,Bool.and_eq_true] at hp;exact hih f a N B ρ E A s _ hp.1 hS (Vg h fun ρ' E' A' s' _ hS' h'=>hih f b N B ρ' E' A' s' Q hp.2 hS' h')
  | cond c a b=>
   simp only[Bg,Bool.and_eq_true] at hp;obtain⟨v,h1,h⟩:=Aq hX.gt hS h;simp only[dwp];unfold Bg4 at h;split at h
   ·simp only[RV] at h1;rw[h1];exact hih f a N B ρ E A s Q hp.1 hS h
   ·simp only[RV] at h1;rw[h1];exact hih f b N B ρ E A s Q hp.2 hS h
   ·exact h.elim
  | block id c=>
   simp only[Bg] at hp;refine hih f c N B ρ E A s _ hp hS ?_;have h:Ad B ρ Q (Uw id (Rn X n f c E A)):=h;cases ho:Rn X n f c E A<;>rw[ho] at h<;>try (exact h)
   rename_i id' E' A'
   intro ρ' s' hl hS';show Nz Q s' id' (decide (id'=id));by_cases hid:id'=id
   ·have hb:Nat.beq id' id=true:=by rw[hid];exact Nat.beq_refl _
    simp only[Uw,hb] at h;rw[decide_eq_true hid];exact h ρ' s' hl hS'
   ·have hb:Nat.beq id' id=false:=by
     cases hb:Nat.beq id' id with
     | false=>rfl
     | true=>exact(hid (Nat.eq_of_beq_eq_true hb)).elim
    simp only[Uw,hb] at h;rw[decide_eq_false hid];exact h ρ' s' hl hS'
  | loop c=>
   simp only[Bg] at hp;have h:Ad B ρ Q (Bg3 (Qd (fun E H=>Rn X n f c E H) 20 E A)):=h;cases ho:Qd (fun E H=>Rn X n f c E H) 20 E A with
   | more E' A'=>rw[ho] at h;exact h.elim
   | stop o=>
    rw[ho] at h;obtain⟨m,hm⟩:=(Qr 20).2 _ _ _ ho;refine⟨Nat,fun i s=> ∃ρ' E A,RS B ρ' E A s/\Ad B ρ' Q (Qq (fun E H=>Rn X n f c E H) i E A),id,⟨m,s,Md.refl s,ρ,E,A,hS,by rw[hm];exact h⟩, ?_⟩;rintro i s1 ⟨ρ1,E1,A1,hS1,h1⟩;cases i with
    | zero=>exact h1.elim
    | succ i=>
     exact hih f c N B ρ1 E1 A1 s1 _ hp hS1 (Vg h1 fun ρ' E' A' s' _ hS' h'=>⟨i,s',Md.refl s',⟨ρ',E',A',hS',h'⟩,Nat.lt_succ_self i⟩)
  | exit id=>exact h ρ s (Ble.refl _) hS
  | ret=>exact h ρ s (Ble.refl _) hS
  | scope c=>
   simp only[Bg] at hp;refine hih f c N B ρ E A s _ hp hS ?_;have h:Ad B ρ Q (Rn X n f c E A):=h;cases ho:Rn X n f c E A<;>rw[ho] at h<;>exact h
  | rangeFunc=>exact h.elim
  | goto=>exact h.elim
  | refuse=>exact h.elim
def Lx (f:DVal->Option DVal):List DVal->Option (List DVal)
 | []=>some []
 | v::vs=>match f v,Lx f vs with
  | some d,some ds=>some (d::ds)
  | _,_=>none
noncomputable def frz:Nat->XH->DVal->Option DVal
 | 0,_,_=>none
 | n+1,A,v=>match v with
  | .oslice sz k off len _=>match Av A k with
   | some (.cells cs _)=>if off+len*sz<=cs.length then(Lx (frz n A) ((cs.drop off).take (len*sz))).map (fun cs=> .vslice cs len) else none
   | _=>none
  | .optr k off=>match Av A k with
   | some (.cells cs _)=>(Lx (frz n A) cs).map (fun cs=> .vptr cs off)
   | _=>none
  | .omap _=>none
  | .vptr cs off=>(Lx (frz n A) cs).map (fun cs=> .vptr cs off)
  | .vslice cs len=>(Lx (frz n A) cs).map (fun cs=> .vslice cs len)
  | .agg cs=>(Lx (frz n A) cs).map .agg
  | .tuple cs=>(Lx (frz n A) cs).map .tuple
  | .iface t v=>(frz n A v).map (.iface t)
  | .func f a c=>match Lx (frz n A) a,Lx (frz n A) c with
   | some a,some c=>some (.func f a c)
   | _,_=>none
  | v=>some v
theorem Es {w:World} {H H':Aa} {f:DVal->Option DVal} (hf: ∀v d u x,f v=some d->RV ρ v u->Rel w H u x->Rel w H' d x): ∀ {vs ds us:List DVal} {xs:List Value},Lx f vs=some ds->RVL ρ vs us->Ab w H us xs->Ab w H' ds xs
 | [],ds,us,xs,h,hr,hx=>by
  simp only[RVL] at hr;subst hr;simp only[Lx] at h;cases h;simpa only[Ab] using hx
 | v::vs,ds,us,xs,h,hr,hx=>by
  obtain⟨u,us',rfl,h1,h2⟩:=hr.inv;simp only[Lx] at h;split at h<;>cases h
  rename_i d ds' hd hds
  simp only[Ab] at hx⊢
  obtain⟨y,ys,rfl,h3,h4⟩:=hx;exact⟨y,ys,rfl,hf v d u y hd h1 h3,Es hf hds h2 h4⟩
theorem Bl2 {w:World} {H:Aa} (hw:Ae w H) (hA:RH B ρ A H): ∀(n:Nat) (v d u:DVal) (x:Value),frz n A v=some d->RV ρ v u->Rel w H u x->Rel w B d x:=by
 have hlast:Lasts H w B w:=My hA.base w;intro n
 induction n with
 | zero=>intro v d u x h;cases h
 | succ n ih=>
  intro v d u x h hr hx;simp only[frz] at h;split at h
  ·rename_i sz k off len lo
   simp only[RV] at hr;obtain⟨r,rfl,hk⟩:=hr;split at h
   ·rename_i cs e heq
    split at h<;>try (cases h;done)
    rename_i hle
    obtain⟨ds,hds,rfl⟩:=Option.map_eq_some_iff.1 h;obtain⟨r',o',h1,h2,cs',rfl,h3⟩:=hA.obj _ _ heq;rw[hk] at h1;cases h1;simp only[Rel] at hx⊢
    obtain⟨o,cap,rfl,hlo,hlc,ho,_⟩:=hx;refine⟨_,cap,rfl,hlc, ?_⟩;obtain⟨xs,hxs,hholds⟩:=hw.holds h2;rcases ho with hc | ho
    ·have:len=0:=by omega
     subst this;simp only[Nat.zero_mul,List.take_zero,Lx] at hds;cases hds;exact .inl rfl
    ·subst ho;refine .inr ⟨r,o,(xs.drop o).take (len*sz),rfl, ?_,Es ih hds ((h3.drop _).take _) ((hxs.drop _).take _)⟩;refine .inr ⟨hA.low _ _ hk,fun i y hy=> ?_⟩;have:=(hholds.drop (n:=o)).take (n:=len*sz) i y hy;simpa using this
   ·cases h
  ·rename_i k off
   simp only[RV] at hr;obtain⟨r,rfl,hk⟩:=hr;split at h
   ·rename_i cs e heq
    obtain⟨ds,hds,rfl⟩:=Option.map_eq_some_iff.1 h;obtain⟨r',o',h1,h2,cs',rfl,h3⟩:=hA.obj _ _ heq;rw[hk] at h1;cases h1;simp only[Rel] at hx⊢
    subst hx;obtain⟨xs,hxs,hholds⟩:=hw.holds h2;refine⟨r,0,xs,by simp, .inr ⟨hA.low _ _ hk,fun i y hy=> ?_⟩,Es ih hds h3 hxs⟩;exact hholds i y hy
   ·cases h
  ·cases h
  ·obtain⟨ds,hds,rfl⟩:=Option.map_eq_some_iff.1 h;simp only[RV] at hr;obtain⟨cs',rfl,hl⟩:=hr;simp only[Rel] at hx⊢
   obtain⟨b,o,xs,rfl,hc,hxs⟩:=hx;exact⟨b,o,xs,rfl,hc.lasts hlast,Es ih hds hl hxs⟩
  ·rename_i cs len
   obtain⟨ds,hds,rfl⟩:=Option.map_eq_some_iff.1 h;simp only[RV] at hr;obtain⟨cs',rfl,hl⟩:=hr;simp only[Rel] at hx⊢
   obtain⟨a,cap,rfl,hle,hc⟩:=hx;refine⟨a,cap,rfl,hle, ?_⟩;rcases hc with hc | ⟨b,o,xs,rfl,hc,hxs⟩
   ·subst hc;have hlen:=hl.length;left;cases cs with
    | nil=>simp only[Lx] at hds;cases hds;rfl
    | cons _ _=>simp at hlen
   ·exact .inr ⟨b,o,xs,rfl,hc.lasts hlast,Es ih hds hl hxs⟩
  ·obtain⟨ds,hds,rfl⟩:=Option.map_eq_some_iff.1 h;simp only[RV] at hr;obtain⟨cs',rfl,hl⟩:=hr;simp only[Rel] at hx⊢
   obtain⟨xs,rfl,hxs⟩:=hx;exact⟨xs,rfl,Es ih hds hl hxs⟩
  ·obtain⟨ds,hds,rfl⟩:=Option.map_eq_some_iff.1 h;simp only[RV] at hr;obtain⟨cs',rfl,hl⟩:=hr;simp only[Rel] at hx⊢
   obtain⟨xs,rfl,hxs⟩:=hx;exact⟨xs,rfl,Es ih hds hl hxs⟩
  ·obtain⟨d',hd,rfl⟩:=Option.map_eq_some_iff.1 h;simp only[RV] at hr;obtain⟨v',rfl,hv⟩:=hr;simp only[Rel] at hx⊢
   obtain⟨y,rfl,hy⟩:=hx;exact⟨y,rfl,ih _ _ _ _ hd hv hy⟩
  ·split at h<;>cases h
   rename_i a c ha hc
   simp only[RV] at hr;obtain⟨a',c',rfl,h1,h2⟩:=hr;simp only[Rel] at hx⊢
   obtain⟨xs,ys,rfl,h3,h4⟩:=hx;exact⟨xs,ys,rfl,Es ih ha h1 h3,Es ih hc h2 h4⟩
  ·cases h
   rename_i a1 a2 a3 a4 a5 a6 a7 a8 a9
   cases v<;>simp only[RV] at hr;all_goals first
    | (subst hr;exact Rel.lasts hlast _ _ hx)
    | exact(a1 _ _ _ _ _ rfl).elim
    | exact(a2 _ _ rfl).elim
    | exact(a3 _ rfl).elim
    | exact(a4 _ _ rfl).elim
    | exact(a5 _ _ rfl).elim
    | exact(a6 _ rfl).elim
    | exact(a7 _ rfl).elim
    | exact(a8 _ _ rfl).elim
    | exact(a9 _ _ _ rfl).elim
noncomputable def Ax3 (X:XP) (n:Nat) (k:FuncId) (args:List DVal):COut:=Yc X (Rn X n) k args ⟨.leaf,0⟩
theorem Ax4 (hX:XOk X G) {n m:Nat} {k:FuncId} {args:List DVal} {v d:DVal} (hp:Cc args=true) (h:Ax3 X n k args= .cret v A) (hf:frz m A v=some d) (H:Aa):Bj X.P G k args H (Mx d H):=by
 have hH:RH H (fun _=>none) ⟨.leaf,0⟩ H:=by
  refine⟨fun k o hk=> ?_,fun k k' r o o' hk=> ?_,fun _ _=>rfl,fun _ _ h=>h,fun k r h=>by cases h⟩
  ·unfold Av at hk;rw[Xl] at hk;cases hk
  ·unfold Av at hk;rw[Xl] at hk;cases hk
 have key:Bj X.P G k args H (fun e H'=> ∃ρ v',e= .ret v'/\RV ρ v v'/\RH H ρ A H'):=by
  refine Yh hX (Ah5 hX n) H _ k args args ⟨.leaf,0⟩ H _ (Ca hp) hH ?_;show Cr H _ _ (Ax3 X n k args);rw[h];exact fun ρ' H' v' _ hH' hv=>⟨ρ',v',rfl,hv,hH'⟩
 refine key.ghost ?_;rintro e H' ⟨ρ,v',rfl,hv,hH'⟩;refine⟨v',d,H,rfl,fun w hw=> ?_,rfl,rfl⟩;have hg:=Aw5.sub hH'.base v' w hw;exact⟨hg.1,hg.2.1,fun x hx=>Bl2 hw hH' m v d v' x hf hv hx⟩
noncomputable def Ax5 (X:XP) (n:Nat) (k:FuncId) (args:List DVal) (d:DVal):Bool:=
 match Ax3 X n k args with
 | .cret v A=>match frz 40 A v with
  | some d'=>Ac1 d' d
  | none=>false
 | _=>false
theorem Ax6 (hX:XOk X G) {n:Nat} {k:FuncId} {args:List DVal} {d:DVal} (hp:Cc args=true) (h:Ax5 X n k args d=true) (H:Aa):Bj X.P G k args H (Mx d H):=by
 unfold Ax5 at h;split at h
 ·rename_i v A hv
  split at h
  ·rename_i d' hd
   obtain rfl:=Oh h;exact Ax4 hX hp hv hd H
  ·cases h
 ·cases h
def XP.more (X:XP) (l:List (FuncId×List DVal×DVal)):XP:= { X with memo:=l++X.memo }
noncomputable def Ak (X:XP) (n:Nat) (l:List (FuncId×List DVal×DVal)):Bool:=l.all fun x=>Cc x.2.1&&By x.2.2&&Ax5 X n x.1 x.2.1 x.2.2
theorem XOk.more (hX:XOk X G) {n:Nat} {l:List (FuncId×List DVal×DVal)} (h:Ak X n l=true):XOk (X.more l) G:=by
 unfold Ak at h;rw[List.all_eq_true] at h;refine⟨hX.mixed,hX.gt,hX.good, ?_, ?_⟩
 ·show(l++X.memo).all _=true;rw[List.all_append,hX.plain,Bool.and_true,List.all_eq_true];intro x hx;have:=h x hx;rw[Bool.and_eq_true] at this;exact this.1
 ·intro x hx H;have hx:x∈l++X.memo:=hx;rcases List.mem_append.1 hx with hx | hx
  ·have:=h x hx;simp only[Bool.and_eq_true] at this;exact Ax6 hX this.1.1 this.2 H
  ·exact hX.memo x hx H
theorem XOk.at (hX:XOk X G) {k:FuncId} {args:List DVal} {d:DVal} (h:(k,args,d)∈X.memo) (H:Aa):Bj X.P G k args H (Mx d H):=hX.memo _ h H
end
end Go.Dl

-- What the interpreter knows of this seat. MADE BY PROGRAM (gen_x.py).
namespace Go.Dl
open Go Go.Proofs
set_option maxRecDepth 100000
def Ax7:List (FuncId×Nat×Plan):= [
(4,1,(.take 0 (.take 1 (.take 3 (.take 4 (.go 2 [4] (.go 5 [] (.take 6 (.take 7 (.take 8 (.take 9 (.take 11 (.take 12 (.go 10 [12] (.go 13 [] (.take 14 (.take 15 (.take 16 (.take 17 (.take 18 (.take 20 (.take 21 (.go 19 [21] (.go 22 [] (.take 23 (.take 24 (.take 25 (.take 26 (.take 27 (.take 29 (.take 30 (.go 28 [30] (.go 31 [] (.take 32 (.take 33 (.take 34 .done)))))))))))))))))))))))))))))))))))),
(4,2,(.take 0 (.take 1 (.take 2 (.take 3 (.take 5 (.take 6 (.go 4 [6] (.go 7 [] (.take 8 (.take 9 (.take 10 (.take 11 (.take 12 (.take 14 (.take 15 (.go 13 [15] (.go 16 [] (.take 17 (.take 18 (.take 19 (.take 20 (.take 21 (.take 23 (.take 24 (.go 22 [24] (.go 25 [] (.take 26 (.take 27 (.take 28 (.go 29 [] (.take 30 (.take 31 .done))))))))))))))))))))))))))))))))),
(5,1,(.take 0 (.take 1 (.take 2 (.take 3 (.take 5 (.take 6 (.take 7 (.take 8 (.go 4 [8,6] (.go 9 [] (.take 10 (.take 11 (.take 12 (.take 13 (.take 14 (.take 15 (.take 17 (.take 18 (.take 19 (.take 20 (.go 16 [20,18] (.go 21 [] (.take 22 (.take 23 (.take 24 (.take 25 (.take 26 (.take 27 (.take 28 (.take 30 (.take 31 (.take 32 (.take 33 (.go 29 [33,31] (.go 34 [] (.take 35 (.take 36 (.take 37 .done))))))))))))))))))))))))))))))))))))))),
(5,2,(.take 0 (.take 1 (.take 2 (.take 3 (.take 5 (.take 6 (.take 7 (.take 8 (.go 4 [8,6] (.go 9 [] (.take 10 (.take 11 (.take 12 (.take 13 (.take 14 (.take 15 (.take 17 (.take 18 (.take 19 (.take 20 (.go 16 [20,18] (.go 21 [] (.take 22 (.take 23 (.take 24 (.take 25 (.take 26 (.take 27 (.take 28 (.take 30 (.take 31 (.take 32 (.take 33 (.go 29 [33,31] (.go 34 [] (.take 35 (.take 36 (.take 37 .done))))))))))))))))))))))))))))))))))))))),
(11,4,(.take 0 (.take 1 (.take 2 (.take 3 (.take 4 (.take 5 (.take 6 (.take 7 (.go 8 [7] (.go 9 [7] (.go 10 [7] (.take 11 (.go 12 [] (.take 13 (.take 14 .done)))))))))))))))),
(11,6,(.take 0 (.take 1 (.take 2 (.take 3 (.take 4 (.take 5 (.take 6 (.take 7 (.take 8 (.take 9 (.take 10 (.go 11 [10] (.go 12 [10] (.go 13 [10] (.take 14 (.go 15 [] (.take 16 (.take 17 .done))))))))))))))))))),
(16,1,(.take 0 (.take 1 (.take 2 (.take 3 (.take 7 (.take 8 (.alt (.go 9 [3,1] (.go 4 [8] (.go 5 [8] (.take 6 (.go 10 [] (.take 11 (.take 12 (.take 13 .done)))))))) (.go 4 [8] (.alt (.go 9 [3,1] (.go 5 [8] (.take 6 (.go 10 [] (.take 11 (.take 12 (.take 13 .done))))))) (.go 5 [8] (.take 6 (.go 9 [3,1] (.go 10 [] (.take 11 (.take 12 (.take 13 .done))))))))))))))))),
(32,6,(.take 0 (.take 1 (.take 2 (.take 3 (.take 4 (.take 5 (.take 6 (.take 7 (.take 8 (.take 9 (.go 10 [] (.take 11 (.take 12 (.take 13 (.take 14 (.take 15 (.take 16 (.take 17 (.take 18 (.take 19 (.take 20 (.take 21 (.take 22 (.take 23 (.take 24 (.take 25 (.take 26 (.take 27 (.take 28 (.take 29 (.take 30 (.take 31 (.take 32 (.take 33 (.take 34 (.take 35 (.go 36 [] (.take 37 (.take 38 (.take 39 (.take 40 (.take 41 (.take 42 (.take 43 (.take 44 (.take 45 (.take 46 (.take 47 (.take 48 (.take 49 (.go 50 [] (.take 51 (.take 52 .done)))))))))))))))))))))))))))))))))))))))))))))))))))))),
(34,6,(.take 0 (.take 1 (.take 2 (.take 3 (.take 4 (.take 5 (.take 6 (.take 7 (.take 8 (.take 9 (.take 10 (.take 11 (.take 12 (.take 13 (.take 14 (.take 15 (.take 16 (.take 17 (.take 18 (.take 19 (.take 20 (.take 21 (.go 22 [] (.take 23 (.take 24 .done)))))))))))))))))))))))))),
(36,6,(.take 0 (.take 1 (.take 2 (.take 3 (.take 4 (.take 5 (.take 6 (.take 7 (.take 8 (.take 9 (.go 10 [] (.take 11 (.take 12 (.take 13 (.take 14 (.take 15 (.take 16 (.take 17 (.take 18 (.take 19 (.take 20 (.take 21 (.take 22 (.go 23 [] (.take 24 (.take 25 (.take 26 (.take 27 (.take 28 (.take 29 (.take 30 (.take 31 (.take 32 (.take 33 (.take 34 (.take 35 (.take 36 (.go 37 [] (.take 38 (.take 39 .done))))))))))))))))))))))))))))))))))))))))),
(38,6,(.take 0 (.take 1 (.take 2 (.take 3 (.take 4 (.take 5 (.take 6 (.take 7 (.take 8 (.take 9 (.take 10 (.take 11 (.go 12 [] (.take 13 (.take 14 (.take 15 (.take 16 (.take 17 (.take 18 (.take 19 (.take 20 (.take 21 (.take 22 (.take 23 (.take 24 (.take 25 (.take 26 (.go 27 [] (.take 28 (.take 29 .done))))))))))))))))))))))))))))))),
(43,10,(.take 0 (.take 1 (.take 2 (.take 6 (.take 7 (.take 8 (.take 11 (.take 12 (.take 14 (.take 15 (.alt (.go 4 [15,12,8,2] (.alt (.go 9 [15,12,2] (.go 3 [15,12,8] (.go 5 [15,12,8] (.go 10 [15,12] (.go 13 [15] (.go 16 [] .done)))))) (.go 3 [15,12,8] (.alt (.go 9 [15,12,2] (.go 5 [15,12,8] (.go 10 [15,12] (.go 13 [15] (.go 16 [] .done))))) (.go 5 [15,12,8] (.go 9 [15,12,2] (.go 10 [15,12] (.go 13 [15] (.go 16 [] .done))))))))) (.alt (.go 9 [15,12,2] (.alt (.go 4 [15,12,8,2] (.go 3 [15,12,8] (.go 5 [15,12,8] (.go 10 [15,12] (.go 13 [15] (.go 16 [] .done)))))) (.go 3 [15,12,8] (.go 4 [15,12,8,2] (.go 5 [15,12,8] (.go 10 [15,12] (.go 13 [15] (.go 16 [] .done)))))))) (.go 3 [15,12,8] (.alt (.go 9 [15,12,2] (.go 4 [15,12,8,2] (.go 5 [15,12,8] (.go 10 [15,12] (.go 13 [15] (.go 16 [] .done)))))) (.go 4 [15,12,8,2] (.alt (.go 9 [15,12,2] (.go 5 [15,12,8] (.go 10 [15,12] (.go 13 [15] (.go 16 [] .done))))) (.go 5 [15,12,8] (.go 9 [15,12,2] (.go 10 [15,12] (.go 13 [15] (.go 16 [] .done)))))))))))))))))))))),
(45,9,(.take 0 (.take 1 (.take 2 (.take 7 (.take 8 (.alt (.go 5 [8,2] (.go 3 [8] (.go 4 [8] (.go 6 [8] (.go 9 [] .done))))) (.go 3 [8] (.alt (.go 5 [8,2] (.go 4 [8] (.go 6 [8] (.go 9 [] .done)))) (.go 4 [8] (.go 5 [8,2] (.go 6 [8] (.go 9 [] .done))))))))))))),
(49,10,(.take 0 (.take 3 (.take 4 (.alt (.go 6 [4] (.go 1 [4] (.go 2 [4] (.go 5 [] (.go 7 [] .done))))) (.go 1 [4] (.alt (.go 6 [4] (.go 2 [4] (.go 5 [] (.go 7 [] .done)))) (.go 2 [4] (.alt (.go 6 [4] (.go 5 [] (.go 7 [] .done))) (.go 5 [] (.go 6 [4] (.go 7 [] .done)))))))))))),
(49,12,(.take 0 (.take 3 (.take 4 (.take 5 (.take 6 (.go 1 [6,4] (.go 2 [6,4] (.go 7 [] .done))))))))),
(49,14,(.take 0 (.take 3 (.take 4 (.go 1 [4] (.go 2 [4] (.go 5 [] .done))))))),
(49,16,(.take 0 (.take 3 (.take 4 (.take 8 (.take 9 (.alt (.go 6 [9,4] (.go 1 [9,4] (.go 2 [9,4] (.go 5 [9] (.go 7 [9] (.go 10 [] .done)))))) (.go 1 [9,4] (.alt (.go 6 [9,4] (.go 2 [9,4] (.go 5 [9] (.go 7 [9] (.go 10 [] .done))))) (.go 2 [9,4] (.alt (.go 6 [9,4] (.go 5 [9] (.go 7 [9] (.go 10 [] .done)))) (.go 5 [9] (.go 6 [9,4] (.go 7 [9] (.go 10 [] .done))))))))))))))),
(49,18,(.take 0 (.take 3 (.take 4 (.go 1 [4] (.go 2 [4] (.go 5 [] .done))))))),
(51,6,(.take 0 (.take 1 (.take 2 (.take 3 (.take 4 (.take 5 (.take 6 (.take 7 (.take 8 .done)))))))))),
(54,6,(.take 0 (.take 1 (.take 2 (.take 3 (.take 4 (.take 5 (.go 6 [] (.go 7 [] .done))))))))),
(57,3,(.take 1 (.take 3 (.take 5 (.take 7 (.go 0 [] (.alt (.go 4 [] (.alt (.go 6 [] (.alt (.go 8 [] (.go 2 [] (.take 9 (.take 10 .done)))) (.go 2 [] (.go 8 [] (.take 9 (.take 10 .done)))))) (.alt (.go 8 [] (.alt (.go 6 [] (.go 2 [] (.take 9 (.take 10 .done)))) (.go 2 [] (.go 6 [] (.take 9 (.take 10 .done)))))) (.go 2 [] (.alt (.go 8 [] (.go 6 [] (.take 9 (.take 10 .done)))) (.go 6 [] (.go 8 [] (.take 9 (.take 10 .done))))))))) (.alt (.go 6 [] (.alt (.go 4 [] (.alt (.go 8 [] (.go 2 [] (.take 9 (.take 10 .done)))) (.go 2 [] (.go 8 [] (.take 9 (.take 10 .done)))))) (.alt (.go 8 [] (.alt (.go 4 [] (.go 2 [] (.take 9 (.take 10 .done)))) (.go 2 [] (.go 4 [] (.take 9 (.take 10 .done)))))) (.go 2 [] (.alt (.go 8 [] (.go 4 [] (.take 9 (.take 10 .done)))) (.go 4 [] (.go 8 [] (.take 9 (.take 10 .done))))))))) (.alt (.go 8 [] (.alt (.go 4 [] (.alt (.go 6 [] (.go 2 [] (.take 9 (.take 10 .done)))) (.go 2 [] (.go 6 [] (.take 9 (.take 10 .done)))))) (.alt (.go 6 [] (.alt (.go 4 [] (.go 2 [] (.take 9 (.take 10 .done)))) (.go 2 [] (.go 4 [] (.take 9 (.take 10 .done)))))) (.go 2 [] (.alt (.go 6 [] (.go 4 [] (.take 9 (.take 10 .done)))) (.go 4 [] (.go 6 [] (.take 9 (.take 10 .done))))))))) (.go 2 [] (.alt (.go 6 [] (.alt (.go 8 [] (.go 4 [] (.take 9 (.take 10 .done)))) (.go 4 [] (.go 8 [] (.take 9 (.take 10 .done)))))) (.alt (.go 8 [] (.alt (.go 6 [] (.go 4 [] (.take 9 (.take 10 .done)))) (.go 4 [] (.go 6 [] (.take 9 (.take 10 .done)))))) (.go 4 [] (.alt (.go 8 [] (.go 6 [] (.take 9 (.take 10 .done)))) (.go 6 [] (.go 8 [] (.take 9 (.take 10 .done)))))))))))))))))),
(62,6,(.take 0 (.take 1 (.take 2 (.take 3 (.take 4 (.take 5 (.take 6 (.take 7 (.take 8 (.take 9 (.take 10 (.take 11 (.take 12 (.take 13 (.take 14 (.take 15 (.take 16 (.take 17 (.take 18 (.take 19 (.take 20 (.take 21 (.take 22 (.take 23 (.take 24 (.take 25 (.take 26 (.take 27 (.take 28 (.take 29 (.take 30 (.take 31 (.take 32 (.take 33 (.take 34 (.take 35 (.take 36 .done)))))))))))))))))))))))))))))))))))))),
(65,6,(.take 0 (.take 1 (.take 2 (.take 3 (.take 4 (.take 5 (.take 6 (.take 7 (.take 8 .done)))))))))),
(68,4,(.take 0 (.take 2 (.go 1 [2] (.go 3 [] (.take 4 .done)))))),
(75,1,(.take 0 (.take 1 (.take 2 (.take 3 (.take 4 (.go 5 [1] (.go 6 [1] (.take 7 (.take 8 (.take 9 .done))))))))))),
(99,6,(.take 0 (.take 1 (.take 2 (.take 3 (.take 4 (.take 5 (.take 6 (.take 7 (.take 8 .done)))))))))),
(107,6,(.take 0 (.take 1 (.take 2 (.take 3 (.take 4 (.take 5 (.take 6 (.take 7 (.take 8 (.take 9 (.take 10 (.take 11 (.take 12 (.take 13 (.take 14 (.take 15 (.take 16 (.take 17 (.take 18 (.take 19 (.take 20 (.take 21 (.go 22 [] (.take 23 (.take 24 .done)))))))))))))))))))))))))),
(108,3,(.take 0 (.take 3 (.take 4 (.alt (.go 6 [4] (.go 1 [4] (.go 2 [4] (.go 5 [] (.go 7 [] .done))))) (.go 1 [4] (.alt (.go 6 [4] (.go 2 [4] (.go 5 [] (.go 7 [] .done)))) (.go 2 [4] (.alt (.go 6 [4] (.go 5 [] (.go 7 [] .done))) (.go 5 [] (.go 6 [4] (.go 7 [] .done)))))))))))),
(108,5,(.take 0 (.take 3 (.take 4 (.take 5 (.take 6 (.go 1 [6,4] (.go 2 [6,4] (.go 7 [] .done))))))))),
(109,3,(.take 0 (.take 2 (.take 3 (.go 1 [3] (.go 4 [] (.go 5 [] (.go 6 [] (.go 7 [] (.take 8 .done)))))))))),
(109,5,(.take 0 (.take 2 (.take 3 (.take 4 (.take 5 (.go 1 [5,3] (.go 6 [] (.go 7 [] (.go 8 [] (.take 9 .done))))))))))),
(111,5,(.take 0 (.take 1 (.take 4 (.take 5 (.take 6 (.take 7 (.go 2 [7,5] (.go 3 [7,5] (.go 8 [] (.go 9 [] (.go 10 [] (.take 11 .done))))))))))))),
(112,7,(.take 0 (.take 1 (.take 2 (.take 3 (.take 4 (.take 5 (.go 6 [4] (.go 7 [] (.take 8 (.take 9 (.go 10 [] .done)))))))))))),
(115,3,(.take 0 (.take 3 (.go 1 [3] (.go 2 [3] (.go 4 [] (.take 5 .done))))))),
(116,13,(.take 0 (.take 1 (.take 2 (.take 3 (.take 4 (.take 5 (.take 8 (.take 9 (.take 10 (.take 11 (.take 12 (.take 13 (.take 15 (.take 16 (.take 17 (.take 18 (.take 19 (.go 6 [19,13] (.go 7 [19,13] (.go 14 [19] (.go 20 [] (.go 21 [] (.go 22 [] (.take 23 .done))))))))))))))))))))))))),
(117,7,(.take 0 (.take 1 (.take 2 (.take 3 (.take 4 (.take 5 (.take 8 (.take 9 (.take 10 (.take 11 (.take 12 (.go 6 [12] (.go 7 [12] (.go 13 [] (.go 14 [] (.go 15 [] (.take 16 .done)))))))))))))))))),
(118,5,(.take 0 (.take 1 (.take 3 (.take 4 (.take 8 (.take 9 (.take 11 (.take 12 (.alt (.go 6 [12,9,4] (.alt (.go 14 [12,9,4] (.go 2 [12,9,4] (.go 5 [12,9] (.go 7 [12,9] (.go 10 [12] (.go 13 [] (.go 15 [] (.go 16 [] .done)))))))) (.go 2 [12,9,4] (.alt (.go 14 [12,9,4] (.go 5 [12,9] (.go 7 [12,9] (.go 10 [12] (.go 13 [] (.go 15 [] (.go 16 [] .done))))))) (.go 5 [12,9] (.alt (.go 14 [12,9,4] (.go 7 [12,9] (.go 10 [12] (.go 13 [] (.go 15 [] (.go 16 [] .done)))))) (.go 7 [12,9] (.alt (.go 14 [12,9,4] (.go 10 [12] (.go 13 [] (.go 15 [] (.go 16 [] .done))))) (.go 10 [12] (.alt (.go 14 [12,9,4] (.go 13 [] (.go 15 [] (.go 16 [] .done)))) (.go 13 [] (.go 14 [12,9,4] (.go 15 [] (.go 16 [] .done)))))))))))))) (.alt (.go 14 [12,9,4] (.alt (.go 6 [12,9,4] (.go 2 [12,9,4] (.go 5 [12,9] (.go 7 [12,9] (.go 10 [12] (.go 13 [] (.go 15 [] (.go 16 [] .done)))))))) (.go 2 [12,9,4] (.alt (.go 6 [12,9,4] (.go 5 [12,9] (.go 7 [12,9] (.go 10 [12] (.go 13 [] (.go 15 [] (.go 16 [] .done))))))) (.go 5 [12,9] (.go 6 [12,9,4] (.go 7 [12,9] (.go 10 [12] (.go 13 [] (.go 15 [] (.go 16 [] .done))))))))))) (.go 2 [12,9,4] (.alt (.go 6 [12,9,4] (.alt (.go 14 [12,9,4] (.go 5 [12,9] (.go 7 [12,9] (.go 10 [12] (.go 13 [] (.go 15 [] (.go 16 [] .done))))))) (.go 5 [12,9] (.alt (.go 14 [12,9,4] (.go 7 [12,9] (.go 10 [12] (.go 13 [] (.go 15 [] (.go 16 [] .done)))))) (.go 7 [12,9] (.alt (.go 14 [12,9,4] (.go 10 [12] (.go 13 [] (.go 15 [] (.go 16 [] .done))))) (.go 10 [12] (.alt (.go 14 [12,9,4] (.go 13 [] (.go 15 [] (.go 16 [] .done)))) (.go 13 [] (.go 14 [12,9,4] (.go 15 [] (.go 16 [] .done)))))))))))) (.alt (.go 14 [12,9,4] (.alt (.go 6 [12,9,4] (.go 5 [12,9] (.go 7 [12,9] (.go 10 [12] (.go 13 [] (.go 15 [] (.go 16 [] .done))))))) (.go 5 [12,9] (.go 6 [12,9,4] (.go 7 [12,9] (.go 10 [12] (.go 13 [] (.go 15 [] (.go 16 [] .done))))))))) (.go 5 [12,9] (.alt (.go 14 [12,9,4] (.go 6 [12,9,4] (.go 7 [12,9] (.go 10 [12] (.go 13 [] (.go 15 [] (.go 16 [] .done))))))) (.go 6 [12,9,4] (.alt (.go 14 [12,9,4] (.go 7 [12,9] (.go 10 [12] (.go 13 [] (.go 15 [] (.go 16 [] .done)))))) (.go 7 [12,9] (.alt (.go 14 [12,9,4] (.go 10 [12] (.go 13 [] (.go 15 [] (.go 16 [] .done))))) (.go 10 [12] (.alt (.go 14 [12,9,4] (.go 13 [] (.go 15 [] (.go 16 [] .done)))) (.go 13 [] (.go 14 [12,9,4] (.go 15 [] (.go 16 [] .done)))))))))))))))))))))))))),
(119,7,(.take 0 (.take 1 (.take 2 (.take 3 (.take 4 (.take 5 (.take 6 (.take 9 (.take 10 (.take 11 (.take 12 (.take 13 (.take 15 (.take 16 (.take 17 (.take 18 (.take 19 (.go 7 [19,13] (.go 8 [19,13] (.go 14 [19] (.go 20 [] (.go 21 [] (.go 22 [] (.go 23 [] (.take 24 (.go 25 [] (.go 26 [] (.take 27 .done))))))))))))))))))))))))))))),
(120,1,(.take 0 (.take 1 (.take 5 (.alt (.go 3 [5,1] (.go 2 [5] (.go 4 [5] (.go 6 [] (.take 7 .done))))) (.go 2 [5] (.go 3 [5,1] (.go 4 [5] (.go 6 [] (.take 7 .done)))))))))),
(121,5,(.take 0 (.take 1 (.take 2 (.take 6 (.take 7 (.alt (.go 4 [7] (.alt (.go 8 [] (.alt (.go 10 [7] (.go 3 [7] (.go 5 [7] (.go 9 [] (.go 11 [] (.go 12 [] .done)))))) (.go 3 [7] (.alt (.go 10 [7] (.go 5 [7] (.go 9 [] (.go 11 [] (.go 12 [] .done))))) (.go 5 [7] (.alt (.go 10 [7] (.go 9 [] (.go 11 [] (.go 12 [] .done)))) (.go 9 [] (.go 10 [7] (.go 11 [] (.go 12 [] .done)))))))))) (.alt (.go 10 [7] (.alt (.go 8 [] (.go 3 [7] (.go 5 [7] (.go 9 [] (.go 11 [] (.go 12 [] .done)))))) (.go 3 [7] (.alt (.go 8 [] (.go 5 [7] (.go 9 [] (.go 11 [] (.go 12 [] .done))))) (.go 5 [7] (.go 8 [] (.go 9 [] (.go 11 [] (.go 12 [] .done))))))))) (.go 3 [7] (.alt (.go 8 [] (.alt (.go 10 [7] (.go 5 [7] (.go 9 [] (.go 11 [] (.go 12 [] .done))))) (.go 5 [7] (.alt (.go 10 [7] (.go 9 [] (.go 11 [] (.go 12 [] .done)))) (.go 9 [] (.go 10 [7] (.go 11 [] (.go 12 [] .done)))))))) (.alt (.go 10 [7] (.alt (.go 8 [] (.go 5 [7] (.go 9 [] (.go 11 [] (.go 12 [] .done))))) (.go 5 [7] (.go 8 [] (.go 9 [] (.go 11 [] (.go 12 [] .done))))))) (.go 5 [7] (.alt (.go 10 [7] (.go 8 [] (.go 9 [] (.go 11 [] (.go 12 [] .done))))) (.go 8 [] (.alt (.go 10 [7] (.go 9 [] (.go 11 [] (.go 12 [] .done)))) (.go 9 [] (.go 10 [7] (.go 11 [] (.go 12 [] .done)))))))))))))) (.alt (.go 8 [] (.alt (.go 4 [7] (.alt (.go 10 [7] (.go 3 [7] (.go 5 [7] (.go 9 [] (.go 11 [] (.go 12 [] .done)))))) (.go 3 [7] (.alt (.go 10 [7] (.go 5 [7] (.go 9 [] (.go 11 [] (.go 12 [] .done))))) (.go 5 [7] (.alt (.go 10 [7] (.go 9 [] (.go 11 [] (.go 12 [] .done)))) (.go 9 [] (.go 10 [7] (.go 11 [] (.go 12 [] .done)))))))))) (.alt (.go 10 [7] (.alt (.go 4 [7] (.go 3 [7] (.go 5 [7] (.go 9 [] (.go 11 [] (.go 12 [] .done)))))) (.go 3 [7] (.go 4 [7] (.go 5 [7] (.go 9 [] (.go 11 [] (.go 12 [] .done)))))))) (.go 3 [7] (.alt (.go 10 [7] (.go 4 [7] (.go 5 [7] (.go 9 [] (.go 11 [] (.go 12 [] .done)))))) (.go 4 [7] (.alt (.go 10 [7] (.go 5 [7] (.go 9 [] (.go 11 [] (.go 12 [] .done))))) (.go 5 [7] (.alt (.go 10 [7] (.go 9 [] (.go 11 [] (.go 12 [] .done)))) (.go 9 [] (.go 10 [7] (.go 11 [] (.go 12 [] .done))))))))))))) (.alt (.go 10 [7] (.alt (.go 4 [7] (.alt (.go 8 [] (.go 3 [7] (.go 5 [7] (.go 9 [] (.go 11 [] (.go 12 [] .done)))))) (.go 3 [7] (.alt (.go 8 [] (.go 5 [7] (.go 9 [] (.go 11 [] (.go 12 [] .done))))) (.go 5 [7] (.go 8 [] (.go 9 [] (.go 11 [] (.go 12 [] .done))))))))) (.alt (.go 8 [] (.alt (.go 4 [7] (.go 3 [7] (.go 5 [7] (.go 9 [] (.go 11 [] (.go 12 [] .done)))))) (.go 3 [7] (.go 4 [7] (.go 5 [7] (.go 9 [] (.go 11 [] (.go 12 [] .done)))))))) (.go 3 [7] (.alt (.go 8 [] (.go 4 [7] (.go 5 [7] (.go 9 [] (.go 11 [] (.go 12 [] .done)))))) (.go 4 [7] (.alt (.go 8 [] (.go 5 [7] (.go 9 [] (.go 11 [] (.go 12 [] .done))))) (.go 5 [7] (.go 8 [] (.go 9 [] (.go 11 [] (.go 12 [] .done)))))))))))) (.go 3 [7] (.alt (.go 8 [] (.alt (.go 10 [7] (.go 4 [7] (.go 5 [7] (.go 9 [] (.go 11 [] (.go 12 [] .done)))))) (.go 4 [7] (.alt (.go 10 [7] (.go 5 [7] (.go 9 [] (.go 11 [] (.go 12 [] .done))))) (.go 5 [7] (.alt (.go 10 [7] (.go 9 [] (.go 11 [] (.go 12 [] .done)))) (.go 9 [] (.go 10 [7] (.go 11 [] (.go 12 [] .done)))))))))) (.alt (.go 10 [7] (.alt (.go 8 [] (.go 4 [7] (.go 5 [7] (.go 9 [] (.go 11 [] (.go 12 [] .done)))))) (.go 4 [7] (.alt (.go 8 [] (.go 5 [7] (.go 9 [] (.go 11 [] (.go 12 [] .done))))) (.go 5 [7] (.go 8 [] (.go 9 [] (.go 11 [] (.go 12 [] .done))))))))) (.go 4 [7] (.alt (.go 8 [] (.alt (.go 10 [7] (.go 5 [7] (.go 9 [] (.go 11 [] (.go 12 [] .done))))) (.go 5 [7] (.alt (.go 10 [7] (.go 9 [] (.go 11 [] (.go 12 [] .done)))) (.go 9 [] (.go 10 [7] (.go 11 [] (.go 12 [] .done)))))))) (.alt (.go 10 [7] (.alt (.go 8 [] (.go 5 [7] (.go 9 [] (.go 11 [] (.go 12 [] .done))))) (.go 5 [7] (.go 8 [] (.go 9 [] (.go 11 [] (.go 12 [] .done))))))) (.go 5 [7] (.alt (.go 10 [7] (.go 8 [] (.go 9 [] (.go 11 [] (.go 12 [] .done))))) (.go 8 [] (.alt (.go 10 [7] (.go 9 [] (.go 11 [] (.go 12 [] .done)))) (.go 9 [] (.go 10 [7] (.go 11 [] (.go 12 [] .done))))))))))))))))))))))),
(122,0,(.take 0 (.take 1 (.take 2 (.take 3 (.take 4 (.take 5 (.take 6 (.take 7 (.take 8 (.take 9 (.take 10 (.go 11 [4] (.go 12 [] (.take 13 (.take 14 (.go 15 [] .done))))))))))))))))),
(123,7,(.take 1 (.take 2 (.go 0 [2] (.go 3 [] (.go 4 [] (.go 5 [] (.go 6 [] (.take 7 .done))))))))),
(123,9,(.take 1 (.take 2 (.take 3 (.take 4 (.go 0 [4,2] (.go 5 [] (.go 6 [] (.go 7 [] (.take 8 .done)))))))))),
(123,11,(.take 1 (.take 2 (.go 0 [2] (.go 3 [] (.go 4 [] (.go 5 [] (.take 6 .done)))))))),
(123,13,(.take 2 (.take 3 (.take 7 (.take 8 (.go 0 [8,3] (.go 1 [8,3] (.go 4 [8] (.go 5 [8] (.go 6 [8] (.go 9 [] (.go 10 [] (.go 11 [] (.take 12 .done)))))))))))))),
(123,15,(.take 1 (.take 2 (.go 0 [2] (.go 3 [] (.go 4 [] (.go 5 [] (.take 6 .done)))))))),
(127,3,(.take 0 (.take 1 (.take 2 (.take 3 (.go 4 [3] (.go 5 [] .done))))))),
(128,1,(.take 0 (.take 1 (.take 2 (.take 3 (.take 4 (.take 5 (.take 6 (.take 7 (.take 8 (.take 9 .done))))))))))),
(128,2,(.take 0 (.take 1 (.take 2 (.take 3 (.take 4 (.take 5 (.take 6 (.take 7 (.take 8 (.take 9 (.go 10 [] .done)))))))))))),
(132,4,(.take 0 (.take 2 (.take 4 (.alt (.go 3 [0] (.go 1 [] (.take 5 (.go 6 [] .done)))) (.go 1 [] (.go 3 [0] (.take 5 (.go 6 [] .done))))))))),
(137,6,(.take 0 (.take 1 (.take 2 (.take 3 (.take 4 (.go 5 [4] (.go 6 [] (.go 7 [] .done))))))))),
(139,6,(.take 0 (.take 1 (.take 2 (.take 3 (.take 4 (.go 5 [4] (.go 6 [] (.go 7 [] .done))))))))),
(140,3,(.take 0 (.take 1 (.go 2 [0] (.take 3 (.go 4 [] .done)))))),
(146,2,(.take 0 (.take 1 (.take 2 (.take 3 (.take 4 (.take 5 (.take 6 (.take 7 (.go 8 [] (.take 9 (.take 10 (.take 11 (.take 12 (.take 13 (.take 14 (.go 15 [11] (.go 16 [] (.take 17 (.take 18 .done)))))))))))))))))))),
(167,6,(.take 0 (.take 1 (.take 2 (.take 3 (.take 4 (.take 5 (.take 6 (.take 7 (.go 8 [] (.take 9 .done))))))))))),
(168,6,(.take 0 (.take 1 (.take 2 (.take 3 (.take 4 (.take 5 (.take 6 (.take 7 (.take 8 (.take 9 (.go 10 [] (.take 11 (.take 12 (.take 13 (.take 14 (.take 15 (.take 16 (.take 17 (.take 18 (.take 19 (.take 20 (.take 21 (.take 22 (.go 23 [] (.take 24 (.take 25 .done))))))))))))))))))))))))))),
(171,9,(.take 0 (.take 1 (.take 2 (.take 3 (.take 6 (.take 7 (.go 4 [7] (.go 5 [7] (.go 8 [] (.go 9 [] (.go 10 [] (.go 11 [] (.go 12 [] (.take 13 .done))))))))))))))),
(171,13,(.take 0 (.take 1 (.take 2 (.take 3 (.take 6 (.take 7 (.go 4 [7] (.go 5 [7] (.go 8 [] (.go 9 [] (.go 10 [] (.go 11 [] (.go 12 [] (.take 13 .done))))))))))))))),
(171,15,(.take 0 (.take 1 (.take 2 (.take 3 (.take 8 (.take 9 (.go 4 [9] (.go 5 [9] (.go 6 [9] (.go 7 [9] (.go 10 [] (.go 11 [] (.go 12 [] (.go 13 [] (.go 14 [] (.go 15 [] (.take 16 .done)))))))))))))))))),
(171,18,(.take 0 (.take 1 (.take 2 (.take 3 (.take 8 (.take 9 (.take 10 (.take 11 (.go 4 [11,9] (.go 5 [11,9] (.go 6 [11,9] (.go 7 [11,9] (.go 12 [] (.go 13 [] (.go 14 [] (.take 15 .done))))))))))))))))),
(171,19,(.take 0 (.take 1 (.take 2 (.take 3 (.take 9 (.take 10 (.take 11 (.take 12 (.go 4 [12,10] (.go 5 [12,10] (.go 6 [12,10] (.go 7 [12,10] (.go 8 [12,10] (.go 13 [] (.go 14 [] (.go 15 [] (.go 16 [] (.go 17 [] (.go 18 [] (.take 19 .done))))))))))))))))))))),
(171,21,(.take 3 (.take 4 (.go 0 [4] (.go 1 [4] (.go 2 [4] (.go 5 [] (.go 6 [] (.go 7 [] (.go 8 [] (.go 9 [] (.go 10 [] (.take 11 .done))))))))))))),
(171,23,(.take 4 (.take 5 (.take 6 (.take 7 (.take 12 (.take 13 (.take 14 (.take 15 (.take 20 (.take 21 (.take 22 (.take 23 (.go 0 [23,21,15,13,7,5] (.go 1 [23,21,15,13,7,5] (.go 2 [23,21,15,13,7,5] (.go 3 [23,21,15,13,7,5] (.go 8 [23,21,15,13] (.go 9 [23,21,15,13] (.go 10 [23,21,15,13] (.go 11 [23,21,15,13] (.go 16 [23,21] (.go 17 [23,21] (.go 18 [23,21] (.go 19 [23,21] (.go 24 [] (.go 25 [] (.go 26 [] (.go 27 [] (.go 28 [] (.go 29 [] (.take 30 .done)))))))))))))))))))))))))))))))),
(171,25,(.take 0 (.take 1 (.take 3 (.take 4 (.take 5 (.take 6 (.take 7 (.go 2 [7,6,4] (.go 8 [6,4] (.go 9 [] (.go 10 [] (.go 11 [] (.take 12 .done)))))))))))))),
(171,27,(.take 0 (.take 1 (.take 2 (.take 3 (.take 4 (.take 7 (.take 8 (.take 10 (.take 11 (.take 12 (.take 13 (.take 14 (.go 5 [14,13,11,8,3,1] (.go 6 [14,13,11,8] (.go 9 [14,13,11] (.go 15 [13,11] (.go 16 [] (.go 17 [] (.go 18 [] (.take 19 .done))))))))))))))))))))),
(171,31,(.take 0 (.take 1 (.take 2 (.take 3 (.take 5 (.take 6 (.take 7 (.take 8 (.take 9 (.go 4 [9,7] (.go 10 [] (.go 11 [] (.go 12 [] (.take 13 .done))))))))))))))),
(171,33,(.take 0 (.take 4 (.take 5 (.take 6 (.take 7 (.go 1 [7,5] (.go 2 [7,5] (.go 3 [7,5] (.go 8 [] (.go 9 [] (.go 10 [] (.take 11 .done))))))))))))),
(175,1,(.take 0 (.take 3 (.go 1 [3] (.go 2 [3] (.go 4 [] (.go 5 [] (.go 6 [] (.take 7 .done))))))))),
(179,3,(.take 1 (.go 0 [1] (.go 2 [] (.go 3 [] (.go 4 [] (.take 5 .done))))))),
(182,2,(.take 0 (.take 3 (.alt (.go 5 [3] (.go 1 [3] (.go 2 [3] (.go 4 [] (.go 6 [] (.take 7 .done)))))) (.go 1 [3] (.alt (.go 5 [3] (.go 2 [3] (.go 4 [] (.go 6 [] (.take 7 .done))))) (.go 2 [3] (.alt (.go 5 [3] (.go 4 [] (.go 6 [] (.take 7 .done)))) (.go 4 [] (.go 5 [3] (.go 6 [] (.take 7 .done)))))))))))),
(184,5,(.take 0 (.take 1 (.take 2 (.take 4 (.take 5 (.go 3 [5] (.go 6 [] (.go 7 [] (.go 8 [] (.go 9 [] (.take 10 (.go 11 [] (.go 12 [] (.take 13 .done))))))))))))))),
(188,6,(.take 0 (.take 1 (.take 2 (.take 3 (.take 4 (.take 5 (.take 6 (.take 7 (.take 8 (.take 9 (.take 10 (.take 11 (.take 12 (.take 13 .done))))))))))))))),
(190,4,(.take 0 (.take 1 (.take 2 (.take 3 (.take 4 (.take 5 (.take 6 (.take 7 (.take 8 (.take 9 (.take 10 (.take 11 (.take 12 .done)))))))))))))),
(194,6,(.take 0 (.take 1 (.take 2 (.take 3 (.take 4 (.go 5 [4] (.go 6 [] (.go 7 [] .done))))))))),
(197,5,(.take 0 (.take 1 (.take 2 (.take 3 (.take 4 (.take 5 (.take 6 (.take 7 (.take 8 (.take 9 (.take 10 (.take 11 (.go 12 [] (.take 13 (.take 14 .done)))))))))))))))),
(198,3,(.take 0 (.take 1 (.take 2 (.take 3 (.go 4 [3] (.go 5 [] .done))))))),
(199,3,(.take 0 (.take 1 (.go 2 [0] (.go 3 [] (.go 4 [] .done)))))),
(200,3,(.take 0 (.take 1 (.take 2 (.take 3 (.go 4 [3] (.go 5 [] .done))))))),
(230,2,(.take 3 (.go 0 [3] (.go 1 [3] (.go 2 [3] (.go 4 [] (.go 5 [] (.go 6 [] (.go 7 [] (.go 8 [] (.go 9 [] (.take 10 .done)))))))))))),
(231,3,(.take 0 (.take 1 (.take 2 (.take 3 (.take 4 (.take 5 (.take 6 (.take 7 (.take 8 (.take 9 (.take 10 (.take 11 (.take 12 (.take 13 (.take 14 (.take 15 (.take 16 (.take 17 (.take 18 (.take 19 .done))))))))))))))))))))),
(232,2,(.take 1 (.go 0 [1] (.go 2 [] (.go 3 [] (.go 4 [] (.go 5 [] (.take 6 .done)))))))),
(233,5,(.take 0 (.take 1 (.take 2 (.take 3 (.take 4 (.take 5 (.take 6 (.take 7 (.go 8 [4] (.go 9 [] (.take 10 (.take 11 (.go 12 [] .done)))))))))))))),
(236,6,(.take 0 (.take 1 (.take 2 (.take 3 (.take 4 (.take 5 (.take 6 (.take 7 (.take 8 (.go 9 [] .done))))))))))),
(240,1,(.take 0 (.take 1 (.take 2 (.take 3 (.take 4 (.take 5 (.take 6 (.take 7 (.take 8 (.take 9 (.alt (.go 15 [9,8,4] (.go 10 [] (.take 11 (.take 12 (.take 13 (.take 14 (.go 16 [] (.take 17 (.take 18 .done))))))))) (.go 10 [] (.take 11 (.take 12 (.take 13 (.take 14 (.go 15 [9,8,4] (.go 16 [] (.take 17 (.take 18 .done))))))))))))))))))))),
(243,3,(.take 0 (.take 1 (.take 2 (.take 3 (.go 4 [3] (.go 5 [] .done))))))),
(266,12,(.take 0 (.take 1 (.take 2 (.take 3 (.take 4 (.take 5 (.take 6 (.take 7 (.take 12 (.take 13 (.take 14 (.take 15 (.take 16 (.take 17 (.take 18 (.go 8 [18,16] (.go 9 [18,16] (.go 10 [18,16] (.go 11 [18,16] (.go 19 [] (.go 20 [] (.go 21 [] (.take 22 .done)))))))))))))))))))))))),
(269,6,(.take 0 (.take 1 (.take 2 (.take 3 (.take 4 (.take 5 (.go 6 [4] (.go 7 [] (.take 8 (.take 9 (.go 10 [] .done)))))))))))),
(274,4,(.take 0 (.take 2 (.take 3 (.go 1 [3] (.take 4 (.take 5 (.go 6 [] .done)))))))),
(275,5,(.take 0 (.take 1 (.take 2 (.take 3 (.take 4 (.take 5 (.take 6 (.take 7 (.take 8 (.take 9 (.take 10 (.take 11 (.take 12 (.take 13 (.take 14 (.take 15 (.take 16 (.take 17 (.take 18 (.take 19 (.take 20 .done)))))))))))))))))))))),
(275,8,(.take 0 (.take 2 (.take 3 (.go 1 [3] (.take 4 (.take 5 (.go 6 [] .done)))))))),
(276,4,(.take 0 (.take 1 (.take 2 (.take 3 (.take 4 (.take 5 (.take 6 (.take 7 (.take 8 (.go 9 [] .done))))))))))),
(280,3,(.take 0 (.take 1 (.take 2 (.go 3 [1] (.go 4 [] (.go 5 [] .done))))))),
(280,9,(.take 0 (.take 1 (.go 2 [0] (.go 3 [] (.take 4 .done)))))),
(285,14,(.take 0 (.take 1 (.take 2 (.take 6 (.go 3 [1] (.go 4 [1] (.go 5 [] (.go 7 [] (.take 8 (.go 9 [] .done))))))))))),
(286,4,(.take 0 (.take 1 (.take 2 (.take 3 (.take 4 (.go 5 [4] (.go 6 [] (.go 7 [] .done))))))))),
(294,4,(.take 0 (.take 1 (.take 2 (.take 3 (.take 4 (.take 5 (.take 6 (.take 7 (.take 8 (.take 9 (.go 10 [] (.take 11 .done))))))))))))),
(301,6,(.take 0 (.take 1 (.take 2 (.take 3 (.go 4 [1] (.go 5 [1] (.go 6 [] (.go 7 [] .done))))))))),
(302,7,(.take 0 (.take 1 (.take 2 (.take 3 (.take 4 (.take 5 (.take 6 (.take 7 (.take 8 (.take 9 (.take 10 (.take 11 (.go 12 [] .done)))))))))))))),
(307,4,(.take 0 (.take 1 (.take 2 (.go 3 [1] (.go 4 [] (.go 5 [] .done))))))),
(308,1,(.take 0 (.take 1 (.take 2 (.take 3 (.take 4 (.take 5 (.take 6 (.take 7 (.take 8 (.take 9 (.take 10 (.take 11 .done))))))))))))),
(308,2,(.take 0 (.take 1 (.take 2 (.take 3 (.take 4 (.take 5 (.take 6 (.take 7 (.take 8 (.take 9 (.take 10 (.take 11 (.go 12 [] .done)))))))))))))),
(310,8,(.take 0 (.take 1 (.take 2 (.go 3 [1] (.go 4 [1] (.go 5 [] (.take 6 (.go 7 [] .done))))))))),
(317,1,(.take 0 (.take 1 (.take 2 (.take 3 (.take 4 (.take 5 (.take 6 (.take 7 (.take 8 (.take 9 (.go 10 [] (.take 11 (.take 12 (.take 13 (.take 14 (.take 15 (.take 16 (.take 17 .done))))))))))))))))))),
(321,6,(.take 0 (.take 1 (.take 2 (.go 3 [1] (.go 4 [1] (.go 5 [] (.take 6 (.go 7 [] .done))))))))),
(322,2,(.take 0 (.take 1 (.take 2 (.take 3 (.take 4 (.take 5 (.take 6 (.take 7 (.take 8 (.take 9 (.take 10 (.take 11 (.take 12 (.take 13 (.alt (.go 15 [11,7] (.go 14 [] (.go 16 [] (.take 17 .done)))) (.go 14 [] (.go 15 [11,7] (.go 16 [] (.take 17 .done)))))))))))))))))))),
(323,4,(.take 0 (.take 1 (.take 2 (.take 3 (.take 4 (.take 5 (.go 6 [] (.go 7 [] .done))))))))),
(325,9,(.take 0 (.take 1 (.take 2 (.take 3 (.take 4 (.take 5 (.take 6 (.take 7 (.take 8 (.take 9 (.take 10 (.take 11 (.take 12 (.take 13 (.take 14 (.take 15 (.take 16 (.take 17 (.take 18 (.take 19 .done))))))))))))))))))))),
(325,18,(.take 0 (.take 1 (.take 2 (.take 3 (.take 4 (.take 5 (.take 6 (.take 7 (.take 8 (.take 9 (.take 10 (.take 11 (.take 12 (.take 13 (.take 14 (.take 15 (.take 16 (.take 17 (.take 18 (.take 19 .done))))))))))))))))))))),
(326,9,(.take 0 (.take 1 (.take 2 (.take 3 (.take 4 (.take 5 (.take 6 (.take 7 (.take 8 (.take 9 (.take 10 (.take 11 (.take 12 (.take 13 (.take 14 (.take 15 (.take 16 (.take 17 (.take 18 (.take 19 .done))))))))))))))))))))),
(327,5,(.take 0 (.take 1 (.go 2 [0] (.go 3 [] (.take 4 (.go 5 [] .done)))))))]
def Bo8:List (FuncId×Nat):= [(2,0),(3,3),(4,1),(5,2),(6,2),(7,1),(8,1),(9,1),(10,1),(11,0),(12,2),(13,1),(14,1),(15,1),(16,1),(17,1),(18,1),(19,1),(20,1),(21,1),(22,1),(23,1),(24,1),(25,1),(26,1),(27,1),(28,2),(29,2),(30,2),(31,2),(32,2),(33,2),(34,2),(35,2),(36,2),(37,2),(38,2),(39,1),(40,1),(41,1),(42,1),(43,1),(44,1),(45,1),(46,1),(47,2),(48,2),(49,2),(50,2),(51,2),(52,2),(53,1),(54,3),(55,1),(56,2),(57,1),(58,2),(59,4),(60,1),(61,1),(62,2),(63,3),(64,2),(65,2),(66,2),(67,3),(68,1),(69,1),(70,1),(71,1),(72,2),(73,3),(74,1),(75,1),(76,2),(77,2),(78,1),(79,2),(80,1),(81,1),(82,1),(83,1),(84,1),(85,1),(86,1),(87,1),(88,1),(89,1),(90,1),(91,1),(92,0),(93,2),(94,2),(95,1),(96,1),(97,1),(98,2),(99,2),(100,3),(101,2),(102,3),(103,2),(104,3),(105,2),(106,2),(107,2),(108,2),(109,1),(110,2),(111,1),(112,2),(113,2),(114,2),(115,2),(116,1),(117,1),(118,3),(119,2),(120,3),(121,3),(122,3),(123,2),(124,3),(125,2),(126,1),(127,2),(128,1),(129,1),(130,2),(131,2),(132,1),(133,1),(134,2),(135,1),(136,1),(137,3),(138,1),(139,3),(140,1),(141,3),(142,2),(143,1),(144,1),(145,3),(146,4),(147,1),(148,2),(149,2),(150,1),(151,1),(152,2),(153,1),(154,2),(155,1),(156,1),(157,1),(158,1),(159,1),(160,1),(161,3),(162,1),(163,1),(164,1),(165,2),(166,1),(167,2),(168,2),(169,3),(170,2),(171,1),(172,1),(173,1),(174,1),(175,2),(176,1),(177,1),(178,1),(179,1),(180,1),(181,3),(182,2),(183,1),(184,2),(185,1),(186,1),(187,1),(188,1),(189,2),(190,1),(191,1),(192,2),(193,2),(194,3),(195,1),(196,1),(197,1),(198,2),(199,1),(200,2),(201,3),(202,2),(203,1),(204,5),(205,1),(206,1),(207,1),(208,1),(209,2),(210,1),(211,1),(212,1),(213,2),(214,2),(215,1),(216,2),(217,0),(218,2),(219,0),(220,1),(221,2),(222,1),(223,1),(224,1),(225,1),(226,1),(227,1),(228,1),(229,1),(230,2),(231,2),(232,1),(233,2),(234,1),(235,4),(236,2),(237,1),(238,0),(239,1),(240,2),(241,2),(242,2),(243,2),(244,1),(245,1),(246,1),(247,1),(248,1),(249,1),(250,0),(251,1),(252,1),(253,1),(254,2),(255,1),(256,1),(257,1),(258,2),(259,1),(260,1),(261,2),(262,1),(263,1),(264,3),(265,2),(266,1),(267,1),(268,1),(269,2),(270,2),(271,3),(272,4),(273,2),(274,2),(275,2),(276,3),(277,3),(278,1),(279,1),(280,2),(281,1),(282,1),(283,1),(284,1),(285,1),(286,2),(287,1),(288,2),(289,1),(290,1),(291,1),(292,2),(293,1),(294,2),(295,2),(296,2),(297,1),(298,2),(299,1),(300,0),(301,2),(302,4),(303,3),(304,2),(305,1),(306,1),(307,5),(308,2),(309,2),(310,1),(311,2),(312,1),(313,2),(314,2),(315,2),(316,1),(317,2),(318,1),(319,2),(320,3),(321,1),(322,1),(323,2),(324,1),(325,2),(326,2),(327,1),(328,2),(329,3),(354,0)]
noncomputable def xgt (g:Nat):Option DVal:=Bool.rec (motive:=fun _=>Option DVal) none (some (.vptr (Lib.asciiSpaceTab.map fun z=> .int .u8 z) 0)) (Nat.beq g 0)
noncomputable def xpM (memo:List (FuncId×List DVal×DVal)):XP:= { P:=Tryz.prog,gt:=xgt,plans:=Ax7,memo:=memo,good:=Bo8 }
end Go.Dl

-- Facts on the types of this seat, each by the kernel. MADE BY PROGRAM (facts.py).
namespace Go.Dl
open Go Go.Proofs
attribute [go_sem] Tryz.underlying0 Tryz.underlying1
attribute [go_sem] Tryz.underlying2 Tryz.underlying3
attribute [go_sem] Tryz.underlying4 Tryz.underlying5
attribute [go_sem] Tryz.underlying6 Tryz.eqGuardType7
attribute [go_sem] Tryz.stoodInHeld7 Tryz.underlying7 Tryz.eqGuardType8 Tryz.stoodInHeld8 Tryz.underlying8
attribute [go_sem] Tryz.underlying9 Tryz.underlying10
attribute [go_sem] Tryz.underlying11 Tryz.underlying12
attribute [go_sem] Tryz.eqGuardType13 Tryz.stoodInHeld13 Tryz.underlying13
attribute [go_sem] Tryz.eqGuardType14 Tryz.stoodInHeld14 Tryz.underlying14 Tryz.underlying15
attribute [go_sem] Tryz.underlying16 Tryz.underlying17
attribute [go_sem] Tryz.eqGuardType18 Tryz.stoodInHeld18 Tryz.underlying18
attribute [go_sem] Tryz.eqGuardType19 Tryz.stoodInHeld19 Tryz.underlying19 Tryz.underlying20
attribute [go_sem] Tryz.underlying21 Tryz.underlying22
attribute [go_sem] Tryz.underlying23 Tryz.underlying24
attribute [go_sem] Tryz.underlying25 Tryz.underlying26
attribute [go_sem] Tryz.underlying27 Tryz.eqGuardType28
attribute [go_sem] Tryz.stoodInHeld28 Tryz.underlying28 Tryz.eqGuardType29 Tryz.stoodInHeld29 Tryz.underlying29
attribute [go_sem] Tryz.underlying30 Tryz.eqGuardType31
attribute [go_sem] Tryz.stoodInHeld31 Tryz.underlying31 Tryz.eqGuardType32 Tryz.stoodInHeld32 Tryz.underlying32
attribute [go_sem] Tryz.underlying33 Tryz.underlying34
attribute [go_sem] Tryz.underlying35 Tryz.underlying36
attribute [go_sem] Tryz.underlying37 Tryz.underlying38
attribute [go_sem] Tryz.underlying39 Tryz.underlying40
attribute [go_sem] Tryz.underlying41 Tryz.underlying42
attribute [go_sem] Tryz.underlying43 Tryz.eqGuardType44
attribute [go_sem] Tryz.stoodInHeld44 Tryz.underlying44 Tryz.eqGuardType45 Tryz.stoodInHeld45 Tryz.underlying45
attribute [go_sem] Tryz.eqGuardType46 Tryz.stoodInHeld46 Tryz.underlying46
attribute [go_sem] Tryz.eqGuardType47 Tryz.stoodInHeld47 Tryz.underlying47 Tryz.underlying48
attribute [go_sem] Tryz.underlying49 Tryz.underlying50
attribute [go_sem] Tryz.underlying51 Tryz.eqGuardType52
attribute [go_sem] Tryz.stoodInHeld52 Tryz.underlying52 Tryz.eqGuardType53 Tryz.stoodInHeld53 Tryz.underlying53
attribute [go_sem] Tryz.eqGuardType54 Tryz.stoodInHeld54 Tryz.underlying54
attribute [go_sem] Tryz.eqGuardType55 Tryz.stoodInHeld55 Tryz.underlying55 Tryz.underlying56
attribute [go_sem] Tryz.underlying57 Tryz.underlying58
attribute [go_sem] Tryz.underlying59 Tryz.underlying60
attribute [go_sem] Tryz.underlying61 Tryz.underlying62
attribute [go_sem] Tryz.underlying63 Tryz.underlying64
attribute [go_sem] Tryz.underlying65 Tryz.underlying66
attribute [go_sem] Tryz.underlying67 Tryz.underlying68
attribute [go_sem] Tryz.underlying69 Tryz.underlying70
attribute [go_sem] Tryz.underlying71 Tryz.underlying72
attribute [go_sem] Tryz.underlying73 Tryz.underlying74
attribute [go_sem] Tryz.underlying75 Tryz.underlying76
attribute [go_sem] Tryz.underlying77 Tryz.underlying78
attribute [go_sem] Tryz.underlying79 Tryz.eqGuardType80
attribute [go_sem] Tryz.stoodInHeld80 Tryz.underlying80 Tryz.eqGuardType81 Tryz.stoodInHeld81 Tryz.underlying81
attribute [go_sem] Tryz.underlying82 Tryz.underlying83
attribute [go_sem] Tryz.underlying84 Tryz.underlying85
attribute [go_sem] Tryz.underlying86 Tryz.underlying87
attribute [go_sem] Tryz.underlying88 Tryz.underlying89
attribute [go_sem] Tryz.underlying90 Tryz.underlying91
attribute [go_sem] Tryz.underlying92 Tryz.underlying93
attribute [go_sem] Tryz.underlying94 Tryz.underlying95
attribute [go_sem] Tryz.underlying96 Tryz.underlying97
attribute [go_sem] Tryz.underlying98 Tryz.underlying99
attribute [go_sem] Tryz.underlying100 Tryz.underlying101
attribute [go_sem] Tryz.underlying102 Tryz.underlying103
attribute [go_sem] Tryz.underlying104 Tryz.underlying105
attribute [go_sem] Tryz.underlying106 Tryz.underlying107
attribute [go_sem] Tryz.underlying108 Tryz.eqGuardType109
attribute [go_sem] Tryz.stoodInHeld109 Tryz.underlying109 Tryz.eqGuardType110 Tryz.stoodInHeld110 Tryz.underlying110
attribute [go_sem] Tryz.underlying111 Tryz.underlying112
attribute [go_sem] Tryz.underlying113 Tryz.underlying114
attribute [go_sem] Tryz.eqGuardType115 Tryz.underlying115
attribute [go_sem] Tryz.underlying116 Tryz.underlying117
attribute [go_sem] Tryz.underlying118 Tryz.underlying119
attribute [go_sem] Tryz.underlying120 Tryz.underlying121
attribute [go_sem] Tryz.eqGuardType122 Tryz.stoodInHeld122 Tryz.underlying122 Tryz.eqGuardType123 Tryz.stoodInHeld123
attribute [go_sem] Tryz.underlying123 Tryz.underlying124
attribute [go_sem] Tryz.underlying125 Tryz.underlying126
attribute [go_sem] Tryz.eqGuardType127 Tryz.stoodInHeld127 Tryz.underlying127 Tryz.eqGuardType128 Tryz.stoodInHeld128
attribute [go_sem] Tryz.underlying128 Tryz.underlying129
attribute [go_sem] Tryz.underlying130 Tryz.eqGuardType131 Tryz.stoodInHeld131 Tryz.underlying131
attribute [go_sem] Tryz.eqGuardType132 Tryz.stoodInHeld132 Tryz.underlying132
attribute [go_sem] Tryz.underlying133 Tryz.underlying134
attribute [go_sem] Tryz.underlying135 Tryz.underlying136
attribute [go_sem] Tryz.underlying137 Tryz.underlying138
attribute [go_sem] Tryz.underlying139 Tryz.underlying140
attribute [go_sem] Tryz.underlying141 Tryz.underlying142
attribute [go_sem] Tryz.underlying143 Tryz.eqGuardType144 Tryz.stoodInHeld144 Tryz.underlying144
attribute [go_sem] Tryz.eqGuardType145 Tryz.stoodInHeld145 Tryz.underlying145
attribute [go_sem] Tryz.underlying146 Tryz.underlying147
attribute [go_sem] Tryz.underlying148 Tryz.underlying149
attribute [go_sem] Tryz.underlying150 Tryz.underlying151
attribute [go_sem] Tryz.underlying152 Tryz.eqGuardType153 Tryz.stoodInHeld153 Tryz.underlying153
attribute [go_sem] Tryz.eqGuardType154 Tryz.stoodInHeld154 Tryz.underlying154
attribute [go_sem] Tryz.underlying155 Tryz.underlying156
attribute [go_sem] Tryz.underlying157 Tryz.eqGuardType158 Tryz.stoodInHeld158 Tryz.underlying158
attribute [go_sem] Tryz.eqGuardType159 Tryz.stoodInHeld159 Tryz.underlying159
attribute [go_sem] Tryz.eqGuardType160 Tryz.stoodInHeld160 Tryz.underlying160 Tryz.eqGuardType161 Tryz.stoodInHeld161
attribute [go_sem] Tryz.underlying161 Tryz.underlying162
attribute [go_sem] Tryz.underlying163 Tryz.underlying164
attribute [go_sem] Tryz.underlying165 Tryz.eqGuardType166 Tryz.underlying166
attribute [go_sem] Tryz.underlying167 Tryz.underlying168
attribute [go_sem] Tryz.underlying169 Tryz.underlying170
attribute [go_sem] Tryz.underlying171 Tryz.underlying172
attribute [go_sem] Tryz.underlying173 Tryz.underlying174
attribute [go_sem] Tryz.underlying175 Tryz.underlying176
attribute [go_sem] Tryz.underlying177 Tryz.underlying178
attribute [go_sem] Tryz.underlying179 Tryz.underlying180
attribute [go_sem] Tryz.underlying181 Tryz.underlying182
attribute [go_sem] Tryz.underlying183 Tryz.underlying184
attribute [go_sem] Tryz.underlying185 Tryz.underlying186
attribute [go_sem] Tryz.underlying187 Tryz.underlying188
attribute [go_sem] Tryz.underlying189 Tryz.underlying190
attribute [go_sem] Tryz.underlying191 Tryz.underlying192
attribute [go_sem] Tryz.underlying193 Tryz.underlying194
attribute [go_sem] Tryz.underlying195 Tryz.underlying196
attribute [go_sem] Tryz.eqGuardType197 Tryz.stoodInHeld197 Tryz.underlying197
attribute [go_sem] Tryz.eqGuardType198 Tryz.stoodInHeld198 Tryz.underlying198 Tryz.underlying199
attribute [go_sem] Tryz.underlying200 Tryz.underlying201
attribute [go_sem] Tryz.underlying202 Tryz.underlying203
attribute [go_sem] Tryz.underlying204 Tryz.underlying205
attribute [go_sem] Tryz.underlying206 Tryz.underlying207
attribute [go_sem] Tryz.underlying208 Tryz.underlying209
attribute [go_sem] Tryz.underlying210 Tryz.underlying211
attribute [go_sem] Tryz.underlying212 Tryz.underlying213
attribute [go_sem] Tryz.underlying214 Tryz.underlying215
attribute [go_sem] Tryz.underlying216 Tryz.underlying217
attribute [go_sem] Tryz.underlying218 Tryz.underlying219
attribute [go_sem] Tryz.underlying220 Tryz.eqGuardType221 Tryz.stoodInHeld221
attribute [go_sem] Tryz.underlying221 Tryz.eqGuardType222 Tryz.stoodInHeld222 Tryz.underlying222
attribute [go_sem] Tryz.underlying223 Tryz.underlying224
attribute [go_sem] Tryz.underlying225 Tryz.underlying226
attribute [go_sem] Tryz.underlying227 Tryz.underlying228
attribute [go_sem] Tryz.underlying229 Tryz.underlying230
attribute [go_sem] Tryz.underlying231 Tryz.underlying232
attribute [go_sem] Tryz.underlying233 Tryz.underlying234
attribute [go_sem] Tryz.underlying235 Tryz.underlying236
attribute [go_sem] Tryz.underlying237 Tryz.underlying238
attribute [go_sem] Tryz.underlying239 Tryz.underlying240
attribute [go_sem] Tryz.eqGuardType241 Tryz.stoodInHeld241 Tryz.underlying241
attribute [go_sem] Tryz.eqGuardType242 Tryz.stoodInHeld242 Tryz.underlying242 Tryz.underlying243
attribute [go_sem] Tryz.underlying244 Tryz.underlying245
attribute [go_sem] Tryz.underlying246 Tryz.underlying247
attribute [go_sem] Tryz.underlying248 Tryz.underlying249
attribute [go_sem] Tryz.underlying250 Tryz.eqGuardType251 Tryz.stoodInHeld251
attribute [go_sem] Tryz.underlying251 Tryz.eqGuardType252 Tryz.stoodInHeld252 Tryz.underlying252
attribute [go_sem] Tryz.underlying253 Tryz.underlying254
attribute [go_sem] Tryz.underlying255 Tryz.underlying256
attribute [go_sem] Tryz.underlying257 Tryz.underlying258
attribute [go_sem] Tryz.underlying259 Tryz.underlying260
attribute [go_sem] Tryz.underlying261 Tryz.underlying262
attribute [go_sem] Tryz.underlying263 Tryz.underlying264
attribute [go_sem] Tryz.underlying265 Tryz.underlying266
attribute [go_sem] Tryz.underlying267 Tryz.underlying268
attribute [go_sem] Tryz.underlying269 Tryz.underlying270
attribute [go_sem] Tryz.underlying271 Tryz.underlying272
attribute [go_sem] Tryz.underlying273 Tryz.underlying274
attribute [go_sem] Tryz.underlying275 Tryz.underlying276
attribute [go_sem] Tryz.underlying277 Tryz.underlying278
attribute [go_sem] Tryz.underlying279 Tryz.underlying280
attribute [go_sem] Tryz.underlying281 Tryz.underlying282
attribute [go_sem] Tryz.underlying283 Tryz.underlying284
attribute [go_sem] Tryz.eqGuardType285 Tryz.underlying285 Tryz.underlying286
attribute [go_sem] Tryz.underlying287 Tryz.underlying288
attribute [go_sem] Tryz.underlying289 Tryz.underlying290
attribute [go_sem] Tryz.underlying291 Tryz.underlying292
attribute [go_sem] Tryz.underlying293 Tryz.underlying294
attribute [go_sem] Tryz.underlying295 Tryz.eqGuardType296 Tryz.stoodInHeld296
attribute [go_sem] Tryz.underlying296 Tryz.eqGuardType297 Tryz.stoodInHeld297 Tryz.underlying297
attribute [go_sem] Tryz.underlying298 Tryz.underlying299
attribute [go_sem] Tryz.eqGuardType300 Tryz.stoodInHeld300 Tryz.underlying300
attribute [go_sem] Tryz.eqGuardType301 Tryz.stoodInHeld301 Tryz.underlying301 Tryz.underlying302
attribute [go_sem] Tryz.underlying303 Tryz.underlying304
attribute [go_sem] Tryz.underlying305 Tryz.underlying306
attribute [go_sem] Tryz.underlying307 Tryz.underlying308
attribute [go_sem] Tryz.eqGuardType309 Tryz.stoodInHeld309 Tryz.underlying309
attribute [go_sem] Tryz.eqGuardType310 Tryz.stoodInHeld310 Tryz.underlying310 Tryz.underlying311
attribute [go_sem] Tryz.underlying312 Tryz.underlying313
attribute [go_sem] Tryz.underlying314 Tryz.underlying315
attribute [go_sem] Tryz.underlying316 Tryz.underlying317
attribute [go_sem] Tryz.underlying318 Tryz.underlying319
attribute [go_sem] Tryz.underlying320 Tryz.underlying321
attribute [go_sem] Tryz.eqGuardType322 Tryz.stoodInHeld322 Tryz.underlying322
attribute [go_sem] Tryz.eqGuardType323 Tryz.stoodInHeld323 Tryz.underlying323 Tryz.underlying324
attribute [go_sem] Tryz.eqGuardType325 Tryz.stoodInHeld325 Tryz.underlying325
attribute [go_sem] Tryz.eqGuardType326 Tryz.stoodInHeld326 Tryz.underlying326 Tryz.underlying327
attribute [go_sem] Tryz.eqGuardType328 Tryz.stoodInHeld328 Tryz.underlying328
attribute [go_sem] Tryz.eqGuardType329 Tryz.stoodInHeld329 Tryz.underlying329 Tryz.underlying330
attribute [go_sem] Tryz.underlying331 Tryz.underlying332
attribute [go_sem] Tryz.underlying333 Tryz.underlying334
attribute [go_sem] Tryz.eqGuardType335 Tryz.stoodInHeld335 Tryz.underlying335
attribute [go_sem] Tryz.eqGuardType336 Tryz.stoodInHeld336 Tryz.underlying336 Tryz.eqGuardType337
attribute [go_sem] Tryz.underlying337 Tryz.eqGuardType338 Tryz.stoodInHeld338 Tryz.underlying338
attribute [go_sem] Tryz.eqGuardType339 Tryz.stoodInHeld339 Tryz.underlying339
attribute [go_sem] Tryz.underlying340 Tryz.underlying341
attribute [go_sem] Tryz.underlying342 Tryz.underlying343
attribute [go_sem] Tryz.underlying344 Tryz.underlying345
attribute [go_sem] Tryz.eqGuardType346 Tryz.stoodInHeld346 Tryz.underlying346 Tryz.eqGuardType347 Tryz.stoodInHeld347
attribute [go_sem] Tryz.underlying347 Tryz.underlying348 Tryz.results0 Tryz.results1 Tryz.results2 Tryz.results3 Tryz.results4
attribute [go_sem] Tryz.results5 Tryz.results6 Tryz.results7 Tryz.results8 Tryz.results9 Tryz.results10 Tryz.results11 Tryz.results12 Tryz.results13 Tryz.results14 Tryz.results15 Tryz.results16
attribute [go_sem] Tryz.results17 Tryz.results18 Tryz.results19 Tryz.results20 Tryz.results21 Tryz.results22 Tryz.results23 Tryz.results24 Tryz.results25 Tryz.results26 Tryz.results27 Tryz.results28
attribute [go_sem] Tryz.results29 Tryz.results30 Tryz.results31 Tryz.results32 Tryz.results33 Tryz.results34 Tryz.results35 Tryz.results36 Tryz.results37 Tryz.results38 Tryz.results39 Tryz.results40
attribute [go_sem] Tryz.results41 Tryz.results42 Tryz.results43 Tryz.results44 Tryz.results45 Tryz.results46 Tryz.results47 Tryz.results48 Tryz.results49 Tryz.results50 Tryz.results51 Tryz.results52
attribute [go_sem] Tryz.results53 Tryz.results54 Tryz.results55 Tryz.results56 Tryz.results57 Tryz.results58 Tryz.results59 Tryz.results60 Tryz.results61 Tryz.results62 Tryz.results63 Tryz.results64
attribute [go_sem] Tryz.results65 Tryz.results66 Tryz.results67 Tryz.results68 Tryz.results69 Tryz.results70 Tryz.results71 Tryz.results72 Tryz.results73 Tryz.results74 Tryz.results75 Tryz.results76
attribute [go_sem] Tryz.results77 Tryz.results78 Tryz.results79 Tryz.results80 Tryz.results81 Tryz.results82 Tryz.results83 Tryz.results84 Tryz.results85 Tryz.results86 Tryz.results87 Tryz.results88
attribute [go_sem] Tryz.results89 Tryz.results90 Tryz.results91 Tryz.results92 Tryz.results93 Tryz.results94 Tryz.results95 Tryz.results96 Tryz.results97 Tryz.results98 Tryz.results99 Tryz.results100
attribute [go_sem] Tryz.results101 Tryz.results102 Tryz.results103 Tryz.results104 Tryz.results105 Tryz.results106 Tryz.results107 Tryz.results108 Tryz.results109 Tryz.results110 Tryz.results111 Tryz.results112
attribute [go_sem] Tryz.results113 Tryz.results114 Tryz.results115 Tryz.results116 Tryz.results117 Tryz.results118 Tryz.results119 Tryz.results120 Tryz.results121 Tryz.results122 Tryz.results123 Tryz.results124
attribute [go_sem] Tryz.results125 Tryz.results126 Tryz.results127 Tryz.results128 Tryz.results129 Tryz.results130 Tryz.results131 Tryz.results132 Tryz.results133 Tryz.results134 Tryz.results135 Tryz.results136
attribute [go_sem] Tryz.results137 Tryz.results138 Tryz.results139 Tryz.results140 Tryz.results141 Tryz.results142 Tryz.results143 Tryz.results144 Tryz.results145 Tryz.results146 Tryz.results147 Tryz.results148
attribute [go_sem] Tryz.results149 Tryz.results150 Tryz.results151 Tryz.results152 Tryz.results153 Tryz.results154 Tryz.results155 Tryz.results156 Tryz.results157 Tryz.results158 Tryz.results159 Tryz.results160
attribute [go_sem] Tryz.results161 Tryz.results162 Tryz.results163 Tryz.results164 Tryz.results165 Tryz.results166 Tryz.results167 Tryz.results168 Tryz.results169 Tryz.results170 Tryz.results171 Tryz.results172
attribute [go_sem] Tryz.results173 Tryz.results174 Tryz.results175 Tryz.results176 Tryz.results177 Tryz.results178 Tryz.results179 Tryz.results180 Tryz.results181 Tryz.results182 Tryz.results183 Tryz.results184
attribute [go_sem] Tryz.results185 Tryz.results186 Tryz.results187 Tryz.results188 Tryz.results189 Tryz.results190 Tryz.results191 Tryz.results192 Tryz.results193 Tryz.results194 Tryz.results195 Tryz.results196
attribute [go_sem] Tryz.results197 Tryz.results198 Tryz.results199 Tryz.results200 Tryz.results201 Tryz.results202 Tryz.results203 Tryz.results204 Tryz.results205 Tryz.results206 Tryz.results207 Tryz.results208
attribute [go_sem] Tryz.results209 Tryz.results210 Tryz.results211 Tryz.results212 Tryz.results213 Tryz.results214 Tryz.results215 Tryz.results216 Tryz.results217 Tryz.results218 Tryz.results219 Tryz.results220
attribute [go_sem] Tryz.results221 Tryz.results222 Tryz.results223 Tryz.results224 Tryz.results225 Tryz.results226 Tryz.results227 Tryz.results228 Tryz.results229 Tryz.results230 Tryz.results231 Tryz.results232
attribute [go_sem] Tryz.results233 Tryz.results234 Tryz.results235 Tryz.results236 Tryz.results237 Tryz.results238 Tryz.results239 Tryz.results240 Tryz.results241 Tryz.results242 Tryz.results243 Tryz.results244
attribute [go_sem] Tryz.results245 Tryz.results246 Tryz.results247 Tryz.results248 Tryz.results249 Tryz.results250 Tryz.results251 Tryz.results252 Tryz.results253 Tryz.results254 Tryz.results255 Tryz.results256
attribute [go_sem] Tryz.results257 Tryz.results258 Tryz.results259 Tryz.results260 Tryz.results261 Tryz.results262 Tryz.results263 Tryz.results264 Tryz.results265 Tryz.results266 Tryz.results267 Tryz.results268
attribute [go_sem] Tryz.results269 Tryz.results270 Tryz.results271 Tryz.results272 Tryz.results273 Tryz.results274 Tryz.results275 Tryz.results276 Tryz.results277 Tryz.results278 Tryz.results279 Tryz.results280
attribute [go_sem] Tryz.results281 Tryz.results282 Tryz.results283 Tryz.results284 Tryz.results285 Tryz.results286 Tryz.results287 Tryz.results288 Tryz.results289 Tryz.results290 Tryz.results291 Tryz.results292
attribute [go_sem] Tryz.results293 Tryz.results294 Tryz.results295 Tryz.results296 Tryz.results297 Tryz.results298 Tryz.results299 Tryz.results300 Tryz.results301 Tryz.results302 Tryz.results303 Tryz.results304
attribute [go_sem] Tryz.results305 Tryz.results306 Tryz.results307 Tryz.results308 Tryz.results309 Tryz.results310 Tryz.results311 Tryz.results312 Tryz.results313 Tryz.results314 Tryz.results315 Tryz.results316
attribute [go_sem] Tryz.results317 Tryz.results318 Tryz.results319 Tryz.results320 Tryz.results321 Tryz.results322 Tryz.results323 Tryz.results324 Tryz.results325 Tryz.results326 Tryz.results327 Tryz.results328
attribute [go_sem] Tryz.results329 Tryz.results330 Tryz.results331 Tryz.results332 Tryz.results333 Tryz.results334 Tryz.results335 Tryz.results336 Tryz.results337 Tryz.results338 Tryz.results339 Tryz.results340
attribute [go_sem] Tryz.results341 Tryz.results342 Tryz.results343 Tryz.results344 Tryz.results345 Tryz.results346 Tryz.results347 Tryz.results348 Tryz.results349 Tryz.results350 Tryz.results351 Tryz.results352
attribute [go_sem] Tryz.results353 Tryz.results354
end Go.Dl

-- Names and reserved words (chapter 2), for the seats of chapters 3, 4, 5.
namespace Go.Dl
open Go Go.Proofs Go.RowKit
set_option maxRecDepth 100000
variable {H Hn:Aa}
attribute [go_sem] List.getElem?_toArray List.getElem?_cons_zero List.getElem?_cons_succ List.append_eq
section
end
section
end
structure GX (G:Nat->DVal):Prop where
 space:G 0= .vptr (Lib.asciiSpaceTab.map fun z=> .int .u8 z) 0
section
end
section
end
end Go.Dl

-- What the interpreter knows of this seat is true.
namespace Go.Dl
open Go Go.Proofs
set_option maxRecDepth 100000
theorem Ax8:Bo8.all (fun x=>Ah1 Tryz.prog Ax7 x.1 x.2)=true:=by kernel_rfl
theorem Yi:Cc (Lib.asciiSpaceTab.map fun z=> .int .u8 z)=true:=by decide+kernel
theorem Bu1 {G:Nat->DVal} (hG:GX G):XOk (xpM []) G:=by
 refine⟨by kernel_rfl,fun g d h ρ=> ?_,Ax8,rfl,fun x hx=>by cases hx⟩;have h:Bool.rec (motive:=fun _=>Option DVal) none (some (.vptr (Lib.asciiSpaceTab.map fun z=> .int .u8 z) 0)) (Nat.beq g 0)=some d:=h;cases hb:Nat.beq g 0 with
 | false=>rw[hb] at h;cases h
 | true=>
  rw[hb] at h;cases h;rw[Nat.eq_of_beq_eq_true hb,hG.space];exact .vptr 0 (Ca Yi)
end Go.Dl

-- Closed calls that the examples need, worked out by the kernel. MADE BY PROGRAM (gen_memo.py).
namespace Go.Dl
open Go Go.Proofs
set_option maxRecDepth 100000
def Ah6:DVal:= .vslice [(.int .u8 4),(.int .i64 1),(.str [40]),(.int .i64 0),(.int .u8 1),(.int .i64 1),(.str [82,101,100]),(.int .i64 0),(.int .u8 4),(.int .i64 1),(.str [44]),(.int .i64 0),(.int .u8 1),(.int .i64 1),(.str [71,114,101,101,110]),(.int .i64 0),(.int .u8 4),(.int .i64 1),(.str [41]),(.int .i64 0),(.int .u8 4),(.int .i64 1),(.str [59]),(.int .i64 0)] 6
def Ah7:DVal:= .vslice [(.int .u8 2),(.int .i64 1),(.str [108,105,109,105,116,101,100]),(.int .i64 0),(.int .u8 2),(.int .i64 1),(.str [112,114,105,118,97,116,101]),(.int .i64 0),(.int .u8 4),(.int .i64 1),(.str [59]),(.int .i64 0)] 3
def Ah8:DVal:= .vslice [(.int .u8 2),(.int .i64 1),(.str [110,117,108,108]),(.int .i64 0),(.int .u8 2),(.int .i64 1),(.str [114,101,99,111,114,100]),(.int .i64 0)] 2
def Ah9:DVal:= .vslice [(.int .u8 2),(.int .i64 1),(.str [114,101,99,111,114,100]),(.int .i64 0),(.int .u8 1),(.int .i64 1),(.str [65]),(.int .i64 0),(.int .u8 4),(.int .i64 1),(.str [58]),(.int .i64 0),(.int .u8 1),(.int .i64 1),(.str [84]),(.int .i64 0),(.int .u8 4),(.int .i64 1),(.str [59]),(.int .i64 0),(.int .u8 2),(.int .i64 1),(.str [99,97,115,101]),(.int .i64 0),(.int .u8 1),(.int .i64 1),(.str [68]),(.int .i64 0),(.int .u8 2),(.int .i64 1),(.str [105,115]),(.int .i64 0),(.int .u8 2),(.int .i64 1),(.str [119,104,101,110]),(.int .i64 0),(.int .u8 3),(.int .i64 1),(.str []),(.int .i64 1),(.int .u8 4),(.int .i64 1),(.str [61,62]),(.int .i64 0),(.int .u8 2),(.int .i64 1),(.str [110,117,108,108]),(.int .i64 0),(.int .u8 4),(.int .i64 1),(.str [59]),(.int .i64 0),(.int .u8 2),(.int .i64 1),(.str [101,110,100]),(.int .i64 0),(.int .u8 2),(.int .i64 1),(.str [99,97,115,101]),(.int .i64 0),(.int .u8 4),(.int .i64 1),(.str [59]),(.int .i64 0),(.int .u8 2),(.int .i64 1),(.str [101,110,100]),(.int .i64 0),(.int .u8 2),(.int .i64 1),(.str [114,101,99,111,114,100]),(.int .i64 0),(.int .u8 4),(.int .i64 1),(.str [59]),(.int .i64 0)] 19
def Ai0:DVal:= .vslice [(.int .u8 1),(.int .i64 1),(.str [73,110,116,101,103,101,114]),(.int .i64 0),(.int .u8 2),(.int .i64 1),(.str [114,97,110,103,101]),(.int .i64 0),(.int .u8 3),(.int .i64 1),(.str []),(.int .i64 1),(.int .u8 4),(.int .i64 1),(.str [46,46]),(.int .i64 0),(.int .u8 3),(.int .i64 1),(.str []),(.int .i64 10)] 5
def Ai1:DVal:= .vslice [(.int .u8 1),(.int .i64 1),(.str [84]),(.int .i64 0),(.int .u8 2),(.int .i64 1),(.str [114,97,110,103,101]),(.int .i64 0),(.int .u8 3),(.int .i64 1),(.str []),(.int .i64 1),(.int .u8 4),(.int .i64 1),(.str [46,46]),(.int .i64 0),(.int .u8 1),(.int .i64 1),(.str [78]),(.int .i64 0),(.int .u8 4),(.int .i64 1),(.str [41]),(.int .i64 0)] 6
def Ai2:DVal:= .vslice [(.int .u8 1),(.int .i64 1),(.str [84]),(.int .i64 0),(.int .u8 4),(.int .i64 1),(.str [40]),(.int .i64 0),(.int .u8 3),(.int .i64 1),(.str []),(.int .i64 1),(.int .u8 4),(.int .i64 1),(.str [41]),(.int .i64 0)] 4
def Ai3:DVal:= .vslice [(.int .u8 1),(.int .i64 1),(.str [65]),(.int .i64 0),(.int .u8 4),(.int .i64 1),(.str [58]),(.int .i64 0),(.int .u8 2),(.int .i64 1),(.str [105,110]),(.int .i64 0),(.int .u8 2),(.int .i64 1),(.str [111,117,116]),(.int .i64 0),(.int .u8 1),(.int .i64 1),(.str [84]),(.int .i64 0),(.int .u8 4),(.int .i64 1),(.str [59]),(.int .i64 0),(.int .u8 1),(.int .i64 1),(.str [66]),(.int .i64 0),(.int .u8 4),(.int .i64 1),(.str [44]),(.int .i64 0),(.int .u8 1),(.int .i64 1),(.str [67]),(.int .i64 0),(.int .u8 4),(.int .i64 1),(.str [58]),(.int .i64 0),(.int .u8 1),(.int .i64 1),(.str [84]),(.int .i64 0),(.int .u8 4),(.int .i64 1),(.str [58,61]),(.int .i64 0),(.int .u8 3),(.int .i64 1),(.str []),(.int .i64 1),(.int .u8 4),(.int .i64 1),(.str [41]),(.int .i64 0)] 14
def Ax9:DVal:= .agg [(.int .u8 1),(.vslice [(.str [82,101,100]),(.str [71,114,101,101,110])] 2),(.int .u8 0),(.int .u8 0),(.int .i64 0),(.str []), .nilSlice, .nilSlice,(.int .i64 0),(.int .i64 0),(.int .i64 0),(.int .u8 0),(.int .u8 0),(.int .i64 0),(.str []), .nilSlice, .nilSlice,(.int .i64 0),(.int .i64 0),(.int .i64 0),(.int .u8 0),(.int .u8 0),(.int .i64 0),(.str []), .nilSlice, .nilSlice,(.int .i64 0),(.int .i64 0),(.int .i64 0),(.int .u8 0),(.int .u8 0),(.int .i64 0),(.str []), .nilSlice, .nilSlice,(.int .i64 0),(.int .i64 0),(.int .i64 0),(.int .u8 0),(.int .u8 0),(.int .i64 0),(.str []), .nilSlice, .nilSlice,(.int .i64 0),(.int .i64 0),(.int .i64 0),(.int .u8 0),(.int .u8 0),(.int .i64 0),(.str []), .nilSlice, .nilSlice,(.int .i64 0),(.int .i64 0),(.int .i64 0),(.int .u8 0),(.int .u8 0),(.int .i64 0),(.str []), .nilSlice, .nilSlice,(.int .i64 0),(.int .i64 0),(.int .i64 0),(.int .u8 0),(.int .u8 0),(.int .i64 0),(.str []), .nilSlice, .nilSlice,(.int .i64 0),(.int .i64 0),(.int .i64 0),(.int .u8 0),(.int .u8 0),(.int .i64 0),(.str []), .nilSlice, .nilSlice,(.int .i64 0),(.int .i64 0),(.int .i64 0), .nilSlice,(.str []), .nilSlice,(.bool false)]
def Ay0:DVal:= .agg [(.int .u8 7), .nilSlice,(.int .u8 0),(.int .u8 0),(.int .i64 0),(.str []), .nilSlice, .nilSlice,(.int .i64 0),(.int .i64 0),(.int .i64 0),(.int .u8 0),(.int .u8 0),(.int .i64 0),(.str []), .nilSlice, .nilSlice,(.int .i64 0),(.int .i64 0),(.int .i64 0),(.int .u8 0),(.int .u8 0),(.int .i64 0),(.str []), .nilSlice, .nilSlice,(.int .i64 0),(.int .i64 0),(.int .i64 0),(.int .u8 0),(.int .u8 0),(.int .i64 0),(.str []), .nilSlice, .nilSlice,(.int .i64 0),(.int .i64 0),(.int .i64 0),(.int .u8 0),(.int .u8 0),(.int .i64 0),(.str []), .nilSlice, .nilSlice,(.int .i64 0),(.int .i64 0),(.int .i64 0),(.int .u8 0),(.int .u8 0),(.int .i64 0),(.str []), .nilSlice, .nilSlice,(.int .i64 0),(.int .i64 0),(.int .i64 0),(.int .u8 0),(.int .u8 0),(.int .i64 0),(.str []), .nilSlice, .nilSlice,(.int .i64 0),(.int .i64 0),(.int .i64 0),(.int .u8 0),(.int .u8 0),(.int .i64 0),(.str []), .nilSlice, .nilSlice,(.int .i64 0),(.int .i64 0),(.int .i64 0),(.int .u8 0),(.int .u8 0),(.int .i64 0),(.str []), .nilSlice, .nilSlice,(.int .i64 0),(.int .i64 0),(.int .i64 0), .nilSlice,(.str []), .nilSlice,(.bool true)]
def Ay1:DVal:= .agg [(.int .u8 5), .nilSlice,(.int .u8 0),(.int .u8 0),(.int .i64 0),(.str []), .nilSlice, .nilSlice,(.int .i64 0),(.int .i64 0),(.int .i64 0),(.int .u8 0),(.int .u8 0),(.int .i64 0),(.str []), .nilSlice, .nilSlice,(.int .i64 0),(.int .i64 0),(.int .i64 0),(.int .u8 0),(.int .u8 0),(.int .i64 0),(.str []), .nilSlice, .nilSlice,(.int .i64 0),(.int .i64 0),(.int .i64 0),(.int .u8 0),(.int .u8 0),(.int .i64 0),(.str []), .nilSlice, .nilSlice,(.int .i64 0),(.int .i64 0),(.int .i64 0),(.int .u8 0),(.int .u8 0),(.int .i64 0),(.str []), .nilSlice, .nilSlice,(.int .i64 0),(.int .i64 0),(.int .i64 0),(.int .u8 0),(.int .u8 0),(.int .i64 0),(.str []), .nilSlice, .nilSlice,(.int .i64 0),(.int .i64 0),(.int .i64 0),(.int .u8 0),(.int .u8 0),(.int .i64 0),(.str []), .nilSlice, .nilSlice,(.int .i64 0),(.int .i64 0),(.int .i64 0),(.int .u8 0),(.int .u8 0),(.int .i64 0),(.str []), .nilSlice, .nilSlice,(.int .i64 0),(.int .i64 0),(.int .i64 0),(.int .u8 0),(.int .u8 0),(.int .i64 0),(.str []), .nilSlice, .nilSlice,(.int .i64 0),(.int .i64 0),(.int .i64 0), .nilSlice,(.str []), .nilSlice,(.bool false)]
def Ay2:DVal:= .agg [(.int .u8 5), .nilSlice,(.int .u8 0),(.int .u8 0),(.int .i64 0),(.str []), .nilSlice, .nilSlice,(.int .i64 0),(.int .i64 0),(.int .i64 0),(.int .u8 0),(.int .u8 0),(.int .i64 0),(.str []), .nilSlice, .nilSlice,(.int .i64 0),(.int .i64 0),(.int .i64 0),(.int .u8 0),(.int .u8 0),(.int .i64 0),(.str []), .nilSlice, .nilSlice,(.int .i64 0),(.int .i64 0),(.int .i64 0),(.int .u8 0),(.int .u8 0),(.int .i64 0),(.str []), .nilSlice, .nilSlice,(.int .i64 0),(.int .i64 0),(.int .i64 0),(.int .u8 0),(.int .u8 0),(.int .i64 0),(.str []), .nilSlice, .nilSlice,(.int .i64 0),(.int .i64 0),(.int .i64 0),(.int .u8 0),(.int .u8 0),(.int .i64 0),(.str []), .nilSlice, .nilSlice,(.int .i64 0),(.int .i64 0),(.int .i64 0),(.int .u8 0),(.int .u8 0),(.int .i64 0),(.str []), .nilSlice, .nilSlice,(.int .i64 0),(.int .i64 0),(.int .i64 0),(.int .u8 0),(.int .u8 0),(.int .i64 0),(.str []), .nilSlice, .nilSlice,(.int .i64 0),(.int .i64 0),(.int .i64 0),(.int .u8 0),(.int .u8 0),(.int .i64 0),(.str []), .nilSlice, .nilSlice,(.int .i64 0),(.int .i64 0),(.int .i64 0),(.vslice [(.vslice [(.str [65])] 1),(.int .u8 3),(.int .u8 0),(.int .i64 0),(.str [84]), .nilSlice, .nilSlice,(.int .i64 1),(.int .i64 0),(.int .i64 0),(.int .u8 0),(.int .u8 0),(.int .i64 0),(.str []), .nilSlice, .nilSlice,(.int .i64 0),(.int .i64 0),(.int .i64 0),(.int .u8 0),(.int .u8 0),(.int .i64 0),(.str []), .nilSlice, .nilSlice,(.int .i64 0),(.int .i64 0),(.int .i64 0),(.int .u8 0),(.int .u8 0),(.int .i64 0),(.str []), .nilSlice, .nilSlice,(.int .i64 0),(.int .i64 0),(.int .i64 0),(.int .u8 0),(.int .u8 0),(.int .i64 0),(.str []), .nilSlice, .nilSlice,(.int .i64 0),(.int .i64 0),(.int .i64 0),(.int .i64 1)] 1),(.str [68]),(.vslice [(.vslice [(.int .u8 1),(.vslice [(.int .u8 1),(.int .u8 0),(.int .i64 1),(.str []), .nilSlice, .nilSlice,(.int .i64 1),(.int .i64 0),(.int .i64 0)] 1)] 1), .nilSlice] 1),(.bool false)]
def Ay3:DVal:= .vslice [(.int .i64 0),(.vslice [(.int .u8 4),(.int .i64 0),(.str [40]),(.int .i64 0),(.int .u8 1),(.int .i64 0),(.str [82,101,100]),(.int .i64 0),(.int .u8 4),(.int .i64 0),(.str [44]),(.int .i64 0),(.int .u8 1),(.int .i64 0),(.str [71,114,101,101,110]),(.int .i64 0),(.int .u8 4),(.int .i64 0),(.str [41]),(.int .i64 0)] 5)] 1
def Ay4:DVal:= .vslice [(.int .i64 0),(.vslice [(.int .u8 2),(.int .i64 0),(.str [108,105,109,105,116,101,100]),(.int .i64 0),(.int .u8 2),(.int .i64 0),(.str [112,114,105,118,97,116,101]),(.int .i64 0)] 2)] 1
def Ay5:DVal:= .vslice [(.int .i64 0),(.vslice [(.int .u8 2),(.int .i64 0),(.str [110,117,108,108]),(.int .i64 0),(.int .u8 2),(.int .i64 0),(.str [114,101,99,111,114,100]),(.int .i64 0)] 2)] 1
def Ay6:DVal:= .vslice [(.int .i64 0),(.vslice [(.int .u8 2),(.int .i64 0),(.str [114,101,99,111,114,100]),(.int .i64 0)] 1),(.int .i64 1),(.vslice [(.int .u8 1),(.int .i64 0),(.str [65]),(.int .i64 0),(.int .u8 4),(.int .i64 0),(.str [58]),(.int .i64 0),(.int .u8 1),(.int .i64 0),(.str [84]),(.int .i64 0),(.int .u8 4),(.int .i64 0),(.str [59]),(.int .i64 0)] 4),(.int .i64 1),(.vslice [(.int .u8 2),(.int .i64 0),(.str [99,97,115,101]),(.int .i64 0),(.int .u8 1),(.int .i64 0),(.str [68]),(.int .i64 0),(.int .u8 2),(.int .i64 0),(.str [105,115]),(.int .i64 0)] 3),(.int .i64 2),(.vslice [(.int .u8 2),(.int .i64 0),(.str [119,104,101,110]),(.int .i64 0),(.int .u8 3),(.int .i64 0),(.str []),(.int .i64 1),(.int .u8 4),(.int .i64 0),(.str [61,62]),(.int .i64 0)] 3),(.int .i64 3),(.vslice [(.int .u8 2),(.int .i64 0),(.str [110,117,108,108]),(.int .i64 0),(.int .u8 4),(.int .i64 0),(.str [59]),(.int .i64 0)] 2),(.int .i64 1),(.vslice [(.int .u8 2),(.int .i64 0),(.str [101,110,100]),(.int .i64 0),(.int .u8 2),(.int .i64 0),(.str [99,97,115,101]),(.int .i64 0),(.int .u8 4),(.int .i64 0),(.str [59]),(.int .i64 0)] 3),(.int .i64 0),(.vslice [(.int .u8 2),(.int .i64 0),(.str [101,110,100]),(.int .i64 0),(.int .u8 2),(.int .i64 0),(.str [114,101,99,111,114,100]),(.int .i64 0)] 2)] 7
noncomputable def mq0:XP:=xpM []
def Bo9:List (FuncId×List DVal×DVal):= [(217,[], .vslice [(.str [97,98,111,114,116]),(.str [97,98,115]),(.str [97,99,99,101,112,116]),(.str [97,99,99,101,115,115]),(.str [97,108,105,97,115,101,100]),(.str [97,108,108]),(.str [97,110,100]),(.str [97,114,114,97,121]),(.str [98,101,103,105,110]),(.str [98,111,100,121]),(.str [99,97,115,101]),(.str [99,111,110,115,116,97,110,116]),(.str [100,101,99,108,97,114,101]),(.str [100,101,108,97,121]),(.str [100,111]),(.str [101,108,115,101]),(.str [101,108,115,105,102]),(.str [101,110,100]),(.str [101,110,116,114,121]),(.str [101,120,99,101,112,116,105,111,110]),(.str [101,120,105,116]),(.str [102,111,114]),(.str [102,117,110,99,116,105,111,110]),(.str [103,101,110,101,114,105,99]),(.str [105,102]),(.str [105,110]),(.str [105,115]),(.str [108,105,109,105,116,101,100]),(.str [108,111,111,112]),(.str [109,111,100]),(.str [110,101,119]),(.str [110,111,116]),(.str [110,117,108,108]),(.str [111,102]),(.str [111,114]),(.str [111,116,104,101,114,115]),(.str [111,117,116]),(.str [112,97,99,107,97,103,101]),(.str [112,114,97,103,109,97]),(.str [112,114,105,118,97,116,101]),(.str [112,114,111,99,101,100,117,114,101]),(.str [112,114,111,116,101,99,116,101,100]),(.str [114,97,105,115,101]),(.str [114,97,110,103,101]),(.str [114,101,99,111,114,100]),(.str [114,101,109]),(.str [114,101,110,97,109,101,115]),(.str [114,101,113,117,101,117,101]),(.str [114,101,116,117,114,110]),(.str [114,101,118,101,114,115,101]),(.str [115,101,108,101,99,116]),(.str [115,101,112,97,114,97,116,101]),(.str [115,117,98,116,121,112,101]),(.str [116,97,115,107]),(.str [116,101,114,109,105,110,97,116,101]),(.str [116,104,101,110]),(.str [116,121,112,101]),(.str [117,110,116,105,108]),(.str [117,115,101]),(.str [119,104,101,110]),(.str [119,104,105,108,101]),(.str [119,105,116,104]),(.str [120,111,114])] 63)]
theorem Bu2:Ak mq0 3000 Bo9=true:=by kernel_rfl
noncomputable def mq1:XP:=mq0.more Bo9
theorem Bu3 {G:Nat->DVal} (h:XOk mq0 G):XOk mq1 G:=h.more Bu2
def Bp0:List (FuncId×List DVal×DVal):= [(157,[.str [40]], .bool false),
(157,[.str [41]], .bool false),
(157,[.str [44]], .bool false),
(157,[.str [124]], .bool false),
(157,[.str [61,62]], .bool false),
(157,[.str [46,46]], .bool false),
(157,[.str [46]], .bool false),
(157,[.str [39]], .bool false),
(157,[.str [110,111,116]], .bool true),
(157,[.str [105,110]], .bool true),
(157,[.str [97,110,100]], .bool true),
(157,[.str [111,114]], .bool true)]
theorem Bu4:Ak mq1 3000 Bp0=true:=by kernel_rfl
noncomputable def mq2:XP:=mq1.more Bp0
theorem Bu5 {G:Nat->DVal} (h:XOk mq1 G):XOk mq2 G:=h.more Bu4
def Bp1:List (FuncId×List DVal×DVal):= [(157,[.str [120,111,114]], .bool true),
(157,[.str [116,104,101,110]], .bool true),
(157,[.str [101,108,115,101]], .bool true),
(157,[.str [109,111,100]], .bool true),
(157,[.str [114,101,109]], .bool true),
(157,[.str [97,98,115]], .bool true),
(157,[.str [43]], .bool false),
(157,[.str [45]], .bool false),
(157,[.str [38]], .bool false),
(157,[.str [42]], .bool false),
(157,[.str [47]], .bool false),
(157,[.str [42,42]], .bool false)]
theorem Bu6:Ak mq2 3000 Bp1=true:=by kernel_rfl
noncomputable def mq3:XP:=mq2.more Bp1
theorem Bu7 {G:Nat->DVal} (h:XOk mq2 G):XOk mq3 G:=h.more Bu6
def Bp2:List (FuncId×List DVal×DVal):= [(157,[.str [61]], .bool false),
(157,[.str [47,61]], .bool false),
(157,[.str [60]], .bool false),
(157,[.str [60,61]], .bool false),
(157,[.str [62]], .bool false),
(157,[.str [62,61]], .bool false),
(157,[.str [110,117,108,108]], .bool true),
(157,[.str [110,101,119]], .bool true),
(157,[.str [111,116,104,101,114,115]], .bool true),
(157,[.str [97,108,108]], .bool true),
(157,[.str [114,97,110,103,101]], .bool true),
(157,[.str [97,114,114,97,121]], .bool true)]
theorem Bu8:Ak mq3 3000 Bp2=true:=by kernel_rfl
noncomputable def mq4:XP:=mq3.more Bp2
theorem Bu9 {G:Nat->DVal} (h:XOk mq3 G):XOk mq4 G:=h.more Bu8
def Bp3:List (FuncId×List DVal×DVal):= [(157,[.str [114,101,99,111,114,100]], .bool true),
(157,[.str [97,99,99,101,115,115]], .bool true),
(157,[.str [112,114,105,118,97,116,101]], .bool true),
(157,[.str [108,105,109,105,116,101,100]], .bool true),
(157,[.str [58]], .bool false),
(157,[.str [58,61]], .bool false),
(157,[.str [111,117,116]], .bool true),
(157,[.str [59]], .bool false),
(157,[.str [99,97,115,101]], .bool true),
(157,[.str [105,115]], .bool true),
(157,[.str [119,104,101,110]], .bool true),
(157,[.str [111,102]], .bool true)]
theorem Bv0:Ak mq4 3000 Bp3=true:=by kernel_rfl
noncomputable def mq5:XP:=mq4.more Bp3
theorem Bv1 {G:Nat->DVal} (h:XOk mq4 G):XOk mq5 G:=h.more Bv0
def Bp4:List (FuncId×List DVal×DVal):= [(157,[.str [101,110,100]], .bool true)]
theorem Bv2:Ak mq5 3000 Bp4=true:=by kernel_rfl
noncomputable def mq6:XP:=mq5.more Bp4
theorem Bv3 {G:Nat->DVal} (h:XOk mq5 G):XOk mq6 G:=h.more Bv2
def Bp5:List (FuncId×List DVal×DVal):= [(9,[.str [40,82,101,100,44,32,71,114,101,101,110,41,59]],Ah6),
(9,[.str [108,105,109,105,116,101,100,32,112,114,105,118,97,116,101,59]],Ah7),
(9,[.str [110,117,108,108,32,114,101,99,111,114,100]],Ah8)]
theorem Bv4:Ak mq6 3000 Bp5=true:=by kernel_rfl
noncomputable def mq7:XP:=mq6.more Bp5
theorem Bv5 {G:Nat->DVal} (h:XOk mq6 G):XOk mq7 G:=h.more Bv4
def Bp6:List (FuncId×List DVal×DVal):= [(9,[.str [114,101,99,111,114,100,32,65,32,58,32,84,59,32,99,97,115,101,32,68,32,105,115,32,119,104,101,110,32,49,32,61,62,32,110,117,108,108,59,32,101,110,100,32,99,97,115,101,59,32,101,110,100,32,114,101,99,111,114,100,59]],Ah9),
(9,[.str [73,110,116,101,103,101,114,32,114,97,110,103,101,32,49,32,46,46,32,49,48]],Ai0),
(9,[.str [84,32,114,97,110,103,101,32,49,32,46,46,32,78,41]],Ai1)]
theorem Bv6:Ak mq7 3000 Bp6=true:=by kernel_rfl
noncomputable def mq8:XP:=mq7.more Bp6
theorem Bv7 {G:Nat->DVal} (h:XOk mq7 G):XOk mq8 G:=h.more Bv6
def Bp7:List (FuncId×List DVal×DVal):= [(9,[.str [84,32,40,49,41]],Ai2),
(9,[.str [65,32,58,32,105,110,32,111,117,116,32,84,59,32,66,44,32,67,32,58,32,84,32,58,61,32,49,41]],Ai3),
(9,[.str [65,32,58,32,105,110,32,111,117,116,32,84]], .vslice [(.int .u8 1),(.int .i64 1),(.str [65]),(.int .i64 0),(.int .u8 4),(.int .i64 1),(.str [58]),(.int .i64 0),(.int .u8 2),(.int .i64 1),(.str [105,110]),(.int .i64 0),(.int .u8 2),(.int .i64 1),(.str [111,117,116]),(.int .i64 0),(.int .u8 1),(.int .i64 1),(.str [84]),(.int .i64 0)] 5)]
theorem Bv8:Ak mq8 3000 Bp7=true:=by kernel_rfl
noncomputable def mq9:XP:=mq8.more Bp7
theorem Bv9 {G:Nat->DVal} (h:XOk mq8 G):XOk mq9 G:=h.more Bv8
def Bg6:List (FuncId×List DVal×DVal):= [(135,[Ah6], .tuple [(.agg [(.int .u8 1),(.vslice [(.str [82,101,100]),(.str [71,114,101,101,110])] 2),(.int .u8 0),(.int .u8 0),(.int .i64 0),(.str []), .nilSlice, .nilSlice,(.int .i64 0),(.int .i64 0),(.int .i64 0),(.int .u8 0),(.int .u8 0),(.int .i64 0),(.str []), .nilSlice, .nilSlice,(.int .i64 0),(.int .i64 0),(.int .i64 0),(.int .u8 0),(.int .u8 0),(.int .i64 0),(.str []), .nilSlice, .nilSlice,(.int .i64 0),(.int .i64 0),(.int .i64 0),(.int .u8 0),(.int .u8 0),(.int .i64 0),(.str []), .nilSlice, .nilSlice,(.int .i64 0),(.int .i64 0),(.int .i64 0),(.int .u8 0),(.int .u8 0),(.int .i64 0),(.str []), .nilSlice, .nilSlice,(.int .i64 0),(.int .i64 0),(.int .i64 0),(.int .u8 0),(.int .u8 0),(.int .i64 0),(.str []), .nilSlice, .nilSlice,(.int .i64 0),(.int .i64 0),(.int .i64 0),(.int .u8 0),(.int .u8 0),(.int .i64 0),(.str []), .nilSlice, .nilSlice,(.int .i64 0),(.int .i64 0),(.int .i64 0),(.int .u8 0),(.int .u8 0),(.int .i64 0),(.str []), .nilSlice, .nilSlice,(.int .i64 0),(.int .i64 0),(.int .i64 0),(.int .u8 0),(.int .u8 0),(.int .i64 0),(.str []), .nilSlice, .nilSlice,(.int .i64 0),(.int .i64 0),(.int .i64 0), .nilSlice,(.str []), .nilSlice,(.bool false)]),(.int .i64 5),(.int .i64 0)])]
theorem Bp8:Ak mq9 3000 Bg6=true:=by kernel_rfl
noncomputable def Bl3:XP:=mq9.more Bg6
theorem Bp9 {G:Nat->DVal} (h:XOk mq9 G):XOk Bl3 G:=h.more Bp8
def Bg7:List (FuncId×List DVal×DVal):= [(135,[Ah7], .tuple [(.agg [(.int .u8 7), .nilSlice,(.int .u8 0),(.int .u8 0),(.int .i64 0),(.str []), .nilSlice, .nilSlice,(.int .i64 0),(.int .i64 0),(.int .i64 0),(.int .u8 0),(.int .u8 0),(.int .i64 0),(.str []), .nilSlice, .nilSlice,(.int .i64 0),(.int .i64 0),(.int .i64 0),(.int .u8 0),(.int .u8 0),(.int .i64 0),(.str []), .nilSlice, .nilSlice,(.int .i64 0),(.int .i64 0),(.int .i64 0),(.int .u8 0),(.int .u8 0),(.int .i64 0),(.str []), .nilSlice, .nilSlice,(.int .i64 0),(.int .i64 0),(.int .i64 0),(.int .u8 0),(.int .u8 0),(.int .i64 0),(.str []), .nilSlice, .nilSlice,(.int .i64 0),(.int .i64 0),(.int .i64 0),(.int .u8 0),(.int .u8 0),(.int .i64 0),(.str []), .nilSlice, .nilSlice,(.int .i64 0),(.int .i64 0),(.int .i64 0),(.int .u8 0),(.int .u8 0),(.int .i64 0),(.str []), .nilSlice, .nilSlice,(.int .i64 0),(.int .i64 0),(.int .i64 0),(.int .u8 0),(.int .u8 0),(.int .i64 0),(.str []), .nilSlice, .nilSlice,(.int .i64 0),(.int .i64 0),(.int .i64 0),(.int .u8 0),(.int .u8 0),(.int .i64 0),(.str []), .nilSlice, .nilSlice,(.int .i64 0),(.int .i64 0),(.int .i64 0), .nilSlice,(.str []), .nilSlice,(.bool true)]),(.int .i64 2),(.int .i64 0)])]
theorem Bq0:Ak Bl3 3000 Bg7=true:=by kernel_rfl
noncomputable def Bl4:XP:=Bl3.more Bg7
theorem Bq1 {G:Nat->DVal} (h:XOk Bl3 G):XOk Bl4 G:=h.more Bq0
def Bg8:List (FuncId×List DVal×DVal):= [(135,[Ah8], .tuple [(.agg [(.int .u8 5), .nilSlice,(.int .u8 0),(.int .u8 0),(.int .i64 0),(.str []), .nilSlice, .nilSlice,(.int .i64 0),(.int .i64 0),(.int .i64 0),(.int .u8 0),(.int .u8 0),(.int .i64 0),(.str []), .nilSlice, .nilSlice,(.int .i64 0),(.int .i64 0),(.int .i64 0),(.int .u8 0),(.int .u8 0),(.int .i64 0),(.str []), .nilSlice, .nilSlice,(.int .i64 0),(.int .i64 0),(.int .i64 0),(.int .u8 0),(.int .u8 0),(.int .i64 0),(.str []), .nilSlice, .nilSlice,(.int .i64 0),(.int .i64 0),(.int .i64 0),(.int .u8 0),(.int .u8 0),(.int .i64 0),(.str []), .nilSlice, .nilSlice,(.int .i64 0),(.int .i64 0),(.int .i64 0),(.int .u8 0),(.int .u8 0),(.int .i64 0),(.str []), .nilSlice, .nilSlice,(.int .i64 0),(.int .i64 0),(.int .i64 0),(.int .u8 0),(.int .u8 0),(.int .i64 0),(.str []), .nilSlice, .nilSlice,(.int .i64 0),(.int .i64 0),(.int .i64 0),(.int .u8 0),(.int .u8 0),(.int .i64 0),(.str []), .nilSlice, .nilSlice,(.int .i64 0),(.int .i64 0),(.int .i64 0),(.int .u8 0),(.int .u8 0),(.int .i64 0),(.str []), .nilSlice, .nilSlice,(.int .i64 0),(.int .i64 0),(.int .i64 0), .nilSlice,(.str []), .nilSlice,(.bool false)]),(.int .i64 2),(.int .i64 0)])]
theorem Bq2:Ak Bl4 3000 Bg8=true:=by kernel_rfl
noncomputable def Bl5:XP:=Bl4.more Bg8
theorem Bq3 {G:Nat->DVal} (h:XOk Bl4 G):XOk Bl5 G:=h.more Bq2
def Bg9:List (FuncId×List DVal×DVal):= [(135,[Ah9], .tuple [(.agg [(.int .u8 5), .nilSlice,(.int .u8 0),(.int .u8 0),(.int .i64 0),(.str []), .nilSlice, .nilSlice,(.int .i64 0),(.int .i64 0),(.int .i64 0),(.int .u8 0),(.int .u8 0),(.int .i64 0),(.str []), .nilSlice, .nilSlice,(.int .i64 0),(.int .i64 0),(.int .i64 0),(.int .u8 0),(.int .u8 0),(.int .i64 0),(.str []), .nilSlice, .nilSlice,(.int .i64 0),(.int .i64 0),(.int .i64 0),(.int .u8 0),(.int .u8 0),(.int .i64 0),(.str []), .nilSlice, .nilSlice,(.int .i64 0),(.int .i64 0),(.int .i64 0),(.int .u8 0),(.int .u8 0),(.int .i64 0),(.str []), .nilSlice, .nilSlice,(.int .i64 0),(.int .i64 0),(.int .i64 0),(.int .u8 0),(.int .u8 0),(.int .i64 0),(.str []), .nilSlice, .nilSlice,(.int .i64 0),(.int .i64 0),(.int .i64 0),(.int .u8 0),(.int .u8 0),(.int .i64 0),(.str []), .nilSlice, .nilSlice,(.int .i64 0),(.int .i64 0),(.int .i64 0),(.int .u8 0),(.int .u8 0),(.int .i64 0),(.str []), .nilSlice, .nilSlice,(.int .i64 0),(.int .i64 0),(.int .i64 0),(.int .u8 0),(.int .u8 0),(.int .i64 0),(.str []), .nilSlice, .nilSlice,(.int .i64 0),(.int .i64 0),(.int .i64 0),(.vslice [(.vslice [(.str [65])] 1),(.int .u8 3),(.int .u8 0),(.int .i64 0),(.str [84]), .nilSlice, .nilSlice,(.int .i64 1),(.int .i64 0),(.int .i64 0),(.int .u8 0),(.int .u8 0),(.int .i64 0),(.str []), .nilSlice, .nilSlice,(.int .i64 0),(.int .i64 0),(.int .i64 0),(.int .u8 0),(.int .u8 0),(.int .i64 0),(.str []), .nilSlice, .nilSlice,(.int .i64 0),(.int .i64 0),(.int .i64 0),(.int .u8 0),(.int .u8 0),(.int .i64 0),(.str []), .nilSlice, .nilSlice,(.int .i64 0),(.int .i64 0),(.int .i64 0),(.int .u8 0),(.int .u8 0),(.int .i64 0),(.str []), .nilSlice, .nilSlice,(.int .i64 0),(.int .i64 0),(.int .i64 0),(.int .i64 1)] 1),(.str [68]),(.vslice [(.vslice [(.int .u8 1),(.vslice [(.int .u8 1),(.int .u8 0),(.int .i64 1),(.str []), .nilSlice, .nilSlice,(.int .i64 1),(.int .i64 0),(.int .i64 0)] 1)] 1), .nilSlice] 1),(.bool false)]),(.int .i64 18),(.int .i64 0)])]
theorem Bq4:Ak Bl5 3000 Bg9=true:=by kernel_rfl
noncomputable def Bl6:XP:=Bl5.more Bg9
theorem Bq5 {G:Nat->DVal} (h:XOk Bl5 G):XOk Bl6 G:=h.more Bq4
def Bh0:List (FuncId×List DVal×DVal):= [(60,[Ai0], .tuple [(.agg [(.int .u8 3),(.int .u8 0),(.int .i64 0),(.str [73,110,116,101,103,101,114]), .nilSlice, .nilSlice,(.int .i64 1),(.int .i64 0),(.int .i64 0),(.int .u8 1),(.int .u8 0),(.int .i64 1),(.str []), .nilSlice, .nilSlice,(.int .i64 1),(.int .i64 0),(.int .i64 0),(.int .u8 1),(.int .u8 0),(.int .i64 10),(.str []), .nilSlice, .nilSlice,(.int .i64 1),(.int .i64 0),(.int .i64 0),(.int .u8 0),(.int .u8 0),(.int .i64 0),(.str []), .nilSlice, .nilSlice,(.int .i64 0),(.int .i64 0),(.int .i64 0)]),(.int .i64 5),(.int .i64 0)])]
theorem Bq6:Ak Bl6 3000 Bh0=true:=by kernel_rfl
noncomputable def Bl7:XP:=Bl6.more Bh0
theorem Bq7 {G:Nat->DVal} (h:XOk Bl6 G):XOk Bl7 G:=h.more Bq6
def Bh1:List (FuncId×List DVal×DVal):= [(61,[Ai1], .tuple [(.agg [(.int .u8 3),(.int .u8 0),(.int .i64 0),(.str [84]), .nilSlice, .nilSlice,(.int .i64 1),(.int .i64 0),(.int .i64 0),(.int .u8 1),(.int .u8 0),(.int .i64 1),(.str []), .nilSlice, .nilSlice,(.int .i64 1),(.int .i64 0),(.int .i64 0),(.int .u8 3),(.int .u8 0),(.int .i64 0),(.str [78]), .nilSlice, .nilSlice,(.int .i64 1),(.int .i64 0),(.int .i64 0)]),(.int .i64 5),(.int .i64 0)])]
theorem Bq8:Ak Bl7 3000 Bh1=true:=by kernel_rfl
noncomputable def Bl8:XP:=Bl7.more Bh1
theorem Bq9 {G:Nat->DVal} (h:XOk Bl7 G):XOk Bl8 G:=h.more Bq8
def Bh2:List (FuncId×List DVal×DVal):= [(61,[Ai2], .tuple [(.agg [(.int .u8 0),(.int .u8 0),(.int .i64 0),(.str []), .nilSlice, .nilSlice,(.int .i64 0),(.int .i64 0),(.int .i64 0),(.int .u8 0),(.int .u8 0),(.int .i64 0),(.str []), .nilSlice, .nilSlice,(.int .i64 0),(.int .i64 0),(.int .i64 0),(.int .u8 0),(.int .u8 0),(.int .i64 0),(.str []), .nilSlice, .nilSlice,(.int .i64 0),(.int .i64 0),(.int .i64 0)]),(.int .i64 4),(.int .i64 40)])]
theorem Br0:Ak Bl8 3000 Bh2=true:=by kernel_rfl
noncomputable def Bl9:XP:=Bl8.more Bh2
theorem Br1 {G:Nat->DVal} (h:XOk Bl8 G):XOk Bl9 G:=h.more Br0
def Bh3:List (FuncId×List DVal×DVal):= [(10,[Ai3], .tuple [(.vslice [(.vslice [(.str [65])] 1),(.int .u8 3),(.int .u8 3),(.int .u8 0),(.int .i64 0),(.str [84]), .nilSlice, .nilSlice,(.int .i64 1),(.int .i64 0),(.int .i64 0),(.int .u8 0),(.int .u8 0),(.int .i64 0),(.str []), .nilSlice, .nilSlice,(.int .i64 0),(.int .i64 0),(.int .i64 0),(.int .i64 1),(.vslice [(.str [66]),(.str [67])] 2),(.int .u8 1),(.int .u8 3),(.int .u8 0),(.int .i64 0),(.str [84]), .nilSlice, .nilSlice,(.int .i64 1),(.int .i64 0),(.int .i64 0),(.int .u8 1),(.int .u8 0),(.int .i64 1),(.str []), .nilSlice, .nilSlice,(.int .i64 1),(.int .i64 0),(.int .i64 0),(.int .i64 1)] 2),(.int .i64 13),(.int .i64 0)])]
theorem Br2:Ak Bl9 3000 Bh3=true:=by kernel_rfl
noncomputable def Bm0:XP:=Bl9.more Bh3
theorem Br3 {G:Nat->DVal} (h:XOk Bl9 G):XOk Bm0 G:=h.more Br2
def Bh4:List (FuncId×List DVal×DVal):= [(49,[Ax9, .int .i64 0], .tuple [(.vslice [(.int .i64 0),(.vslice [(.int .u8 4),(.int .i64 0),(.str [40]),(.int .i64 0),(.int .u8 1),(.int .i64 0),(.str [82,101,100]),(.int .i64 0),(.int .u8 4),(.int .i64 0),(.str [44]),(.int .i64 0),(.int .u8 1),(.int .i64 0),(.str [71,114,101,101,110]),(.int .i64 0),(.int .u8 4),(.int .i64 0),(.str [41]),(.int .i64 0)] 5)] 1),(.int .i64 0)]),
(49,[Ay0, .int .i64 0], .tuple [(.vslice [(.int .i64 0),(.vslice [(.int .u8 2),(.int .i64 0),(.str [108,105,109,105,116,101,100]),(.int .i64 0),(.int .u8 2),(.int .i64 0),(.str [112,114,105,118,97,116,101]),(.int .i64 0)] 2)] 1),(.int .i64 0)])]
theorem Br4:Ak Bm0 3000 Bh4=true:=by kernel_rfl
noncomputable def Bm1:XP:=Bm0.more Bh4
theorem Br5 {G:Nat->DVal} (h:XOk Bm0 G):XOk Bm1 G:=h.more Br4
def Bh5:List (FuncId×List DVal×DVal):= [(49,[Ay1, .int .i64 0], .tuple [(.vslice [(.int .i64 0),(.vslice [(.int .u8 2),(.int .i64 0),(.str [110,117,108,108]),(.int .i64 0),(.int .u8 2),(.int .i64 0),(.str [114,101,99,111,114,100]),(.int .i64 0)] 2)] 1),(.int .i64 0)]),
(49,[Ay2, .int .i64 0], .tuple [(.vslice [(.int .i64 0),(.vslice [(.int .u8 2),(.int .i64 0),(.str [114,101,99,111,114,100]),(.int .i64 0)] 1),(.int .i64 1),(.vslice [(.int .u8 1),(.int .i64 0),(.str [65]),(.int .i64 0),(.int .u8 4),(.int .i64 0),(.str [58]),(.int .i64 0),(.int .u8 1),(.int .i64 0),(.str [84]),(.int .i64 0),(.int .u8 4),(.int .i64 0),(.str [59]),(.int .i64 0)] 4),(.int .i64 1),(.vslice [(.int .u8 2),(.int .i64 0),(.str [99,97,115,101]),(.int .i64 0),(.int .u8 1),(.int .i64 0),(.str [68]),(.int .i64 0),(.int .u8 2),(.int .i64 0),(.str [105,115]),(.int .i64 0)] 3),(.int .i64 2),(.vslice [(.int .u8 2),(.int .i64 0),(.str [119,104,101,110]),(.int .i64 0),(.int .u8 3),(.int .i64 0),(.str []),(.int .i64 1),(.int .u8 4),(.int .i64 0),(.str [61,62]),(.int .i64 0)] 3),(.int .i64 3),(.vslice [(.int .u8 2),(.int .i64 0),(.str [110,117,108,108]),(.int .i64 0),(.int .u8 4),(.int .i64 0),(.str [59]),(.int .i64 0)] 2),(.int .i64 1),(.vslice [(.int .u8 2),(.int .i64 0),(.str [101,110,100]),(.int .i64 0),(.int .u8 2),(.int .i64 0),(.str [99,97,115,101]),(.int .i64 0),(.int .u8 4),(.int .i64 0),(.str [59]),(.int .i64 0)] 3),(.int .i64 0),(.vslice [(.int .u8 2),(.int .i64 0),(.str [101,110,100]),(.int .i64 0),(.int .u8 2),(.int .i64 0),(.str [114,101,99,111,114,100]),(.int .i64 0)] 2)] 7),(.int .i64 0)])]
theorem Br6:Ak Bm1 3000 Bh5=true:=by kernel_rfl
noncomputable def Bm2:XP:=Bm1.more Bh5
theorem Br7 {G:Nat->DVal} (h:XOk Bm1 G):XOk Bm2 G:=h.more Br6
def Bh6:List (FuncId×List DVal×DVal):= [(136,[Ay3], .tuple [(.str [40,82,101,100,44,32,71,114,101,101,110,41,10]),(.int .i64 0)]),
(136,[Ay4], .tuple [(.str [108,105,109,105,116,101,100,32,112,114,105,118,97,116,101,10]),(.int .i64 0)])]
theorem Br8:Ak Bm2 3000 Bh6=true:=by kernel_rfl
noncomputable def Bm3:XP:=Bm2.more Bh6
theorem Br9 {G:Nat->DVal} (h:XOk Bm2 G):XOk Bm3 G:=h.more Br8
def Bh7:List (FuncId×List DVal×DVal):= [(136,[Ay5], .tuple [(.str [110,117,108,108,32,114,101,99,111,114,100,10]),(.int .i64 0)]),
(136,[Ay6], .tuple [(.str [114,101,99,111,114,100,10,32,32,65,32,58,32,84,59,10,32,32,99,97,115,101,32,68,32,105,115,10,32,32,32,32,119,104,101,110,32,49,32,61,62,10,32,32,32,32,32,32,110,117,108,108,59,10,32,32,101,110,100,32,99,97,115,101,59,10,101,110,100,32,114,101,99,111,114,100,10]),(.int .i64 0)])]
theorem Bs0:Ak Bm3 3000 Bh7=true:=by kernel_rfl
noncomputable def Bm4:XP:=Bm3.more Bh7
theorem Bs1 {G:Nat->DVal} (h:XOk Bm3 G):XOk Bm4 G:=h.more Bs0
def Bh8:List (FuncId×List DVal×DVal):= [(59,[.str [40,82,101,100,44,32,71,114,101,101,110,41,59], .int .i64 5, .int .u8 1, .str [40,82,101,100,44,32,71,114,101,101,110,41,10]], .bool true),
(59,[.str [108,105,109,105,116,101,100,32,112,114,105,118,97,116,101,59], .int .i64 2, .int .u8 7, .str [108,105,109,105,116,101,100,32,112,114,105,118,97,116,101,10]], .bool true),
(59,[.str [110,117,108,108,32,114,101,99,111,114,100], .int .i64 2, .int .u8 5, .str [110,117,108,108,32,114,101,99,111,114,100,10]], .bool true),
(59,[.str [114,101,99,111,114,100,32,65,32,58,32,84,59,32,99,97,115,101,32,68,32,105,115,32,119,104,101,110,32,49,32,61,62,32,110,117,108,108,59,32,101,110,100,32,99,97,115,101,59,32,101,110,100,32,114,101,99,111,114,100,59], .int .i64 18, .int .u8 5, .str [114,101,99,111,114,100,10,32,32,65,32,58,32,84,59,10,32,32,99,97,115,101,32,68,32,105,115,10,32,32,32,32,119,104,101,110,32,49,32,61,62,10,32,32,32,32,32,32,110,117,108,108,59,10,32,32,101,110,100,32,99,97,115,101,59,10,101,110,100,32,114,101,99,111,114,100,10]], .bool true)]
theorem Bs2:Ak Bm4 3000 Bh8=true:=by kernel_rfl
noncomputable def Bm5:XP:=Bm4.more Bh8
theorem Bs3 {G:Nat->DVal} (h:XOk Bm4 G):XOk Bm5 G:=h.more Bs2
def Bh9:List (FuncId×List DVal×DVal):= [(11,[], .bool true)]
theorem Bs4:Ak Bm5 3000 Bh9=true:=by kernel_rfl
noncomputable def Be8:XP:=Bm5.more Bh9
theorem Bs5 {G:Nat->DVal} (h:XOk Bm5 G):XOk Be8 G:=h.more Bs4
theorem Nr {G:Nat->DVal} (h:XOk mq0 G):XOk Be8 G:=Bs5 (Bs3 (Bs1 (Br9 (Br7 (Br5 (Br3 (Br1 (Bq9 (Bq7 (Bq5 (Bq3 (Bq1 (Bp9 (Bv9 (Bv7 (Bv5 (Bv3 (Bv1 (Bu9 (Bu7 (Bu5 (Bu3 (h)))))))))))))))))))))))
end Go.Dl

-- Closed calls that the examples need, worked out by the kernel. MADE BY PROGRAM (gen_memo.py).
namespace Go.Dl
open Go Go.Proofs
set_option maxRecDepth 100000
def Ay7:DVal:= .vslice [(.int .u8 1),(.int .i64 1),(.str [65]),(.int .i64 0),(.int .u8 4),(.int .i64 1),(.str [58]),(.int .i64 0),(.int .u8 1),(.int .i64 1),(.str [80]),(.int .i64 0),(.int .u8 4),(.int .i64 1),(.str [46]),(.int .i64 0),(.int .u8 1),(.int .i64 1),(.str [84]),(.int .i64 0)] 5
def Ay8:DVal:= .vslice [(.int .u8 1),(.int .i64 1),(.str [65]),(.int .i64 0),(.int .u8 4),(.int .i64 1),(.str [58]),(.int .i64 0),(.int .u8 1),(.int .i64 1),(.str [80]),(.int .i64 0),(.int .u8 4),(.int .i64 1),(.str [46]),(.int .i64 0),(.int .u8 1),(.int .i64 1),(.str [84]),(.int .i64 0),(.int .u8 4),(.int .i64 1),(.str [58,61]),(.int .i64 0),(.int .u8 3),(.int .i64 1),(.str []),(.int .i64 1)] 7
def Ay9:DVal:= .vslice [(.int .u8 1),(.int .i64 1),(.str [65]),(.int .i64 0),(.int .u8 4),(.int .i64 1),(.str [58]),(.int .i64 0),(.int .u8 2),(.int .i64 1),(.str [111,117,116]),(.int .i64 0),(.int .u8 1),(.int .i64 1),(.str [80]),(.int .i64 0),(.int .u8 4),(.int .i64 1),(.str [46]),(.int .i64 0),(.int .u8 1),(.int .i64 1),(.str [84]),(.int .i64 0)] 6
def Az0:DVal:= .vslice [(.int .u8 1),(.int .i64 1),(.str [65]),(.int .i64 0),(.int .u8 4),(.int .i64 1),(.str [58]),(.int .i64 0),(.int .u8 2),(.int .i64 1),(.str [111,117,116]),(.int .i64 0),(.int .u8 1),(.int .i64 1),(.str [80]),(.int .i64 0),(.int .u8 4),(.int .i64 1),(.str [46]),(.int .i64 0),(.int .u8 1),(.int .i64 1),(.str [84]),(.int .i64 0),(.int .u8 4),(.int .i64 1),(.str [58,61]),(.int .i64 0),(.int .u8 3),(.int .i64 1),(.str []),(.int .i64 1)] 8
def Az1:DVal:= .vslice [(.int .u8 1),(.int .i64 1),(.str [65]),(.int .i64 0),(.int .u8 4),(.int .i64 1),(.str [58]),(.int .i64 0),(.int .u8 2),(.int .i64 1),(.str [105,110]),(.int .i64 0),(.int .u8 1),(.int .i64 1),(.str [80]),(.int .i64 0),(.int .u8 4),(.int .i64 1),(.str [46]),(.int .i64 0),(.int .u8 1),(.int .i64 1),(.str [84]),(.int .i64 0)] 6
def Az2:DVal:= .vslice [(.int .u8 1),(.int .i64 1),(.str [65]),(.int .i64 0),(.int .u8 4),(.int .i64 1),(.str [58]),(.int .i64 0),(.int .u8 2),(.int .i64 1),(.str [105,110]),(.int .i64 0),(.int .u8 1),(.int .i64 1),(.str [80]),(.int .i64 0),(.int .u8 4),(.int .i64 1),(.str [46]),(.int .i64 0),(.int .u8 1),(.int .i64 1),(.str [84]),(.int .i64 0),(.int .u8 4),(.int .i64 1),(.str [58,61]),(.int .i64 0),(.int .u8 3),(.int .i64 1),(.str []),(.int .i64 1)] 8
def Az3:DVal:= .vslice [(.int .u8 1),(.int .i64 1),(.str [65]),(.int .i64 0),(.int .u8 4),(.int .i64 1),(.str [58]),(.int .i64 0),(.int .u8 2),(.int .i64 1),(.str [105,110]),(.int .i64 0),(.int .u8 2),(.int .i64 1),(.str [111,117,116]),(.int .i64 0),(.int .u8 1),(.int .i64 1),(.str [80]),(.int .i64 0),(.int .u8 4),(.int .i64 1),(.str [46]),(.int .i64 0),(.int .u8 1),(.int .i64 1),(.str [84]),(.int .i64 0)] 7
def Az4:DVal:= .vslice [(.int .u8 1),(.int .i64 1),(.str [65]),(.int .i64 0),(.int .u8 4),(.int .i64 1),(.str [58]),(.int .i64 0),(.int .u8 2),(.int .i64 1),(.str [105,110]),(.int .i64 0),(.int .u8 2),(.int .i64 1),(.str [111,117,116]),(.int .i64 0),(.int .u8 1),(.int .i64 1),(.str [80]),(.int .i64 0),(.int .u8 4),(.int .i64 1),(.str [46]),(.int .i64 0),(.int .u8 1),(.int .i64 1),(.str [84]),(.int .i64 0),(.int .u8 4),(.int .i64 1),(.str [58,61]),(.int .i64 0),(.int .u8 3),(.int .i64 1),(.str []),(.int .i64 1)] 9
def Az5:DVal:= .vslice [(.int .u8 1),(.int .i64 1),(.str [65]),(.int .i64 0),(.int .u8 4),(.int .i64 1),(.str [58]),(.int .i64 0),(.int .u8 2),(.int .i64 1),(.str [111,117,116]),(.int .i64 0),(.int .u8 2),(.int .i64 1),(.str [105,110]),(.int .i64 0),(.int .u8 1),(.int .i64 1),(.str [84]),(.int .i64 0)] 5
def Bs6:List (FuncId×List DVal×DVal):= [(9,[.str [65,32,58,32,80,46,84]],Ay7),
(9,[.str [65,32,58,32,80,46,84,32,58,61,32,49]],Ay8),
(9,[.str [65,32,58,32,111,117,116,32,80,46,84]],Ay9)]
theorem Bw0:Ak Be8 3000 Bs6=true:=by kernel_rfl
noncomputable def mw1:XP:=Be8.more Bs6
theorem Yj {G:Nat->DVal} (h:XOk Be8 G):XOk mw1 G:=h.more Bw0
def Bs7:List (FuncId×List DVal×DVal):= [(9,[.str [65,32,58,32,111,117,116,32,80,46,84,32,58,61,32,49]],Az0),
(9,[.str [65,32,58,32,105,110,32,80,46,84]],Az1),
(9,[.str [65,32,58,32,105,110,32,80,46,84,32,58,61,32,49]],Az2)]
theorem Bw1:Ak mw1 3000 Bs7=true:=by kernel_rfl
noncomputable def mw2:XP:=mw1.more Bs7
theorem Yk {G:Nat->DVal} (h:XOk mw1 G):XOk mw2 G:=h.more Bw1
def Bs8:List (FuncId×List DVal×DVal):= [(9,[.str [65,32,58,32,105,110,32,111,117,116,32,80,46,84]],Az3),
(9,[.str [65,32,58,32,105,110,32,111,117,116,32,80,46,84,32,58,61,32,49]],Az4),
(9,[.str [65,32,58,32,111,117,116,32,105,110,32,84]],Az5)]
theorem Bw2:Ak mw2 3000 Bs8=true:=by kernel_rfl
noncomputable def mw3:XP:=mw2.more Bs8
theorem Yl {G:Nat->DVal} (h:XOk mw2 G):XOk mw3 G:=h.more Bw2
def Bs9:List (FuncId×List DVal×DVal):= [(10,[Ay7], .tuple [(.vslice [(.vslice [(.str [65])] 1),(.int .u8 1),(.int .u8 4),(.int .u8 0),(.int .i64 0),(.str [84]),(.vslice [(.int .u8 3),(.int .u8 0),(.int .i64 0),(.str [80]), .nilSlice, .nilSlice,(.int .i64 1),(.int .i64 0),(.int .i64 0)] 1), .nilSlice,(.int .i64 1),(.int .i64 0),(.int .i64 0),(.int .u8 0),(.int .u8 0),(.int .i64 0),(.str []), .nilSlice, .nilSlice,(.int .i64 0),(.int .i64 0),(.int .i64 0),(.int .i64 1)] 1),(.int .i64 5),(.int .i64 0)]),
(10,[Ay8], .tuple [(.vslice [(.vslice [(.str [65])] 1),(.int .u8 1),(.int .u8 4),(.int .u8 0),(.int .i64 0),(.str [84]),(.vslice [(.int .u8 3),(.int .u8 0),(.int .i64 0),(.str [80]), .nilSlice, .nilSlice,(.int .i64 1),(.int .i64 0),(.int .i64 0)] 1), .nilSlice,(.int .i64 1),(.int .i64 0),(.int .i64 0),(.int .u8 1),(.int .u8 0),(.int .i64 1),(.str []), .nilSlice, .nilSlice,(.int .i64 1),(.int .i64 0),(.int .i64 0),(.int .i64 1)] 1),(.int .i64 7),(.int .i64 0)])]
theorem Bw3:Ak mw3 3000 Bs9=true:=by kernel_rfl
noncomputable def mw4:XP:=mw3.more Bs9
theorem Ym {G:Nat->DVal} (h:XOk mw3 G):XOk mw4 G:=h.more Bw3
def Bt0:List (FuncId×List DVal×DVal):= [(10,[Ay9], .tuple [(.vslice [(.vslice [(.str [65])] 1),(.int .u8 2),(.int .u8 4),(.int .u8 0),(.int .i64 0),(.str [84]),(.vslice [(.int .u8 3),(.int .u8 0),(.int .i64 0),(.str [80]), .nilSlice, .nilSlice,(.int .i64 1),(.int .i64 0),(.int .i64 0)] 1), .nilSlice,(.int .i64 1),(.int .i64 0),(.int .i64 0),(.int .u8 0),(.int .u8 0),(.int .i64 0),(.str []), .nilSlice, .nilSlice,(.int .i64 0),(.int .i64 0),(.int .i64 0),(.int .i64 1)] 1),(.int .i64 6),(.int .i64 0)]),
(10,[Az0], .tuple [.nilSlice,(.int .i64 0),(.int .i64 3)])]
theorem Bw4:Ak mw4 3000 Bt0=true:=by kernel_rfl
noncomputable def mw5:XP:=mw4.more Bt0
theorem Yn {G:Nat->DVal} (h:XOk mw4 G):XOk mw5 G:=h.more Bw4
def Bt1:List (FuncId×List DVal×DVal):= [(10,[Az1], .tuple [(.vslice [(.vslice [(.str [65])] 1),(.int .u8 1),(.int .u8 4),(.int .u8 0),(.int .i64 0),(.str [84]),(.vslice [(.int .u8 3),(.int .u8 0),(.int .i64 0),(.str [80]), .nilSlice, .nilSlice,(.int .i64 1),(.int .i64 0),(.int .i64 0)] 1), .nilSlice,(.int .i64 1),(.int .i64 0),(.int .i64 0),(.int .u8 0),(.int .u8 0),(.int .i64 0),(.str []), .nilSlice, .nilSlice,(.int .i64 0),(.int .i64 0),(.int .i64 0),(.int .i64 1)] 1),(.int .i64 6),(.int .i64 0)]),
(10,[Az2], .tuple [(.vslice [(.vslice [(.str [65])] 1),(.int .u8 1),(.int .u8 4),(.int .u8 0),(.int .i64 0),(.str [84]),(.vslice [(.int .u8 3),(.int .u8 0),(.int .i64 0),(.str [80]), .nilSlice, .nilSlice,(.int .i64 1),(.int .i64 0),(.int .i64 0)] 1), .nilSlice,(.int .i64 1),(.int .i64 0),(.int .i64 0),(.int .u8 1),(.int .u8 0),(.int .i64 1),(.str []), .nilSlice, .nilSlice,(.int .i64 1),(.int .i64 0),(.int .i64 0),(.int .i64 1)] 1),(.int .i64 8),(.int .i64 0)])]
theorem Bw5:Ak mw5 3000 Bt1=true:=by kernel_rfl
noncomputable def mw6:XP:=mw5.more Bt1
theorem Yo {G:Nat->DVal} (h:XOk mw5 G):XOk mw6 G:=h.more Bw5
def Bt2:List (FuncId×List DVal×DVal):= [(10,[Az3], .tuple [(.vslice [(.vslice [(.str [65])] 1),(.int .u8 3),(.int .u8 4),(.int .u8 0),(.int .i64 0),(.str [84]),(.vslice [(.int .u8 3),(.int .u8 0),(.int .i64 0),(.str [80]), .nilSlice, .nilSlice,(.int .i64 1),(.int .i64 0),(.int .i64 0)] 1), .nilSlice,(.int .i64 1),(.int .i64 0),(.int .i64 0),(.int .u8 0),(.int .u8 0),(.int .i64 0),(.str []), .nilSlice, .nilSlice,(.int .i64 0),(.int .i64 0),(.int .i64 0),(.int .i64 1)] 1),(.int .i64 7),(.int .i64 0)]),
(10,[Az4], .tuple [.nilSlice,(.int .i64 0),(.int .i64 3)])]
theorem Bw6:Ak mw6 3000 Bt2=true:=by kernel_rfl
noncomputable def mw7:XP:=mw6.more Bt2
theorem Yp {G:Nat->DVal} (h:XOk mw6 G):XOk mw7 G:=h.more Bw6
def Bt3:List (FuncId×List DVal×DVal):= [(10,[Az5], .tuple [.nilSlice,(.int .i64 3),(.int .i64 40)])]
theorem Bw7:Ak mw7 3000 Bt3=true:=by kernel_rfl
noncomputable def mw8:XP:=mw7.more Bt3
theorem Yq {G:Nat->DVal} (h:XOk mw7 G):XOk mw8 G:=h.more Bw7
def Bt4:List (FuncId×List DVal×DVal):= [(3,[.bool false, .bool false, .bool false], .bool true),
(3,[.bool false, .bool false, .bool true], .bool true),
(3,[.bool false, .bool true, .bool false], .bool true),
(3,[.bool false, .bool true, .bool true], .bool true)]
theorem Bw8:Ak mw8 3000 Bt4=true:=by kernel_rfl
noncomputable def mw9:XP:=mw8.more Bt4
theorem Yr {G:Nat->DVal} (h:XOk mw8 G):XOk mw9 G:=h.more Bw8
def Bi0:List (FuncId×List DVal×DVal):= [(3,[.bool true, .bool false, .bool false], .bool true),
(3,[.bool true, .bool false, .bool true], .bool true),
(3,[.bool true, .bool true, .bool false], .bool true),
(3,[.bool true, .bool true, .bool true], .bool true)]
theorem Bt5:Ak mw9 3000 Bi0=true:=by kernel_rfl
noncomputable def Az6:XP:=mw9.more Bi0
theorem Ai4 {G:Nat->DVal} (h:XOk mw9 G):XOk Az6 G:=h.more Bt5
theorem Bm6 {G:Nat->DVal} (h:XOk mq0 G) (H:Aa):Bj Tryz.prog G 3 [.bool false, .bool false, .bool false] H (Mx (.bool true) H):=(Yr (Yq (Yp (Yo (Yn (Ym (Yl (Yk (Yj ((Nr h))))))))))).at (X:=mw9) (List.mem_append_left _ (.head _)) H
theorem Bm7 {G:Nat->DVal} (h:XOk mq0 G) (H:Aa):Bj Tryz.prog G 3 [.bool false, .bool false, .bool true] H (Mx (.bool true) H):=(Yr (Yq (Yp (Yo (Yn (Ym (Yl (Yk (Yj ((Nr h))))))))))).at (X:=mw9) (List.mem_append_left _ (.tail _ (.head _))) H
theorem Bm8 {G:Nat->DVal} (h:XOk mq0 G) (H:Aa):Bj Tryz.prog G 3 [.bool false, .bool true, .bool false] H (Mx (.bool true) H):=(Yr (Yq (Yp (Yo (Yn (Ym (Yl (Yk (Yj ((Nr h))))))))))).at (X:=mw9) (List.mem_append_left _ (.tail _ (.tail _ (.head _)))) H
theorem Bm9 {G:Nat->DVal} (h:XOk mq0 G) (H:Aa):Bj Tryz.prog G 3 [.bool false, .bool true, .bool true] H (Mx (.bool true) H):=(Yr (Yq (Yp (Yo (Yn (Ym (Yl (Yk (Yj ((Nr h))))))))))).at (X:=mw9) (List.mem_append_left _ (.tail _ (.tail _ (.tail _ (.head _))))) H
theorem Bn0 {G:Nat->DVal} (h:XOk mq0 G) (H:Aa):Bj Tryz.prog G 3 [.bool true, .bool false, .bool false] H (Mx (.bool true) H):=(Ai4 (Yr (Yq (Yp (Yo (Yn (Ym (Yl (Yk (Yj ((Nr h)))))))))))).at (X:=Az6) (List.mem_append_left _ (.head _)) H
theorem Bn1 {G:Nat->DVal} (h:XOk mq0 G) (H:Aa):Bj Tryz.prog G 3 [.bool true, .bool false, .bool true] H (Mx (.bool true) H):=(Ai4 (Yr (Yq (Yp (Yo (Yn (Ym (Yl (Yk (Yj ((Nr h)))))))))))).at (X:=Az6) (List.mem_append_left _ (.tail _ (.head _))) H
theorem Bn2 {G:Nat->DVal} (h:XOk mq0 G) (H:Aa):Bj Tryz.prog G 3 [.bool true, .bool true, .bool false] H (Mx (.bool true) H):=(Ai4 (Yr (Yq (Yp (Yo (Yn (Ym (Yl (Yk (Yj ((Nr h)))))))))))).at (X:=Az6) (List.mem_append_left _ (.tail _ (.tail _ (.head _)))) H
theorem Bn3 {G:Nat->DVal} (h:XOk mq0 G) (H:Aa):Bj Tryz.prog G 3 [.bool true, .bool true, .bool true] H (Mx (.bool true) H):=(Ai4 (Yr (Yq (Yp (Yo (Yn (Ym (Yl (Yk (Yj ((Nr h)))))))))))).at (X:=Az6) (List.mem_append_left _ (.tail _ (.tail _ (.tail _ (.head _))))) H
end Go.Dl

-- Chapter 4: FormModes.
namespace Go.Dl
open Go Go.Proofs
theorem Qs {G:Nat->DVal} (hG:GX G) (H:Aa) (a b c:Bool):Bj Tryz.prog G 3 [.bool a, .bool b, .bool c] H (Mx (.bool true) H):=by
 have h:=Bu1 hG;cases a<;>cases b<;>cases c
 ·exact Bm6 h H
 ·exact Bm7 h H
 ·exact Bm8 h H
 ·exact Bm9 h H
 ·exact Bn0 h H
 ·exact Bn1 h H
 ·exact Bn2 h H
 ·exact Bn3 h H
end Go.Dl

-- THE READING, PART 1: what was read of the input before a call is read the same behind it, if the call left all old memory as it was.
namespace Go.Dl
open Go
section
variable {H:Type} {enc:TypeId×Value->H} {P:Program} {w w':World}
def Kl (w w':World):Prop:= ∀b,b<w.heap.size->w'.heap[b]? =w.heap[b]?
theorem Kl.cell (h:Kl w w') {a:Addr} {x:Value} (hc:w.cell? a=some x):w'.cell? a=some x:=by
 have hlt:a.block<w.heap.size:=by
  unfold World.cell? at hc;rcases Nat.lt_or_ge a.block w.heap.size with hl | hl
  ·exact hl
  ·simp [Array.getElem?_eq_none hl] at hc
 unfold World.cell? at hc⊢
 rw[h _ hlt];exact hc
theorem Dy {α β:Type} {f g:α->Option β}: ∀ {l:List α} {r:List β},l.mapM f=some r->(∀x∈l,∀y,f x=some y->y∈r->g x=some y)->l.mapM g=some r
 | [],r,h,_=>by simpa using h
 | x::l,r,h,hg=>by
  rw[List.mapM_cons] at h⊢
  simp only[Option.bind_eq_bind,Option.bind_eq_some_iff,Option.pure_def,Option.some.injEq] at h⊢
  obtain⟨y,hy,ys,hys,rfl⟩:=h;exact⟨y,hg x (by simp) y hy (by simp),ys,Dy hys (fun z hz u hu hm=>hg z (by simp [hz]) u hu (by simp [hm])),rfl⟩
theorem Kl.cells (h:Kl w w') {base:Nat} {a:Addr} {n:Nat} {cs:List Value} (hc:w.cells? base a n=some cs):w'.cells? base a n=some cs:=by
 unfold World.cells? at hc⊢
 split at hc
 ·rename_i hb;rw[if_pos hb];exact Dy hc fun i _ y hy _=>h.cell hy
 ·cases hc
structure Closed (P:Program) (T:TypeId->Prop):Prop where
 ptr: ∀t e,T t->P.underlying t=some (.pointer e)->T e
 slice: ∀t e,T t->P.underlying t=some (.slice e)->0<P.cellsOf e/\T e
 struct: ∀t fs,T t->P.underlying t=some (.struct fs)-> ∀f∈fs.toList,T f.type
 array: ∀t n e,T t->P.underlying t=some (.array n e)->T e
 iface: ∀t m,T t->P.underlying t≠some (.interface m)
 map: ∀t k e,T t->P.underlying t=some (.map k e)->T e
def Ai5 (P:Program) (ts:List TypeId):Bool:=ts.all fun t=>match P.underlying t with
 | some (.pointer e)=>ts.contains e
 | some (.slice e)=>decide (0<P.cellsOf e)&&ts.contains e
 | some (.struct fs)=>fs.toList.all fun f=>ts.contains f.type
 | some (.array _ e)=>ts.contains e
 | some (.interface _)=>false
 | some (.map _ e)=>ts.contains e
 | _=>true
theorem Aq2 {P:Program} {ts:List TypeId} (h:Ai5 P ts=true):Closed P (· ∈ts):=by
 unfold Ai5 at h;rw[List.all_eq_true] at h;refine⟨fun t e ht hu=> ?_,fun t e ht hu=> ?_,fun t fs ht hu=> ?_,fun t n e ht hu=> ?_,fun t m ht hu=> ?_,fun t k e ht hu=> ?_⟩;all_goals have h1:=h t ht;rw[hu] at h1
 ·simpa using h1
 ·simpa using h1
 ·intro f hf;simpa using List.all_eq_true.1 h1 f hf
 ·simpa using h1
 ·cases h1
 ·simpa using h1
theorem St (h:Kl w w') {T:TypeId->Prop} (hT:Closed P T) {base:Nat} {sp:Nat->Bool} {held:Bool}:
  ∀(fuel:Nat) (t:TypeId) (cs:List Value) (d:DataW H) (ps:List MemPlace),T t->DataW.trod enc P w base (fun _=>true) held fuel t cs=some (d,ps)->(∀p∈ps,sp p.block=true)->
   DataW.trod enc P w' base sp held fuel t cs=some (d,ps)
 | 0,_,_,_,_,_,hh,_=>by simp [DataW.trod] at hh
 | fuel+1,t,cs,d,ps,ht,hh,hp=>by
  have ih:= @St h T hT base sp held fuel;unfold DataW.trod at hh⊢
  split at hh<;>(try (first | exact hh | (simp at hh;done)))
  ·-- pointer
   rename_i e a hu
   simp only[Option.map_eq_some_iff,Option.bind_eq_some_iff,Prod.mk.injEq] at hh⊢
   obtain⟨x,⟨c,hc,hx⟩,rfl,rfl⟩:=hh;exact⟨x,⟨c,h.cells hc,ih _ _ x.1 x.2 (hT.ptr _ _ ht hu) hx fun p hpm=>hp p (by simp [hpm])⟩,rfl,rfl⟩
  ·-- slice
   rename_i e a len cap hu
   dsimp only at hh⊢
   split at hh
   ·rename_i hc
    rw[if_pos hc];simp only[Option.bind_eq_some_iff,Option.map_eq_some_iff,if_true,Prod.mk.injEq] at hh⊢
    obtain⟨elems,he,rest,hr,rfl,rfl⟩:=hh;have hp1: ∀y∈elems,∀p∈y.2,sp p.block=true:=fun y hy p hpm=>hp p (by
     simp only[List.mem_append,List.mem_flatMap];exact .inr ⟨y, .inl hy,hpm⟩)
    have hp2: ∀y∈rest,∀p∈y.2,sp p.block=true:=fun y hy p hpm=>hp p (by
     simp only[List.mem_append,List.mem_flatMap];exact .inr ⟨y, .inr hy,hpm⟩)
    refine⟨elems,Dy he (fun i _ y hy hym=> ?_),rest, ?_,rfl,rfl⟩
    ·simp only[Option.bind_eq_some_iff] at hy⊢
     obtain⟨c,hc1,hc2⟩:=hy;exact⟨c,h.cells hc1,ih _ _ y.1 y.2 (hT.slice _ _ ht hu).2 hc2 (hp1 y hym)⟩
    ·have hr':(List.range (cap-len)).mapM (fun j=>(w'.cells? base (a.add ((len+j)*P.cellsOf e)) (P.cellsOf e)).bind (DataW.trod enc P w' base sp held fuel e))=some rest:=by
      refine Dy hr (fun i _ y hy hym=> ?_);simp only[Option.bind_eq_some_iff] at hy⊢
      obtain⟨c,hc1,hc2⟩:=hy;exact⟨c,h.cells hc1,ih _ _ y.1 y.2 (hT.slice _ _ ht hu).2 hc2 (hp2 y hym)⟩
     by_cases hsp:sp a.block=true
     ·rw[if_pos hsp];exact hr'
     ·rw[if_neg hsp];have hpos:=(hT.slice t e ht hu).1;have hlen:rest.length=0:=by
       rcases Nat.eq_zero_or_pos rest.length with h0 | h0
       ·exact h0
       ·exfalso;refine hsp (hp (.cell a.block a.off) ?_);refine List.mem_append_left _ ?_;unfold MemPlace.row;refine List.mem_map.2 ⟨0,List.mem_range.2 (Nat.mul_pos (by omega) hpos),by simp⟩
      rw[List.eq_nil_of_length_eq_zero hlen]
   ·cases hh
  ·-- struct
   rename_i fs hu
   split at hh
   ·rename_i hl
    rw[if_pos hl];simp only[Option.map_eq_some_iff,Prod.mk.injEq] at hh⊢
    obtain⟨xs,hx,rfl,rfl⟩:=hh;exact⟨xs,Dy hx (fun f hf y hy hym=>ih _ _ y.1 y.2 (hT.struct _ _ ht hu f hf) hy fun p hpm=>hp p (List.mem_flatMap.2 ⟨y,hym,hpm⟩)),rfl,rfl⟩
   ·cases hh
  ·-- array
   rename_i hu
   split at hh
   ·rename_i hl
    rw[if_pos hl];simp only[Option.map_eq_some_iff,Prod.mk.injEq] at hh⊢
    obtain⟨xs,hx,rfl,rfl⟩:=hh;exact⟨xs,Dy hx (fun f hf y hy hym=>ih _ _ y.1 y.2 (hT.array _ _ _ ht hu) hy fun p hpm=>hp p (List.mem_flatMap.2 ⟨y,hym,hpm⟩)),rfl,rfl⟩
   ·cases hh
  ·-- interface
   rename_i hu
   exact(hT.iface _ _ ht hu).elim
  ·-- map
   rename_i k e b hu
   split at hh
   ·rename_i es clock hb
    have hlt:b<w.heap.size:=(Array.getElem?_eq_some_iff.1 hb).1;rw[h b hlt,hb];dsimp only at hh⊢
    split at hh
    ·rename_i hc
     rw[if_pos hc];simp only[Option.bind_eq_some_iff] at hh⊢
     obtain⟨entries,he,hr⟩:=hh;split at hr
     ·rename_i hri
      simp only[Option.some.injEq,Prod.mk.injEq] at hr;obtain⟨rfl,rfl⟩:=hr;refine⟨entries,Dy he (fun x _ y hy hym=> ?_),by rw[if_pos hri]⟩;simp only[Option.bind_eq_some_iff] at hy⊢
      obtain⟨key,hk,hy⟩:=hy;refine⟨key,hk, ?_⟩;split at hy
      ·rename_i hf
       rw[if_pos hf];simp only[Option.map_eq_some_iff] at hy⊢
       obtain⟨z,hz1,rfl⟩:=hy;exact⟨z,ih _ _ z.1 z.2 (hT.map _ _ _ ht hu) hz1 fun p hpm=>hp p (by
        simp only[List.mem_cons,List.mem_flatMap];exact .inr ⟨_,hym,hpm⟩),rfl⟩
      ·cases hy
     ·cases hr
    ·cases hh
   ·cases hh
theorem Trod.keep (h:Kl w w') {T:TypeId->Prop} (hT:Closed P T) {base:Nat} {sp:Nat->Bool} {held:Bool} {t:TypeId} {v:Value} {d:DataW H} {ps:List MemPlace}
  (ht:T t) (hh:DataW.Trod enc P w base (fun _=>true) held t v d ps) (hp: ∀p∈ps,sp p.block=true):DataW.Trod enc P w' base sp held t v d ps:=by
 obtain⟨fuel,hh⟩:=hh;exact⟨fuel,St h hT fuel _ _ _ _ ht hh hp⟩
theorem TrodAll.keep (h:Kl w w') {T:TypeId->Prop} (hT:Closed P T) {base:Nat} {sp:Nat->Bool} {held:Bool}:
  ∀ {ts:List TypeId} {vs:List Value} {ds:List (DataW H)} {ps:List MemPlace},(∀t∈ts,T t)->DataW.TrodAll enc P w base (fun _=>true) held ts vs ds ps->(∀p∈ps,sp p.block=true)->DataW.TrodAll enc P w' base sp held ts vs ds ps
 | [],[],[],_,_,hh,_=>hh
 | [],[],_::_,_,_,hh,_=>hh.elim
 | [],_::_,_,_,_,hh,_=>hh.elim
 | _::_,[],_,_,_,hh,_=>hh.elim
 | _::_,_::_,[],_,_,hh,_=>hh.elim
 | t::ts,v::vs,d::ds,_,ht,⟨p,q,h1,h2,rfl⟩,hp=>
  ⟨p,q,Trod.keep h hT (ht t (by simp)) h1 (fun x hx=>hp x (by simp [hx])),TrodAll.keep h hT (fun u hu=>ht u (by simp [hu])) h2 (fun x hx=>hp x (by simp [hx])),rfl⟩
end
end Go.Dl

-- THE READING, PART 2: what was read of the input is plain data, seen at the data level.
namespace Go.Dl
open Go Go.RowKit Go.Deep
def Bi1 (P:Program) (H:Type) (w:World) (t:TypeId) (α:Type) (f:α->List DVal) (g:α->DataW H->Prop):Prop:=
 ∀(enc:TypeId×Value->H) base sp held fuel cs d ps,DataW.trod enc P w base sp held fuel t cs=some (d,ps)-> ∃x,g x d/\Ab w (fun _=>none) (f x) cs
section
variable {P:Program} {H:Type} {w:World}
theorem Qt {α β:Type} {f:α->Option β}: ∀ {l:List α} {r:List β},l.mapM f=some r->r.length=l.length/\ ∀(i:Nat) (x:α),l[i]? =some x-> ∃y,r[i]? =some y/\f x=some y
 | [],r,h=>by simp at h;subst h;simp
 | x::l,r,h=>by
  rw[List.mapM_cons] at h;simp only[Option.bind_eq_bind,Option.bind_eq_some_iff,Option.pure_def,Option.some.injEq] at h;obtain⟨y,hy,ys,hys,rfl⟩:=h;obtain⟨h1,h2⟩:=Qt hys;refine⟨by simp [h1],fun i z hz=> ?_⟩;cases i with
  | zero=>simp at hz;subst hz;exact⟨y,rfl,hy⟩
  | succ i=>simp at hz;obtain⟨u,hu,hf⟩:=h2 i z hz;exact⟨u,by simpa using hu,hf⟩
theorem Km {t:TypeId} (ht:P.underlying t=some .bool):Bi1 P H w t Bool (fun b=> [.bool b]) (fun b d=>d= .lit (.bool b)):=by
 intro enc base sp held fuel cs d ps h;cases fuel with
 | zero=>simp [DataW.trod] at h
 | succ fuel=>
  unfold DataW.trod at h;rw[ht] at h;split at h<;>try (simp_all;done)
  simp only[Option.some.injEq,Prod.mk.injEq] at h;obtain⟨rfl,rfl⟩:=h;exact⟨_,rfl,by simp [Ab,Rel]⟩
end
end Go.Dl

-- THE READING, PART 3: a law's call at the data level, as the row wants it.
namespace Go.Dl
open Go Go.RowKit
section
variable {P:Program} {w:World}
theorem Ext.stands {w':World} {H':Aa} (h:Ext (fun _=>none) w H' w'):Kl w w':=fun b hb=>h.block b hb rfl
def Az7 (W w':World):Prop:=W.keptBut w' (fun _=>False)/\(∀a,a.block<W.heap.size->w'.frozen? a=W.frozen? a)/\W.heap.size<=w'.heap.size
theorem Az7.frame {W w':World} (h:Az7 W w') (may:MemPlace->Prop):W.keptBut w' may:=World.keptBut_mono (fun _ f=>f.elim) h.1
theorem Ext.grown {w':World} {H':Aa} (h:Ext (fun _=>none) w H' w'):Az7 w w':=by
 refine⟨⟨h.os,h.output,fun i hi=> ?_⟩,fun a ha=>h.fz a ha rfl,h.size⟩;rw[h.block i hi rfl];cases ho:w.heap[i]? with
 | none=>simp
 | some o=>cases o<;>simp
theorem Vl (w:World):Ae w (fun _=>none):=fun r o h=>by cases h
theorem Bj.row {G:Nat->DVal} {f:FuncId} {args:List DVal} {vs:Array Value} (h:Bj P G f args (fun _=>none) (fun e _=>e= .ret (.bool true))) (hv:Ab w (fun _=>none) args vs.toList) (hG:GOk G w (fun _=>none)):
  Calls P f vs w fun e W'=>e= .returned (.bool true)/\Az7 w W'/\Kl w W':=by
 have:=h.2 vs.toList w hv (Vl w) hG;simp only[Array.toArray_toList] at this;refine this.mono fun e w' ⟨e',H',he,hr,_,hE⟩=> ?_;subst he;cases hr with
 | ret d v hv=>simp only[Rel] at hv;subst hv;exact⟨rfl,hE.grown,hE.stands⟩
theorem Ab.cons {Hp:Aa} {d:DVal} {v:Value} {ds:List DVal} {vs:List Value} (h:Rel w Hp d v) (k:Ab w Hp ds vs):Ab w Hp (d::ds) (v::vs):=by
 simp only[Ab];exact⟨v,vs,rfl,h,k⟩
theorem Ab.one {Hp:Aa} {d:DVal} {v:Value} (h:Ab w Hp [d] [v]):Rel w Hp d v:=by
 simp only[Ab] at h;obtain⟨y,ys,h1,h2,_⟩:=h;cases h1;exact h2
end
end Go.Dl
namespace Go.ChangeShapes
open Go.WideShapes
section
variable {H:Type} {enc:TypeId×Value->H} {P:Program}
theorem Ys {f:Func} {s:ChangeSpec} {apart fresh handsOn Bf6:Bool} {W W':World} {args:Array Value} {v:Value} {ds gs:List (DataW H)} {before pa pv:List MemPlace}
  (hW:DataW.Whole enc P f.params.toList s.vars apart W args.toList ds gs before)
  (hres: ∀(b:Nat) (sp:Nat->Bool) (hd:Bool),DataW.TrodAll enc P W' b sp hd f.resultTypes.toList (v.resultList f.resultTypes.size) (s.fn H (ds++gs)).results [])
  (hargs: ∀sp:Nat->Bool,(∀p∈before,sp p.block=true)->DataW.TrodAll enc P W' 0 sp true f.params.toList args.toList (s.fn H (ds++gs)).args pa)
  (hvars: ∀sp:Nat->Bool,(∀p∈before,sp p.block=true)->DataW.TrodVars enc P W' sp s.vars (s.fn H (ds++gs)).vars pv)
  (hps:before=pa++pv) (hk:W.keptBut W' (· ∈before)) (hfz: ∀a,a.block<W.heap.size->W'.frozen? a=W.frozen? a)
  (hok: ∀(j:Nat) (t:TypeId) (r:Value),f.resultTypes[j]? =some t->(v.resultList f.resultTypes.size)[j]? =some r->Value.okWide P W' .any 0 t r):
  s.post enc P f apart fresh handsOn Bf6 W args v W':=by
 have hlt:=hW.lt;have hold: ∀p∈before,(fun b=>decide (b<W.heap.size)) p.block=true:=fun p hp=>by simpa using hlt p hp
 refine⟨ds,gs,before,[],pa,pv,hW,hres _ _ _,hargs _ hold,hvars _ hold,World.keptBut_mono (fun p hp=>⟨hp, .inr (List.mem_append.1 (hps▸hp))⟩) hk,fun _=> ?_⟩;obtain⟨_,_,_,_,_,hz,hn⟩:=hW;refine⟨hok,_,_,([]++pa)++pv,⟨[]++pa,pv,trodAll_append (hargs _ (fun _ _=>rfl)) (hres _ _ _),hvars _ (fun _ _=>rfl),rfl, ?_, ?_⟩, ?_⟩
 ·intro b off hp;have hp':MemPlace.cell b off∈before:=by rw[hps];simpa using hp
  exact(hfz _ (hlt _ hp')).trans (hz b off hp')
 ·intro ha;have:=hn ha;rw[hps] at this;simpa using this
 ·intro p hp _;rw[hps];simpa using hp
end
end Go.ChangeShapes

-- THE READING, PART G: the package's variables that a row lists ('laid'), as the data level sees them.
namespace Go.Dl
open Go Go.RowKit
def Jq:DataW Unit->Bool
 | .lit (.bool _)=>true
 | .lit (.int _ _)=>true
 | .lit (.string _)=>true
 | .agg ds=>litsBs ds
 | _=>false
where litsBs:List (DataW Unit)->Bool
 | []=>true
 | d::ds=>Jq d&&litsBs ds
def At:DataW Unit->List Value
 | .lit (.bool b)=> [.bool b]
 | .lit (.int k n)=> [.int k n]
 | .lit (.string s)=> [.string ⟨⟨s⟩⟩]
 | .agg ds=>litCellss ds
 | _=> []
where litCellss:List (DataW Unit)->List Value
 | []=> []
 | d::ds=>At d++litCellss ds
theorem Qu {ds:List (DataW Unit)}:Jq.litsBs ds=true↔ ∀d∈ds,Jq d=true:=by
 induction ds with
 | nil=>simp [Jq.litsBs]
 | cons d ds ih=>simp [Jq.litsBs,ih]
theorem Ly (ds:List (DataW Unit)):At.litCellss ds=ds.flatMap At:=by
 induction ds with
 | nil=>rfl
 | cons d ds ih=>simp [At.litCellss,ih]
theorem Ad9 {α:Type} (cs:List α) (off size:Nat->Nat): ∀(n:Nat),(∀j,j<n->off (j+1)=off j+size j)->off 0=0->off n<=cs.length->(List.range n).flatMap (fun j=>(cs.drop (off j)).take (size j))=cs.take (off n)
 | 0,_,h0,_=>by simp [h0]
 | n+1,h,h0,hn=>by
  have hs:=h n (by omega);rw[List.range_succ,List.flatMap_append,Ad9 cs off size n (fun j hj=>h j (by omega)) h0 (by omega),hs];simp only[List.flatMap_cons,List.flatMap_nil,List.append_nil];rw[List.take_add]
theorem Qv {α β:Type} (xs:List α) (g:α->List β) (f:Nat->List β) (n:Nat) (hn:xs.length=n) (h: ∀(j:Nat) (x:α),xs[j]? =some x->f j=g x):(List.range n).flatMap f=xs.flatMap g:=by
 rw[List.flatMap_def,List.flatMap_def];congr 1;apply List.ext_getElem?;intro j;simp only[List.getElem?_map];by_cases hj:j<n
 ·rw[List.getElem?_eq_getElem (by omega:j<xs.length),List.getElem?_range hj];simp only[Option.map_some];rw[h j xs[j] (List.getElem?_eq_getElem (by omega))]
 ·rw[List.getElem?_eq_none (by omega:xs.length<=j),List.getElem?_eq_none (by simp;omega)];rfl
section
variable {P:Program} {w:World}
theorem Na (hl:laidOutB P=true) {base:Nat} {sp:Nat->Bool}: ∀(fuel:Nat) (t:TypeId) (cs:List Value) (d:DataW Unit) (ps:List MemPlace),isVar P t=true->Jq d=true->
  DataW.trod (fun _=>()) P w base sp false fuel t cs=some (d,ps)->cs=At d
 | 0,_,_,_,_,_,_,h=>by simp [DataW.trod] at h
 | fuel+1,t,cs,d,ps,hv,hd,h=>by
  have ih:= @Na hl base sp fuel;have hlt:t<P.types.size:=by simp only[isVar,Bool.and_eq_true,decide_eq_true_eq] at hv;exact hv.1
  have hrow:=rowFine_of_laidOut hl hlt;simp only[rowFine,hv,Bool.not_true,Bool.false_or] at hrow;unfold DataW.trod at h;split at h<;>(try (simp at h;done))
  ·simp only[Option.some.injEq,Prod.mk.injEq] at h;obtain⟨rfl,rfl⟩:=h;rfl
  ·split at h
   ·rename_i hk
    obtain⟨rfl,_⟩:=hk;simp only[Option.some.injEq,Prod.mk.injEq] at h;obtain⟨rfl,rfl⟩:=h;rfl
   ·cases h
  ·split at h
   ·simp only[Option.some.injEq,Prod.mk.injEq] at h;obtain⟨rfl,rfl⟩:=h;cases hd
   ·cases h
  ·split at h
   ·simp only[Option.some.injEq,Prod.mk.injEq] at h;obtain⟨rfl,rfl⟩:=h;simp [At]
   ·cases h
  ·simp only[Option.some.injEq,Prod.mk.injEq] at h;obtain⟨rfl,rfl⟩:=h;cases hd
  ·simp only[Option.map_eq_some_iff,Prod.mk.injEq] at h;obtain⟨_,_,rfl,_⟩:=h;cases hd
  ·simp only[Option.some.injEq,Prod.mk.injEq] at h;obtain⟨rfl,rfl⟩:=h;cases hd
  ·dsimp only at h;split at h
   ·simp only[Option.bind_eq_some_iff,Option.map_eq_some_iff,Prod.mk.injEq] at h;obtain⟨_,_,_,_,rfl,_⟩:=h;cases hd
   ·cases h
  ·rename_i cs _ _ fs hu
   rw[hu] at hrow;simp only[Bool.and_eq_true,beq_iff_eq,List.all_eq_true] at hrow;obtain⟨⟨hf,hsum⟩,hoff⟩:=hrow;split at h
   ·rename_i hcl
    simp only[Option.map_eq_some_iff,Prod.mk.injEq] at h;obtain⟨xs,hx,rfl,rfl⟩:=h;obtain⟨hxl,hxg⟩:=Qt hx;simp only[Jq,Qu] at hd;have key: ∀(j:Nat) (f:Field) (x:DataW Unit×List MemPlace),fs.toList[j]? =some f->xs[j]? =some x->(cs.drop f.offset).take (P.cellsOf f.type)=At x.1:=by
     intro j f x hjf hjx;obtain⟨y,hy,hfy⟩:=hxg j f hjf;rw[hjx] at hy;cases hy;exact ih _ _ x.1 x.2 (hf f (List.mem_of_getElem? hjf)) (hd _ (List.mem_map.2 ⟨x,List.mem_of_getElem? hjx,rfl⟩)) hfy
    have hp:=Ad9 cs (fun j=>((fs.toList.take j).map fun f=>P.cellsOf f.type).sum) (fun j=>(fs.toList[j]?).elim 0 fun f=>P.cellsOf f.type) fs.toList.length (fun j hj=>by
     rw[List.take_succ_eq_append_getElem hj];simp [List.getElem?_eq_getElem hj]) (by simp) (by rw[List.take_length,hcl,hsum];omega)
    simp only[List.take_length,<-hsum,<-hcl] at hp;rw[<-hp];simp only[At,Ly,List.flatMap_map];refine Qv xs _ _ _ hxl fun j x hjx=> ?_;have hjx':j<xs.length:=(List.getElem?_eq_some_iff.1 hjx).1;have hj':j<fs.toList.length:=by omega
    have h1:=hoff j (List.mem_range.2 hj');rw[List.getElem?_eq_getElem hj'] at h1;simp only[beq_iff_eq] at h1;have h2:=key j fs.toList[j] x (List.getElem?_eq_getElem hj') hjx;rw[h1] at h2;simp only[List.getElem?_eq_getElem hj',Option.elim_some];exact h2
   ·cases h
  ·rename_i cs _ _ n e hu
   rw[hu] at hrow;simp only[Bool.and_eq_true,beq_iff_eq] at hrow;obtain⟨hf,hsum⟩:=hrow;split at h
   ·rename_i hcl
    simp only[Option.map_eq_some_iff,Prod.mk.injEq] at h;obtain⟨xs,hx,rfl,rfl⟩:=h;obtain⟨hxl,hxg⟩:=Qt hx;rw[List.length_range] at hxl;simp only[Jq,Qu] at hd;have hp:=Ad9 cs (fun j=>j*P.cellsOf e) (fun _=>P.cellsOf e) n (fun j _=>Nat.succ_mul j _) (by simp) (by rw[hcl,hsum];exact Nat.le_refl _);rw[List.take_of_length_le (by rw[hcl,hsum];exact Nat.le_refl _)] at hp;rw[<-hp];simp only[At,Ly,List.flatMap_map];refine Qv xs _ _ _ hxl fun j x hjx=> ?_;have hjx':j<xs.length:=(List.getElem?_eq_some_iff.1 hjx).1;obtain⟨y,hy,hfy⟩:=hxg j j (by rw[List.getElem?_range (by omega)]);rw[hjx] at hy;cases hy;exact ih _ _ _ _ hf (hd _ (List.mem_map.2 ⟨x,List.mem_of_getElem? hjx,rfl⟩)) hfy
   ·cases h
  ·simp only[Option.some.injEq,Prod.mk.injEq] at h;obtain⟨rfl,rfl⟩:=h;cases hd
  ·split at h
   ·rename_i e;cases e
   ·simp only[Option.map_eq_some_iff,Prod.mk.injEq] at h;obtain⟨_,_,rfl,_⟩:=h;cases hd
   ·cases h
  ·simp only[Option.some.injEq,Prod.mk.injEq] at h;obtain⟨rfl,rfl⟩:=h;cases hd
  ·split at h
   ·dsimp only at h;split at h
    ·simp only[Option.bind_eq_some_iff] at h;obtain⟨_,_,h⟩:=h;split at h
     ·simp only[Option.some.injEq,Prod.mk.injEq] at h;obtain⟨rfl,rfl⟩:=h;cases hd
     ·cases h
    ·cases h
   ·cases h
  ·simp only[Option.some.injEq,Prod.mk.injEq] at h;obtain⟨rfl,rfl⟩:=h;cases hd
  ·simp only[Option.some.injEq,Prod.mk.injEq] at h;obtain⟨rfl,rfl⟩:=h;cases hd
  ·simp only[Option.some.injEq,Prod.mk.injEq] at h;obtain⟨rfl,rfl⟩:=h;cases hd
theorem Vm: ∀ {laid:List (String×DataW Unit)} {n:String} {d:DataW Unit},laidMet P laid w->(n,d)∈laid->
  ∃g t cs fuel p,P.globalNamed n=some g/\(P.globals[g]?).map (·.type)=some t/\w.var? P n=some cs/\DataW.trod (fun _=>()) P w 0 (fun _=>true) false fuel t cs.toList=some (d,p)/\
   ∀u v,w.cell? ⟨g,0,none⟩=some (.iface u v)->0<cs.size->Value.okWide P w .any 0 u v
 | [],_,_,_,hm=>by cases hm
 | x::laid,n,d,h,hm=>by
  rcases List.mem_cons.1 hm with rfl | hm
  ·obtain⟨ps,⟨g,t,cs,fuel,p,q,h1,h2,h3,h4,h5,h6⟩,_,h8⟩:=h;refine⟨g,t,cs,fuel,p,h1,h2,h3,h4,fun u v hc hz=>(h8 g 0 ?_).2 u v hc⟩;rw[h6];refine List.mem_append_left _ (List.mem_append_left _ ?_);unfold MemPlace.row;exact List.mem_map.2 ⟨0,List.mem_range.2 hz,by simp⟩
  ·exact Vm h.tail hm
def Bt6 (v:Value):Prop:=(∃b,v= .bool b)\/(∃k n,v= .int k n)\/ ∃s:List UInt8,v= .string ⟨⟨s⟩⟩
mutual
theorem Yt: ∀(d:DataW Unit),Jq d=true-> ∀v∈At d,Bt6 v
 | .lit (.bool b),_,v,hv=>by simp [At] at hv;exact .inl ⟨b,hv⟩
 | .lit (.int k n),_,v,hv=>by simp [At] at hv;exact .inr (.inl ⟨k,n,hv⟩)
 | .lit (.string s),_,v,hv=>by simp [At] at hv;exact .inr (.inr ⟨s,hv⟩)
 | .agg ds,h,v,hv=>Su ds (by simpa [Jq] using h) v (by simpa [At] using hv)
 | .lit (.float _ _),h,_,_=>by cases h
 | .nil,h,_,_=>by cases h
 | .ptr _,h,_,_=>by cases h
 | .slice _ _,h,_,_=>by cases h
 | .iface _ _,h,_,_=>by cases h
 | .map _,h,_,_=>by cases h
 | .held _,h,_,_=>by cases h
theorem Su: ∀(ds:List (DataW Unit)),Jq.litsBs ds=true-> ∀v∈At.litCellss ds,Bt6 v
 | [],_,v,hv=>by simp [At.litCellss] at hv
 | d::ds,h,v,hv=>by
  simp only[Jq.litsBs,Bool.and_eq_true] at h
  simp only[At.litCellss,List.mem_append] at hv
  rcases hv with hv | hv
  ·exact Yt d h.1 v hv
  ·exact Su ds h.2 v hv
end
theorem Az8 {Hp:Aa}: ∀(d:DataW Unit),Jq d=true->Ab w Hp (Bk (At d)) (At d):=by
 have all: ∀(vs:List Value),(∀v∈vs,(∃b,v= .bool b)\/(∃k n,v= .int k n)\/ ∃s:List UInt8,v= .string ⟨⟨s⟩⟩)->Ab w Hp (Bk vs) vs:=by
  intro vs
  induction vs with
  | nil=>intro _;simp [Bk,Ab]
  | cons v vs ih=>
   intro h;simp only[Bk,Ab];refine⟨v,vs,rfl, ?_,ih fun x hx=>h x (by simp [hx])⟩;rcases h v (by simp) with⟨b,rfl⟩ | ⟨k,n,rfl⟩ | ⟨s,rfl⟩<;>simp [Ao,Rel]
 exact fun d h=>all _ (Yt d h)
theorem Az9 {laid:List (String×DataW Unit)} {n:String} {d:DataW Unit} {g:Nat} (hl:laidOutB P=true) (h:laidMet P laid w) (hm:(n,d)∈laid) (hd:Jq d=true) (hg:P.globalNamed n=some g)
  (hgt:isVar P (((P.globals[g]?).map (·.type)).getD 0)=true):Rel w (fun _=>none) (.vptr (Bk (At d)) 0) (.pointer (some ⟨g,0,none⟩)):=by
 obtain⟨g',t,cs,fuel,p,h1,h2,h3,h4,_⟩:=Vm h hm;rw[hg] at h1;cases h1;rw[h2] at hgt;have hc:=Na hl fuel t cs.toList d p hgt hd h4;simp only[Rel];refine⟨g,0,cs.toList,rfl, ?_,by rw[hc];exact Az8 d hd⟩;refine .inr ⟨rfl,fun i x hx=> ?_⟩;have:=World.var?_cell hg h3 i;rw[Nat.zero_add,this];simpa using hx
end
end Go.Dl
