/- The data level and the contracts of the functions that are reached (part 11). -/
import Derived.Test.YtddbdpcgikmiaaaGreatDoorPnj
set_option linter.unusedSimpArgs false
set_option linter.unusedVariables false
set_option linter.unusedSectionVars false
-- Chapter 4: the reader of package shape: 
namespace Go.Dl
open Go Go.Proofs
set_option maxRecDepth 100000
section
variable {P:Program} {G:Nat->DVal} {f:FuncId} {args:List DVal} {H H0:Ac} {R:DEnd->Ac->Prop} {r k a:Nat} {l:List Tok}
def Vi:List DVal->List (List UInt8)
 | .str s::cs=>s::Vi cs
 | _=> []
def Bq8 (l:List Tok):List (List UInt8)->Nat->(Nat->Prop)->(Nat->Prop)->Prop
 | [],k,yes,_=>yes k
 | s::ws,k,yes,no=>(isW l k [s]=true->k+1<=l.length->Bq8 l ws (k+1) yes no)/\(isW l k [s]=false->no k)
theorem Fd2 (hG:GX G) (hl:l.length<=800000) (cs:List DVal) (y:(Vi cs).map .str=cs) {H:Ac} {q n m:Nat} (C:H q=none) (hr:H r=some (srO l k)) (hk:k<=l.length) (D:n=cs.length/\m=cs.length/\cs.length<=1000):
  Af Tryz.prog G 199 [.optr r 0, .oslice 1 q 0 n m] (upd H q (some (.cells cs 9))) (SrR r l H (Vh l (Vi cs) k)):=by
 have h:=congrArg List.length y;rw[jK] at h;obtain⟨rfl,rfl,h3⟩:=D;rw[<-h];exact Gh4 hG hl (Vi cs) cs y H C hr hk (by omega)
theorem SrN {c:Prop} [Decidable c] (h:Af P G f args H (Au (.bool (decide c)) H)) (y:c->R (.ret (.bool true)) H) (no: ¬c->R (.ret (.bool false)) H):Af P G f args H R:=h.mono fun e H' hx=>by
 obtain⟨rfl,rfl⟩:=hx;by_cases hc:c
 ·rw[decide_eq_true hc];exact y hc
 ·rw[decide_eq_false hc];exact no hc
theorem SrI {c:Bool} (h:Af P G f args H (Au (.bool c) H)) (y:c=true->R (.ret (.bool true)) H) (no:c=false->R (.ret (.bool false)) H):Af P G f args H R:=h.mono fun e H' hx=>by
 obtain⟨rfl,rfl⟩:=hx;cases c
 ·exact no rfl
 ·exact y rfl
theorem SrU {ws:List (List UInt8)} (h:Af P G f args H0 (SrR r l H (Vh l ws k))) (hk:k<=l.length)
  (g:Bq8 l ws k (fun k'=>R (.ret (.tuple [])) (upd H r (some (srO l k')))) (fun i=> ∀j,R (.panic (Lc i 40)) (upd H r (some (srO l j))))):Af P G f args H0 R:=h.mono fun e H' hx=>by
 clear h
 induction ws generalizing k with
 | nil=>obtain⟨rfl,rfl⟩:=hx;exact g
 | cons s ws ih=>
  rw[Vh] at hx;cases c:isW l k [s]
  ·rw[c,if_neg (by simp)] at hx;obtain⟨rfl,j,rfl⟩:=hx;exact g.2 c j
  ·rw[c,if_pos rfl] at hx;exact ih (Fi c hk) (g.1 c (Fi c hk)) hx
theorem ReS {α:Type} {X:Nat->Re α} {D:α->DVal} {y:List DVal} (h:SrF P G l r f y (fun k=>(X k).mp D)) (adv:k<=l.length->Kv l a (X k))
  (ok: ∀v j,X k= .ok v j->a<=j->j<=l.length->R (.ret (D v)) (upd H r (some (srO l j))))
  (fail: ∀i j,X k= .fail i->R (.panic (Lc i 40)) (upd H r (some (srO l j))))
  (long: ∀j,X k= .long->R (.panic (Lc 0 3)) (upd H r (some (srO l j)))) (C:H r=some (srO l k):=by repeat' first | assumption | exact Aa _ _ _ | refine Ag ?_ ?_) (hk:k<=l.length:=by omega):Af P G f (.optr r 0::y) H R:=ReC (h H k C hk) (adv hk) ok fail long
theorem Go2 {s:List UInt8} (hG:GX G) (hl:l.length<=800000)
  (y:isW l k [s]=true->k+1<=l.length->R (.ret (.bool true)) (upd H r (some (srO l (k+1)))))
  (no:isW l k [s]=false->R (.ret (.bool false)) H) (h:H r=some (srO l k):=by repeat' first | assumption | exact Aa _ _ _ | refine Ag ?_ ?_) (hk:k<=l.length:=by omega):Af Tryz.prog G 201 [.optr r 0, .str s] H R:=SrM (Sp hG _ _ h (by omega) (by omega)) h hk y no
theorem Go3 (hG:GX G) (hl:l.length<=800000) {cs:List DVal} {q n m:Nat} (h:(Vi cs).map .str=cs) (y:H q=none)
  (g:Bq8 l (Vi cs) k (fun k'=>R (.ret (.tuple [])) (upd H r (some (srO l k')))) (fun i=> ∀j,R (.panic (Lc i 40)) (upd H r (some (srO l j))))) (C:H r=some (srO l k):=by repeat' first | assumption | exact Aa _ _ _ | refine Ag ?_ ?_) (hk:k<=l.length:=by omega) (D:n=cs.length/\m=cs.length/\cs.length<=1000:=by simp):
  Af Tryz.prog G 199 [.optr r 0, .oslice 1 q 0 n m] (upd H q (some (.cells cs 9))) R:=SrU (Fd2 hG hl cs h y C hk D) hk g
theorem Aj2 {A B:Prop} (a:A) (f:A->B):A/\B:=⟨a,f a⟩
end
section
variable {G:Nat->DVal} {r:Nat} {l:List Tok}
theorem Go4 (hG:GX G) (h:Nat) (I:h<=6) (m:List Tok) (hm:m.length<=800000) (C:Cb m) (K:Ac) (q:Nat) (y:K q=some (.cells [dI h] 3)):
  Af Tryz.prog G 282 ([]++ [Bh m]++ [.optr q 0]) K (Au (Bm6 (Fx m h)) K):=by
 refine Ab Tryz.func282 Tryz.call282 rfl (by kernel_rfl) ?_;simp(disch:=omega)only[go_sem,jG,jI];intro p hp;dsimp only at hp;have n:=Ae hp y;have D:=n.symm;simp(disch:=omega)only[go_sem,y,n,D];refine Af.monoR (Dg9 (l:=m) hG _ h hm C) ?_;have E:=Ad (Fx m h).1;simp(disch:=omega)only[go_sem,Bm6,dE,E];exact Es.sub ((Sub.refl K).new hp _) (.refl ⟨rfl,rfl⟩)
theorem Bq9 (hG:GX G) (E:Cb l) (hl:l.length<=800000) (h:Nat) (y:h<=6):SrF Tryz.prog G l r 222 [dI h] (fun k=>(exR l h k).mp dE):=by
 intro B k hr hk;dsimp only;obtain⟨n,h1,h2,h3,-⟩:=Cv1 (l:=l.drop k) h y;rw[List.length_drop] at h2;have e:Fx (l.drop k) h=((Fx (l.drop k) h).1,(n:Int),(Fx (l.drop k) h).2.2):=by rw[<-h1]
 have I:=Uy E k;have adv:=Kv.ex h y hk;have J:k+n<=l.length:=by omega
 refine Ab Tryz.func222 Tryz.call222 rfl (by kernel_rfl) ?_;simp(disch:=omega)only[go_sem]
 ((with_reducible show Ff _ _ _ _ _);intro q hq;dsimp only at hq;have L:=hq;have hz:=(show Aa7 B _ from(by repeat (first | exact Aa7.refl _ | refine Aa7.upd ?_ _ _))) _ hq;have C:=Ae hz hr;have M:=C.symm;(try have O:=Ae hz hq0);(try have S:=(Ae hz hq0).symm);(try simp only[Av] at hq);(repeat (have U:=hq.1;have hq:=hq.2)))
 simp(disch:=omega)only[go_sem, *]
 ((with_reducible show Ff _ _ _ _ _);intro q hq;dsimp only at hq;have L:=hq;have hz:=(show Aa7 B _ from(by repeat (first | exact Aa7.refl _ | refine Aa7.upd ?_ _ _))) _ hq;have C:=Ae hz hr;have M:=C.symm;(try have O:=Ae hz hq0);(try have S:=(Ae hz hq0).symm);(try simp only[Av] at hq);(repeat (have U:=hq.1;have hq:=hq.2)))
 simp(disch:=omega)only[go_sem, *];refine ReC (r:=r) (l:=l) (x:=exR l h k) (D:=dE) ?_ adv ?_ ?_ ?_
 ·rw[exR,e];refine Gh5 hl _ _ _ _ _ k (by repeat' first | assumption | exact Aa _ _ _ | refine Ag ?_ ?_) hk n J fun K V=> ?_;rw[<-e];exact Go4 hG h y _ (by rw[List.length_drop];omega) I K _ (V _ _ (by repeat' first | assumption | exact Aa _ _ _ | refine Ag ?_ ?_))
 all_goals clear e adv
 all_goals intros
 repeat' first
  | simp(disch:=omega)only[go_sem, *,dE,Ad]
  | (show SRt _ _ _ _ _;first | with_reducible assumption | apply SRt.at | (apply SRt.refl;assumption) | apply SRt.set | (apply SRt.own<;>first | assumption | skip))
  | ((with_reducible show Es _ _ _);apply SRt.fin (H0:=B) (r:=r) (l:=l))
  | ((with_reducible show Sz _ _ _);apply SRt.finP (H0:=B) (r:=r) (l:=l))
  | ((first | refine SrR.ofK ?_ | refine SrR.ofF ?_ | refine SrR.ofL ?_);simp [Re.mp,dE, *];done)
  | fail
theorem Cw1 (hG:GX G) (h:Cb l) (hl:l.length<=800000):SrF Tryz.prog G l r 222 [dI 2] (fun k=>(exR l 2 k).mp dE):=Bq9 hG h hl 2 (by omega)
theorem Cw2 (hG:GX G) (h:Cb l) (hl:l.length<=800000):SrF Tryz.prog G l r 222 [dI 0] (fun k=>(exR l 0 k).mp dE):=Bq9 hG h hl 0 (by omega)
theorem Kv.ex2 {k:Nat} (hk:k<=l.length):Kv l (k+1) (exR l 2 k):=Kv.ex 2 (by omega) hk
theorem Kv.ex0 {k:Nat} (hk:k<=l.length):Kv l (k+1) (exR l 0 k):=Kv.ex 0 (by omega) hk
theorem Lg (x:Ex):(dEx x).map nz=dEx x:=by rw[Ox];rfl
theorem Ij (x:Ex) {i:Nat} (h:9<=i):(dEx x).take i=dEx x:=List.take_of_length_le (by rw[Ad];exact h)
theorem Iv (x:Ex) {i:Nat} (h:9<=i):(dEx x).drop i= []:=List.drop_of_length_le (by rw[Ad];exact h)
theorem Gb (x:Ind) {i:Nat} (h:36<=i):(Df x).take i=Df x:=List.take_of_length_le (by rw[Al];exact h)
theorem Gr (x:Ind) {i:Nat} (h:36<=i):(Df x).drop i= []:=List.drop_of_length_le (by rw[Al];exact h)
theorem Gc (x:Dis) {i:Nat} (h:27<=i):(Dz x).take i=Dz x:=List.take_of_length_le (by rw[Aw];exact h)
theorem Gs (x:Dis) {i:Nat} (h:27<=i):(Dz x).drop i= []:=List.drop_of_length_le (by rw[Aw];exact h)
theorem Pp:dEx ex0= [.int .u8 0, .int .u8 0, .int .i64 0, .str [], .vslice [] 0, .vslice [] 0, .int .i64 0, .int .i64 0, .int .i64 0]:=by rw[ex0,Xf];rfl
theorem Km (x:Ind):(Df x).map nz=Df x:=by simp [Df,Lg]
theorem Kn (x:Dis):(Dz x).map nz=Dz x:=by simp [Dz,Lg]
theorem Vj (G:Nat->DVal) (H:Ac) (s:List UInt8):Af Tryz.prog G 121 [.optr r 0, .str s] H (fun e H'=> ∃q1 q2,H q1=none/\upd H q1 (some (.cells [.optr r 0] 140)) q2=none/\e= .ret (.func (.func 220) [] [.optr q1 0, .optr q2 0])/\H'=upd (upd H q1 (some (.cells [.optr r 0] 140))) q2 (some (.cells [.str s] 9))):=by
 refine Ab Tryz.func121 Tryz.call121 rfl (by kernel_rfl) ?_;simp(disch:=omega)only[go_sem];intro q1 h1;dsimp only at h1;simp(disch:=omega)only[go_sem];intro q2 h2;dsimp only at h2;simp(disch:=omega)only[go_sem];exact Es.refl ⟨q1,q2,h1,h2,rfl,rfl⟩
theorem Ts (hG:GX G) (hl:l.length<=800000) (B:Ac) (s:List UInt8) (h y k:Nat) (D:h≠r) (E:y≠r) (I:B h=some (.cells [.optr r 0] 140)) (J:B y=some (.cells [.str s] 9)) (H:Ac) (C:SRt r l k B H) (hk:k<=l.length):
  Af Tryz.prog G 220 ([]++ []++ [.optr h 0, .optr y 0]) H (SrQ r l H (.bool (byW l s k).isSome) ((byW l s k).getD k)):=by
 have L:H h=some (.cells [.optr r 0] 140):=C _ _ (Ag I D);have M:H y=some (.cells [.str s] 9):=C _ _ (Ag J E);refine Ab Tryz.func220 Tryz.call220 rfl (by kernel_rfl) ?_;simp(disch:=omega)only[go_sem,jG,L,M];refine(Sp hG H s C.get (by omega) (by omega)).mono ?_;rintro _ H1 ⟨rfl,rfl⟩;simp(disch:=omega)only[go_sem];refine Es.refl ⟨?_, ?_⟩
 ·rw[byW];cases isW l k [s]<;>rfl
 ·rw[byW];cases isW l k [s]<;>rfl
theorem Aq6 (hG:GX G) (hl:l.length<=800000):SrF Tryz.prog G l r 217 [] (fun k=>(Xq l k).mp dW):=by
 intro B k hr hk;dsimp only;refine Ab Tryz.func217 Tryz.call217 rfl (by kernel_rfl) ?_;simp(disch:=omega)only[go_sem];refine(Vj G B [44]).mono ?_;rintro _ K ⟨I,q2,J,L,rfl,rfl⟩;obtain⟨S,M,O⟩:=Av.1 L;have y:=Ae J hr;have C:=Ae O hr;simp(disch:=omega)only[go_sem];refine ReC (r:=r) (l:=l) (x:=Xq l k) (D:=dW) (a:=k+1) ?_ (Kv.names hk) ?_ ?_ ?_
 ·exact(Fc4 hl).1 _ 230 220 [.optr r 0] [] [] [.optr I 0, .optr q2 0] (Ol l) (byW l Dh)
   (fun H k E hk=>Qd G hl H k E.get hk) (fun H k E hk=>Ts hG hl _ Dh I q2 k y.symm C.symm (Ag (Aa _ _ _) M) (Aa _ _ _) H E hk) (fun _ h=>Kv.name h) Sf k (Ag (Ag hr y) C) hk
 all_goals intros
 repeat' first
  | simp(disch:=omega)only[go_sem]
  | assumption
  | (show SRt _ _ _ _ _;first | with_reducible assumption | apply SRt.at | (apply SRt.refl;assumption) | apply SRt.set | (apply SRt.own<;>first | assumption | skip))
  | ((with_reducible show Es _ _ _);apply SRt.fin (H0:=B) (r:=r) (l:=l))
  | ((with_reducible show Sz _ _ _);apply SRt.finP (H0:=B) (r:=r) (l:=l))
  | ((first | refine SrR.ofK ?_ | refine SrR.ofF ?_ | refine SrR.ofL ?_);simp [Re.mp, *];done)
  | exact y.symm
  | exact C.symm
  | fail
theorem Gi1 (hG:GX G) (h:Cb l) (hl:l.length<=800000):SrF Tryz.prog G l r 303 [.func (.func 304) [] []] (fun k=>(chR l k).mp dCl):=by
 intro B k hr hk;dsimp only;obtain⟨n,h1,h2,h3,-⟩:=Bz4 (l:=l.drop k);rw[List.length_drop] at h2;obtain⟨x,e,hx⟩: ∃x e,Jg (l.drop k)=(x,(n:Int),e):=⟨_,_,by rw[<-h1]⟩;have y:=Uy h k;have D:(0:Int)<=(k:Int):=by omega
 have E:(k:Int)<=(l.length:Int):=by omega
 have I:IntKind.i64.wrap ((k:Int)+(n:Int))=((k+n:Nat):Int):=by rw[IntKind.wrap_i64];omega
 have J:((l.drop k).flatMap Cy).take ((l.length-k)*4)=(l.drop k).flatMap Cy:=List.take_of_length_le (by rw[Ax Aq,List.length_drop];exact Nat.le_refl _);have hc:=fun K=>Cf9 (l:=l.drop k) hG K (by rw[List.length_drop];omega) y;rw[hx] at hc;simp only[Bh,List.length_drop] at hc;rw[chR,hx];refine Ab Tryz.func303 Tryz.call303 rfl (by kernel_rfl) ?_;simp(disch:=omega)only[go_sem, *];refine Aj (by kernel_rfl) (.take 0 (.take 1 (.take 2 (.take 3 (.take 4 (.take 5 (.take 6 (.take 7 (.take 8 (.take 9 (.go 10 [] (.take 11 (.take 12 (.take 13 (.take 14 (.take 15 (.take 16 (.take 17 .done)))))))))))))))))) (by kernel_rfl) ?_
 repeat' first
  | (refine Af.monoR (hc _) ?_)
  | with_reducible refine And.intro ?_ ?_
  | ((with_reducible show Ff _ _ _ _ _);intro q hq;dsimp only at hq;have L:=hq;have hz:=(show Aa7 B _ from(by repeat (first | exact Aa7.refl _ | refine Aa7.upd ?_ _ _))) _ hq;have C:=Ae hz hr;have M:=C.symm;(try have O:=Ae hz hq0);(try have S:=(Ae hz hq0).symm);(try simp only[Av] at hq);(repeat (have U:=hq.1;have hq:=hq.2)))
  | simp(disch:=omega)only[go_sem, *,Bh,Cs8,dCl,jD,Bp8,List.length_drop]
  | (with_reducible refine Lm ?_ ?_<;>intro hb<;>try simp only[decide_eq_true_eq,decide_eq_false_iff_not,Bool.not_eq_true',Bool.not_eq_false'] at hb)
  | (show SRt _ _ _ _ _;first | with_reducible assumption | apply SRt.at | (apply SRt.refl;assumption) | apply SRt.set | (apply SRt.own<;>first | assumption | skip))
  | ((with_reducible show Es _ _ _);apply SRt.fin (H0:=B) (r:=r) (l:=l))
  | ((with_reducible show Sz _ _ _);apply SRt.finP (H0:=B) (r:=r) (l:=l))
  | ((first | refine SrR.ofK ?_ | refine SrR.ofF ?_ | refine SrR.ofL ?_);simp [Re.mp,Re.then,Bp4,dCl, *];done)
  | fail
theorem Fd3 {x:Ex} {k k':Nat} (y:Cb l) (hl:l.length<=500000) (h:exR l 2 k= .ok x k'):Dn 1048576 x:=Aq4 y hl x k' h
def Ds5 (l:List Tok) (k:Nat):Re Typ:=(Xq l k).then fun n i=>Dx l Bt i fun i=> .ok { El with kind:=1,names:=n } i
def Be8 (l:List Tok) (k:Nat):Re Typ:=(Sd l k).then fun b i=> .ok { El with kind:=2,lo:=b.1,hi:=b.2 } i
def Ci4 (l:List Tok) (k:Nat):Re Typ:=Dx l Bi k fun i=>(Bc8 l i).then fun d i=>Dx l Bt i fun i=>Dx l wOf i fun i=>(Wh l i).then fun s i=> .ok { El with kind:=4,disc:=d,sub:=s } i
theorem Gr4 (G:Nat->DVal) (hl:l.length<=800000) (H:Ac) (k:Nat) (hr:H r=some (srO l k)) (hk:k<=l.length):Af Tryz.prog G 237 [.optr r 0] H (SrQ r l H (.bool (byN l k).isSome) ((byN l k).getD k)):=
 (Se G H hr (by omega) (by omega)).mono fun e H' ⟨h1,h2⟩=>by
  subst h1;subst h2;rw[byN];by_cases c:(tk l k).kind=1
  ·rw[if_pos c,decide_eq_true c];exact⟨rfl,(Dv hr).symm⟩
  ·rw[if_neg c,decide_eq_false c];exact⟨rfl,(Dv hr).symm⟩
theorem Dj9 (hG:GX G) (hl:l.length<=800000) (B:Ac) (h k:Nat) (C:h≠r) (D:B h=some (.cells [.optr r 0] 140)) (H:Ac) (y:SRt r l k B H) (hk:k<=l.length):
  Af Tryz.prog G 271 ([]++ []++ [.optr h 0]) H (SrQ r l H (.bool (byI l Ku k).isSome) ((byI l Ku k).getD k)):=by
 have E:H h=some (.cells [.optr r 0] 140):=y _ _ (Ag D C);refine Ab Tryz.func271 Tryz.call271 rfl (by kernel_rfl) ?_;simp(disch:=omega)only[go_sem,jG,E];refine(Ap6 hG H Ku y.get (by omega) (by omega)).mono ?_;rintro _ H1 ⟨rfl,rfl⟩;simp(disch:=omega)only[go_sem];refine Es.refl ⟨?_, ?_⟩
 ·rw[byI];cases isW l k [Ku]<;>rfl
 ·rw[byI];cases isW l k [Ku]<;>exact(Dv y.get).symm
set_option maxHeartbeats 40000000 in
theorem Lh (hG:GX G) (I:Cb l) (M:l.length<=500000):
 SrF Tryz.prog G l r 223 [] (fun k=>(Sd l k).mp (fun b=> .tuple [dE b.1,dE b.2]))/\
 SrF Tryz.prog G l r 219 [] (fun k=>(Rm l k).mp dE)/\
 SrF Tryz.prog G l r 143 [] (fun k=>(Bp6 l k).mp (fun a=> .agg (Qw a)))/\
 SrF Tryz.prog G l r 132 [] (fun k=>(Wh l k).mp (fun a=> .agg (Df a)))/\
 SrF Tryz.prog G l r 192 [] (fun k=>(Be8 l k).mp (fun a=> .agg (Cs a)))/\
 SrF Tryz.prog G l r 191 [] (fun k=>(Ds5 l k).mp (fun a=> .agg (Cs a)))/\
 SrF Tryz.prog G l r 130 [] (fun k=>(Bc8 l k).mp (fun a=> .agg (Dz a)))/\
 SrF Tryz.prog G l r 193 [] (fun k=>(Ci4 l k).mp (fun a=> .agg (Cs a)))/\
 SrF Tryz.prog G l r 236 [] (fun k=>(Ax4 l k).mp (fun a=> .agg (Lk a)))/\
 SrF Tryz.prog G l r 150 [] (fun k=>(Qz l k).mp Ct)/\
 SrF Tryz.prog G l r 270 [] (fun k=>(Bu3 l k).mp (fun a=> .agg (Qc a)))/\
 (∀(B:Ac) (k y:Nat) (C:B y=some (.cells [.optr r 0] 140)) (E:y≠r) (hr:B r=some (srO l k)) (hk:k<=l.length),Af Tryz.prog G 195 [.optr y 0] B (SrR r l B (Re.mp (fun a=> .agg (Cs a)) ((Wh l k).then fun s i=> .ok { El with kind:=3,sub:=s } i))))/\
 (∀(B:Ac) (k y:Nat) (C:B y=some (.cells [.optr r 0] 140)) (E:y≠r) (hr:B r=some (srO l k)) (hk:k<=l.length),Af Tryz.prog G 196 [.optr y 0] B (SrR r l B (Re.mp (fun a=> .agg (Cs a)) ((Wh l k).then fun s i=> .ok { El with kind:=6,sub:=s } i))))/\
 (∀(B:Ac) (k y:Nat) (C:B y=some (.cells [.optr r 0] 140)) (E:y≠r) (hr:B r=some (srO l k)) (hk:k<=l.length),Af Tryz.prog G 198 [.optr y 0] B (SrR r l B (Re.mp (fun a=> .agg (Cs a)) (Dx l Ic k fun i=> .ok { El with kind:=7,limited:=true } i))))/\
 (∀(B:Ac) (k y:Nat) (C:B y=some (.cells [.optr r 0] 140)) (E:y≠r) (hr:B r=some (srO l k)) (hk:k<=l.length),Af Tryz.prog G 200 [.optr y 0] B (SrR r l B (Re.mp (fun a=> .agg (Cs a)) (Dx l Cw k fun i=> .ok { El with kind:=5 } i))))/\
 (∀(B:Ac) (k y:Nat) (C:B y=some (.cells [.optr r 0] 140)) (E:y≠r) (hr:B r=some (srO l k)) (hk:k<=l.length),Af Tryz.prog G 197 [] B (SrR r l B (Re.mp (fun a=> .agg (Cs a)) (.ok { El with kind:=7 } k)))):=by
 have hl:l.length<=800000:=by omega
 refine Aj2 ?_ fun O=>Aj2 ?_ fun S=>Aj2 ?_ fun ad=>Aj2 ?_ fun U=>Aj2 ?_ fun ae=>Aj2 ?_ fun af=>Aj2 ?_ fun V=>Aj2 ?_ fun ag=>Aj2 ?_ fun W=>Aj2 ?_ fun X=>Aj2 ?_ fun ah=>Aj2 ?_ fun _=>Aj2 ?_ fun _=>Aj2 ?_ fun _=>Aj2 ?_ fun _=> ?_;all_goals first | intro B k y C E hr hk;have ai:=E.symm | intro B k hr hk;dsimp only
 case' refine_1=>rw[Sd];refine Ab Tryz.func223 Tryz.call223 rfl (by kernel_rfl) ?_;have Y:=0
 case' refine_2=>rw[Rm];refine Ab Tryz.func219 Tryz.call219 rfl (by kernel_rfl) ?_
 case' refine_3=>rw[Bp6];refine Ab Tryz.func143 Tryz.call143 rfl (by kernel_rfl) ?_
 case' refine_4=>rw[Wh];refine Ab Tryz.func132 Tryz.call132 rfl (by kernel_rfl) ?_
 case' refine_5=>rw[Be8];refine Ab Tryz.func192 Tryz.call192 rfl (by kernel_rfl) ?_
 case' refine_6=>rw[Ds5];refine Ab Tryz.func191 Tryz.call191 rfl (by kernel_rfl) ?_
 case' refine_7=>rw[Bc8];refine Ab Tryz.func130 Tryz.call130 rfl (by kernel_rfl) ?_;have Z:=0
 case' refine_8=>rw[Ci4];refine Ab Tryz.func193 Tryz.call193 rfl (by kernel_rfl) ?_
 case' refine_9=>rw[Ax4];refine Ab Tryz.func236 Tryz.call236 rfl (by kernel_rfl) ?_
 case' refine_10=>rw[Qz];refine Ab Tryz.func150 Tryz.call150 rfl (by kernel_rfl) ?_
 case' refine_11=>rw[Bu3];refine Ab Tryz.func270 Tryz.call270 rfl (by kernel_rfl) ?_
 case' refine_12=>refine Ab Tryz.func195 Tryz.call195 rfl (by kernel_rfl) ?_
 case' refine_13=>refine Ab Tryz.func196 Tryz.call196 rfl (by kernel_rfl) ?_
 case' refine_14=>refine Ab Tryz.func198 Tryz.call198 rfl (by kernel_rfl) ?_
 case' refine_15=>refine Ab Tryz.func200 Tryz.call200 rfl (by kernel_rfl) ?_
 case' refine_16=>refine Ab Tryz.func197 Tryz.call197 rfl (by kernel_rfl) ?_
 all_goals simp(disch:=omega)only[go_sem]
 all_goals
 repeat' first
  | with_reducible refine And.intro ?_ ?_
  | ((with_reducible show Ff _ _ _ _ _);intro q hq;dsimp only at hq;have aa:=hq;have hz:=(show Aa7 B _ from(by repeat (first | exact Aa7.refl _ | refine Aa7.upd ?_ _ _))) _ hq;have J:=Ae hz hr;have ab:=J.symm;(try have nb:=Ae hz C);(try have aj:=(Ae hz C).symm);(try simp only[Av] at hq);(repeat (have ac:=hq.1;have hq:=hq.2)))
  | ((with_reducible refine fun(q:Nat) (hq:_=none)=> ?_);have aa:=hq;(try simp only[Ax5] at hq);(repeat (have ac:=hq.1;have hq:=hq.2));have hz:=hq;have J:=Ae hz hr;have ab:=J.symm)
  | with_reducible refine Go2 hG hl ?_ ?_<;>intros
  | (with_reducible refine ReS (Cw2 hG I hl) Kv.ex0 ?_ ?_ ?_<;>intros)
  | (with_reducible refine ReS (Cw1 hG I hl) Kv.ex2 ?_ ?_ ?_<;>intros)
  | (with_reducible refine ReS (Qd G hl) Kv.name ?_ ?_ ?_<;>intros)
  | (with_reducible refine ReS (Aq6 hG hl) Kv.names ?_ ?_ ?_<;>intros)
  | (with_reducible refine ReS (Bq7 hG I M) Kv.mark ?_ ?_ ?_<;>intros)
  | (with_reducible refine ReS (Gi1 hG I hl) Kv.ch ?_ ?_ ?_<;>intros)
  | (with_reducible refine ReS O Kv.bounds ?_ ?_ ?_<;>intros)
  | (with_reducible refine ReS S Kv.given ?_ ?_ ?_<;>intros)
  | (with_reducible refine ReS U Kv.ind ?_ ?_ ?_<;>intros)
  | (with_reducible refine ReS V Kv.dis ?_ ?_ ?_<;>intros)
  | (with_reducible refine ReS X Kv.cmps ?_ ?_ ?_<;>intros)
  | (with_reducible refine SrI (Ap6 hG _ _ (by repeat' first | assumption | exact Aa _ _ _ | refine Ag ?_ ?_) (by omega) (by omega)) ?_ ?_<;>intros)
  | (with_reducible refine SrN (Se G _ (by repeat' first | assumption | exact Aa _ _ _ | refine Ag ?_ ?_) (by omega) (by omega)) ?_ ?_<;>intros)
  | simp(disch:=omega)only[go_sem, *,dE,Cy,dW,dCl,Ct,Eg,Vi,Bq8,Cn,List.take_append,List.drop_append,Ij,Iv,Gb,Gr,Gc,Gs,jC,Ad,Al,Aw,Bo,Ec,Ed,List.all_append,List.all_cons,List.all_nil,jO,jH,jG,jA,jB,jE,jM,jJ,jR,jL,List.take_nil,jI]
  | refine Go3 hG hl (by rfl) (by assumption) ?_
  | (with_reducible refine Af.monoR (Ma G _ (by repeat' first | assumption | exact Aa _ _ _ | refine Ag ?_ ?_) (by omega) (by omega)) ?_)
  | (with_reducible refine Af.monoR (Mn hG _ _ (Fd3 I M (by assumption))) ?_)
  | (with_reducible refine(Xr G _ (by repeat' first | assumption | exact Aa _ _ _ | refine Ag ?_ ?_)).mono ?_;rintro _ _ ⟨rfl,rfl⟩)
  | (have:=Y;with_reducible refine Aj (by kernel_rfl) (.take 0 (.take 1 (.go 2 [0] (.go 3 [] (.go 4 [] .done))))) (by kernel_rfl) ?_)
  | (have:=Z;with_reducible refine Aj (by kernel_rfl) (.take 0 (.take 1 (.go 2 [0] (.take 3 (.go 4 [] .done))))) (by kernel_rfl) ?_)
  | (with_reducible refine Lm ?_ ?_<;>intro hb<;>try simp only[decide_eq_true_eq,decide_eq_false_iff_not,Bool.not_eq_true',Bool.not_eq_false'] at hb)
  | (with_reducible refine Ot ?_ ?_<;>intro hb<;>try simp only[decide_eq_true_eq,decide_eq_false_iff_not,Bool.not_eq_true',Bool.not_eq_false'] at hb)
  | (show SRt _ _ _ _ _;first | with_reducible assumption | apply SRt.at | (apply SRt.refl;assumption) | apply SRt.set | (apply SRt.own<;>first | assumption | skip))
  | ((with_reducible show Es _ .nilSlice _);refine Es.le DLe.nil ?_)
  | ((with_reducible show Es _ (.agg _) _);apply SRt.finZ (H0:=B) (r:=r) (l:=l))
  | ((with_reducible show Es _ _ _);apply SRt.fin (H0:=B) (r:=r) (l:=l))
  | ((with_reducible show Sz _ _ _);apply SRt.finP (H0:=B) (r:=r) (l:=l))
  | (intro _)
  | ((with_reducible show Af _ _ _ _ _ _);refine ReC (r:=r) (l:=l) (x:=Ax3 l (Ax4 l) (byN l) k) (D:=Ct) (a:=k+1) ((Fc4 hl).2.2.2.1 _ 236 237 [.optr r 0] [] [.optr r 0] [] (Ax4 l) (byN l) (fun H k L hk=>W H k L.get hk) (fun H k L hk=>Gr4 G hl H k L.get hk) (fun _ h=>Kv.cmp h) Be7 k (by repeat' first | assumption | exact Aa _ _ _ | refine Ag ?_ ?_) hk) (Kv.sev (fun _ h=>Kv.cmp h) Be7 hk) ?_ ?_ ?_<;>intros)
  | ((first | refine SrR.ofK ?_ | refine SrR.ofF ?_ | refine SrR.ofL ?_);simp [Re.mp,Re.then,Dx,dE,Cn,nz,Lg,Km,Kn,Pp,Ad,Al,Aw,Ev,Ht,Bi,Bt,Dh,Fk,Kl,Dg,wIn,Tl,It,wIs,Ku,Ml,Cw,Bu0,Tm,wOf,Qj,Ic,Nh,Ez,Bn,Jl,Cs,El,Tz,Ua,Df,Dz,Ct,Eg,dW,Qw,Lk,Qc,dCl, *];done)
  | fail
theorem Cw3 (hG:GX G) (h:Cb l) (y:l.length<=500000):SrF Tryz.prog G l r 219 [] (fun k=>(Rm l k).mp dE):=(Lh (r:=r) hG h y).2.1
theorem Ci5 (hG:GX G) (h:Cb l) (y:l.length<=500000):SrF Tryz.prog G l r 143 [] (fun k=>(Bp6 l k).mp (fun a=> .agg (Qw a))):=(Lh (r:=r) hG h y).2.2.1
theorem Cw4 (hG:GX G) (h:Cb l) (y:l.length<=500000):SrF Tryz.prog G l r 132 [] (fun k=>(Wh l k).mp (fun a=> .agg (Df a))):=(Lh (r:=r) hG h y).2.2.2.1
theorem Ci6 (hG:GX G) (h:Cb l) (y:l.length<=500000):SrF Tryz.prog G l r 192 [] (fun k=>(Be8 l k).mp (fun a=> .agg (Cs a))):=(Lh (r:=r) hG h y).2.2.2.2.1
theorem Dk0 (hG:GX G) (h:Cb l) (y:l.length<=500000):SrF Tryz.prog G l r 191 [] (fun k=>(Ds5 l k).mp (fun a=> .agg (Cs a))):=(Lh (r:=r) hG h y).2.2.2.2.2.1
theorem Cw5 (hG:GX G) (h:Cb l) (y:l.length<=500000):SrF Tryz.prog G l r 130 [] (fun k=>(Bc8 l k).mp (fun a=> .agg (Dz a))):=(Lh (r:=r) hG h y).2.2.2.2.2.2.1
theorem Cw6 (hG:GX G) (h:Cb l) (y:l.length<=500000):SrF Tryz.prog G l r 193 [] (fun k=>(Ci4 l k).mp (fun a=> .agg (Cs a))):=(Lh (r:=r) hG h y).2.2.2.2.2.2.2.1
theorem Bb7 (hG:GX G) (h:Cb l) (y:l.length<=500000):SrF Tryz.prog G l r 150 [] (fun k=>(Qz l k).mp Ct):=(Lh (r:=r) hG h y).2.2.2.2.2.2.2.2.2.1
theorem Eh7 (hG:GX G) (h:Cb l) (y:l.length<=500000):SrF Tryz.prog G l r 270 [] (fun k=>(Bu3 l k).mp (fun a=> .agg (Qc a))):=(Lh (r:=r) hG h y).2.2.2.2.2.2.2.2.2.2.1
set_option maxHeartbeats 8000000 in
theorem Ci7 (hG:GX G) (E:Cb l) (I:l.length<=500000):SrF Tryz.prog G l r 194 [] (fun k=>(Bu4 l k).mp (fun a=> .agg (Cs a))):=by
 have hl:l.length<=800000:=by omega
 intro B k hr hk;dsimp only;rw[Bu4];refine Ab Tryz.func194 Tryz.call194 rfl (by kernel_rfl) ?_;simp(disch:=omega)only[go_sem]
 repeat' first
  | with_reducible refine And.intro ?_ ?_
  | ((with_reducible show Ff _ _ _ _ _);intro q hq;dsimp only at hq;have J:=hq;have hz:=(show Aa7 B _ from(by repeat (first | exact Aa7.refl _ | refine Aa7.upd ?_ _ _))) _ hq;have y:=Ae hz hr;have L:=y.symm;(try have O:=Ae hz hq0);(try have S:=(Ae hz hq0).symm);(try simp only[Av] at hq);(repeat (have M:=hq.1;have hq:=hq.2)))
  | ((with_reducible refine fun(q:Nat) (hq:_=none)=> ?_);have J:=hq;(try simp only[Ax5] at hq);(repeat (have M:=hq.1;have hq:=hq.2));have hz:=hq;have y:=Ae hz hr;have L:=y.symm)
  | with_reducible refine Go2 hG hl ?_ ?_<;>intros
  | (with_reducible refine ReS (Qd G hl) Kv.name ?_ ?_ ?_<;>intros)
  | (with_reducible refine ReS (Bb7 hG E I) Kv.cmps ?_ ?_ ?_<;>intros)
  | (with_reducible refine SrI (Ap6 hG _ _ (by repeat' first | assumption | exact Aa _ _ _ | refine Ag ?_ ?_) (by omega) (by omega)) ?_ ?_<;>intros)
  | (with_reducible refine SrN (Se G _ (by repeat' first | assumption | exact Aa _ _ _ | refine Ag ?_ ?_) (by omega) (by omega)) ?_ ?_<;>intros)
  | simp(disch:=omega)only[go_sem, *,dE,Cy,dW,dCl,Ct,Eg,Vi,Bq8,Cn,List.take_append,List.drop_append,Ij,Iv,Gb,Gr,Gc,Gs,jC,Ad,Al,Aw,Bo,Ec,Ed,List.all_append,List.all_cons,List.all_nil,jO,jH,jG,jA,jB,jE,jM,jJ,jR,jL,List.take_nil,jI]
  | refine Go3 hG hl (by rfl) (by assumption) ?_
  | (with_reducible refine Af.monoR (Ma G _ (by repeat' first | assumption | exact Aa _ _ _ | refine Ag ?_ ?_) (by omega) (by omega)) ?_)
  | (with_reducible refine Lm ?_ ?_<;>intro hb<;>try simp only[decide_eq_true_eq,decide_eq_false_iff_not,Bool.not_eq_true',Bool.not_eq_false'] at hb)
  | (with_reducible refine Ot ?_ ?_<;>intro hb<;>try simp only[decide_eq_true_eq,decide_eq_false_iff_not,Bool.not_eq_true',Bool.not_eq_false'] at hb)
  | (show SRt _ _ _ _ _;first | with_reducible assumption | apply SRt.at | (apply SRt.refl;assumption) | apply SRt.set | (apply SRt.own<;>first | assumption | skip))
  | ((with_reducible show Es _ .nilSlice _);refine Es.le DLe.nil ?_)
  | ((with_reducible show Es _ (.agg _) _);apply SRt.finZ (H0:=B) (r:=r) (l:=l))
  | ((with_reducible show Es _ _ _);apply SRt.fin (H0:=B) (r:=r) (l:=l))
  | ((with_reducible show Sz _ _ _);apply SRt.finP (H0:=B) (r:=r) (l:=l))
  | (intro _)
  | ((with_reducible show Af _ _ _ _ _ _);refine ReC (r:=r) (l:=l) (x:=Bp7 l _) (D:=Eg) ((Fc4 hl).2.2.2.2 _ 270 271 [.optr r 0] [] [] [.optr _ 0] (Bu3 l) (byI l Ku) (fun H k C hk=>Eh7 hG E I H k C.get hk) (fun H k C hk=>Dj9 hG hl _ _ k (by assumption) (by simp [upd, *];done) H C hk) (fun _ h=>Kv.arm h) Ch3 _ (by repeat' first | assumption | exact Aa _ _ _ | refine Ag ?_ ?_) (by omega)) (Kv.arms (by omega)) ?_ ?_ ?_<;>intros)
  | ((first | refine SrR.ofK ?_ | refine SrR.ofF ?_ | refine SrR.ofL ?_);simp [Re.mp,Re.then,Dx,dE,Cn,nz,Lg,Km,Kn,Pp,Ad,Al,Aw,Ev,Ht,Bi,Bt,Dh,Fk,Kl,Dg,wIn,Tl,It,wIs,Ku,Ml,Cw,Bu0,Tm,wOf,Qj,Ic,Nh,Ez,Bn,Jl,Cs,El,Tz,Ua,Df,Dz,Ct,Eg,dW,Qw,Lk,Qc,dCl, *];done)
  | fail
end
def Gi2 (l:List Tok):List (List UInt8×(Nat->Re Typ))->Nat->Re Typ
 | [],k=> .fail k
 | (w,f)::as',k=>if isW l k [w] then f (k+1) else Gi2 l as' k
def Fy3 (l:List Tok):List (List UInt8×(Nat->Re Typ)):=
 [(Bi,Ds5 l),(Ht,Be8 l),(Tm,Ci4 l),(Cw,Bu4 l),(Bu0,fun k=>(Wh l k).then fun s i=> .ok { El with kind:=3,sub:=s } i),(Qj,fun k=>(Wh l k).then fun s i=> .ok { El with kind:=6,sub:=s } i),
  (Ic,fun k=> .ok { El with kind:=7 } k),(Nh,fun k=>Dx l Ic k fun i=> .ok { El with kind:=7,limited:=true } i),(Ez,fun k=>Dx l Cw k fun i=> .ok { El with kind:=5 } i)]
theorem Eh8 (l:List Tok) (k:Nat):Ap5 l k=Gi2 l (Fy3 l) k:=rfl
theorem Nk (x:Typ):(Cs x).take 87=Cs x:=List.take_of_length_le (by rw[Cj];exact Nat.le_refl _)
theorem Ld (t:Typ):(Cs t).map nz=Cs t:=by simp [Cs,Lg,Km,Kn,nz,dW,Ct,Eg]
section
variable {P:Program} {G:Nat->DVal} {f:FuncId} {args:List DVal} {H:Ac} {R:DEnd->Ac->Prop} {r:Nat} {l:List Tok}
theorem Ci8 {α:Type} {x:Re α} {D:α->DVal} (h:Af P G f args H (SrR r l H (x.mp D)))
  (ok: ∀v k,x= .ok v k->R (.ret (D v)) (upd H r (some (srO l k))))
  (fail: ∀k j,x= .fail k->R (.panic (Lc k 40)) (upd H r (some (srO l j))))
  (long: ∀j,x= .long->R (.panic (Lc 0 3)) (upd H r (some (srO l j)))):Af P G f args H R:=h.mono fun e H' hx=>by
 cases x with
 | ok v k=>obtain⟨rfl,rfl⟩:=hx;exact ok v k rfl
 | fail k=>obtain⟨rfl,j,rfl⟩:=hx;exact fail k j rfl
 | long=>obtain⟨rfl,j,rfl⟩:=hx;exact long j rfl
end
section
variable {G:Nat->DVal} {r:Nat} {l:List Tok}
set_option maxHeartbeats 4000000 in
theorem Bu5 (hG:GX G) (U:Cb l) (V:l.length<=500000):SrF Tryz.prog G l r 91 [] (fun k=>(Ap5 l k).mp fun a=> .agg (Cs a)):=by
 have hl:l.length<=800000:=by omega
 intro B k hr hk;dsimp only;refine Ab Tryz.func91 Tryz.call91 rfl (by kernel_rfl) ?_;simp(disch:=omega)only[go_sem];intro q0 hq0;dsimp only at hq0;have n0:=Ae hq0 hr;have y:=n0.symm;simp(disch:=omega)only[go_sem];intro q2 aj;dsimp only at aj;obtain⟨a1,a2,ak⟩:=Av.1 aj;have n2:=Ae ak hr;have m2:=n2.symm;simp(maxSteps:=4000000) (disch:=omega)only[go_sem,a1,a2,n0,y,n2,m2];have z9:Cc 9 [DVal.str [],DVal.nilFunc]= [.str [], .nilFunc, .str [], .nilFunc, .str [], .nilFunc, .str [], .nilFunc, .str [], .nilFunc, .str [], .nilFunc, .str [], .nilFunc, .str [], .nilFunc, .str [], .nilFunc]:=rfl;simp(disch:=omega)only[go_sem,z9,jA,jB,jE,jJ];intro qs Y;dsimp only at Y;obtain⟨b1,b2,Y⟩:=Av.1 Y;obtain⟨b3,b4,Y⟩:=Av.1 Y;have ns:=(Ae Y hr).symm;simp(disch:=omega)only[go_sem];obtain⟨I,O⟩: ∃I:Nat->(Nat->DVal)->Ac->Prop,∀i env heap,I i env heap↔(env 1= .optr q0 0/\env 2= .optr q2 0/\env 26= .oslice 2 qs 0 9 9/\env 27=dI 9/\env 28=dI i/\i<=9/\Ap5 l k=Gi2 l ((Fy3 l).drop i) k/\heap q0=some (.cells [.optr r 0] 140)/\(∃Z:List DVal,Z.length=87/\heap q2=some (.cells Z 62))/\heap qs=some (.cells ([.str Bi, .func (.func 191) [.optr r 0] [], .str Ht, .func (.func 192) [.optr r 0] [], .str Tm, .func (.func 193) [.optr r 0] [], .str Cw, .func (.func 194) [.optr r 0] [], .str Bu0, .func (.func 195) [] [.optr q0 0], .str Qj, .func (.func 196) [] [.optr q0 0], .str Ic, .func (.func 197) [] [], .str Nh, .func (.func 198) [] [.optr q0 0], .str Ez, .func (.func 200) [] [.optr q0 0]]) 251)/\SRt r l k B heap):=⟨_,fun _ _ _=>Iff.rfl⟩;refine Dn5.run I (fun i=>9-i) 0 ((O _ _ _).2 ⟨by simp [upd],by simp [upd],by simp [upd],by simp [upd],by simp [upd],by omega,Eh8 l k,Ag (Ag (Aa _ _ _) a2) b4,⟨_, ?_,Ag (Aa _ _ _) b2⟩,Aa _ _ _,(((SRt.refl hr).own hq0 y _).own ak m2 _).own Y ns _⟩) ?_
 ·rfl
 ·intro i env heap hi;obtain⟨e1,e2,ab,ac,ad,al,ai,h,⟨Z,W,D⟩,C,M⟩:=(O _ _ _).1 hi;have gr:=M.get;have af:Z.drop 87= []:=List.drop_of_length_le (by omega);by_cases am:i<9
  ·rcases(by omega:i=0\/i=1\/i=2\/i=3\/i=4\/i=5\/i=6\/i=7\/i=8) with rfl | rfl | rfl | rfl | rfl | rfl | rfl | rfl | rfl;all_goals
    simp(disch:=omega)only[go_sem,e1,e2,ab,ac,ad,C,jA,jB,jE,jJ];intro q4 ae;dsimp only at ae;have n40:=Ae ae h;have E:=Ae ae D;have J:=Ae ae C;have aa:=Ae ae gr;have ag:=n40.symm;have ah:=E.symm;have L:=aa.symm;have X:=M.lo ae;simp(disch:=omega)only[go_sem,e1,e2,ab,ac,ad,C,h,D,n40,E,J,aa,ag,ah,L,n0,y,n2,m2,a1,a2,Cj,Ld,af,jH,Nk];refine SrM (Sp hG _ _ (Ag gr aa) (by omega) (by omega)) (Ag gr aa) hk ?_ ?_
    ·intro hw ao;have S:=ai.trans (if_pos hw);rw[S];simp(disch:=omega)only[go_sem,e1,e2,ab,ac,ad,C,h,D,n40,E,J,aa,ag,ah,L,n0,y,n2,m2,a1,a2,Cj,Ld,af,jH,Nk];first
     | refine Ci8 (Dk0 hG U V _ _ (Aa _ _ _) (by omega)) ?_ ?_ ?_
     | refine Ci8 (Ci6 hG U V _ _ (Aa _ _ _) (by omega)) ?_ ?_ ?_
     | refine Ci8 (Cw6 hG U V _ _ (Aa _ _ _) (by omega)) ?_ ?_ ?_
     | refine Ci8 (Ci7 hG U V _ _ (Aa _ _ _) (by omega)) ?_ ?_ ?_
     | refine Ci8 ((Lh hG U V).2.2.2.2.2.2.2.2.2.2.2.1 _ _ _ (Ag (Ag h n40) y) y (Aa _ _ _) (by omega)) ?_ ?_ ?_
     | refine Ci8 ((Lh hG U V).2.2.2.2.2.2.2.2.2.2.2.2.1 _ _ _ (Ag (Ag h n40) y) y (Aa _ _ _) (by omega)) ?_ ?_ ?_
     | refine Ci8 ((Lh hG U V).2.2.2.2.2.2.2.2.2.2.2.2.2.1 _ _ _ (Ag (Ag h n40) y) y (Aa _ _ _) (by omega)) ?_ ?_ ?_
     | refine Ci8 ((Lh hG U V).2.2.2.2.2.2.2.2.2.2.2.2.2.2.1 _ _ _ (Ag (Ag h n40) y) y (Aa _ _ _) (by omega)) ?_ ?_ ?_
     | refine Ci8 ((Lh hG U V).2.2.2.2.2.2.2.2.2.2.2.2.2.2.2 _ _ _ (Ag (Ag h n40) y) y (Aa _ _ _) (by omega)) ?_ ?_ ?_
     all_goals intros
     repeat' first
      | simp(disch:=omega)only[go_sem,e1,e2,ab,ac,ad,C,h,D,n40,E,J,aa,ag,ah,L,n0,y,n2,m2,a1,a2,Cj,Ld,af,jH,Nk]
      | (show SRt _ _ _ _ _;first | with_reducible assumption | apply SRt.at | (apply SRt.refl;assumption) | apply SRt.set | (apply SRt.own<;>first | assumption | skip))
      | assumption
      | ((with_reducible show Es _ (.agg _) _);apply SRt.finZ (H0:=B) (r:=r) (l:=l))
      | ((with_reducible show Sz _ _ _);apply SRt.finP (H0:=B) (r:=r) (l:=l))
      | ((first | refine SrR.ofK ?_ | refine SrR.ofF ?_ | refine SrR.ofL ?_);simp [Re.mp,Ld, *];done)
      | (rename_i hx;cases hx;done)
      | (rename_i hx;cases hx;refine SrR.ofK ?_;simp [Re.mp,Ld];done)
      | fail
    ·intro hw;have S:=ai.trans (if_neg (by rw[hw];simp));simp(disch:=omega)only[go_sem,e1,e2,ab,ac,ad,C,h,D,n40,E,J,aa,ag,ah,L,n0,y,n2,m2,a1,a2,Cj,Ld,af,jH,Nk];first
     | refine⟨1,_,Ri.refl _,(O _ _ _).2 ⟨by simp [upd, *];done,by simp [upd, *];done,by simp [upd, *];done,by simp [upd, *];done,by simp [upd, *];done,by omega,S,Ag h n40,⟨Z,W,Ag D E⟩,Ag C J,M.own X L _⟩,by omega⟩
     | refine⟨2,_,Ri.refl _,(O _ _ _).2 ⟨by simp [upd, *];done,by simp [upd, *];done,by simp [upd, *];done,by simp [upd, *];done,by simp [upd, *];done,by omega,S,Ag h n40,⟨Z,W,Ag D E⟩,Ag C J,M.own X L _⟩,by omega⟩
     | refine⟨3,_,Ri.refl _,(O _ _ _).2 ⟨by simp [upd, *];done,by simp [upd, *];done,by simp [upd, *];done,by simp [upd, *];done,by simp [upd, *];done,by omega,S,Ag h n40,⟨Z,W,Ag D E⟩,Ag C J,M.own X L _⟩,by omega⟩
     | refine⟨4,_,Ri.refl _,(O _ _ _).2 ⟨by simp [upd, *];done,by simp [upd, *];done,by simp [upd, *];done,by simp [upd, *];done,by simp [upd, *];done,by omega,S,Ag h n40,⟨Z,W,Ag D E⟩,Ag C J,M.own X L _⟩,by omega⟩
     | refine⟨5,_,Ri.refl _,(O _ _ _).2 ⟨by simp [upd, *];done,by simp [upd, *];done,by simp [upd, *];done,by simp [upd, *];done,by simp [upd, *];done,by omega,S,Ag h n40,⟨Z,W,Ag D E⟩,Ag C J,M.own X L _⟩,by omega⟩
     | refine⟨6,_,Ri.refl _,(O _ _ _).2 ⟨by simp [upd, *];done,by simp [upd, *];done,by simp [upd, *];done,by simp [upd, *];done,by simp [upd, *];done,by omega,S,Ag h n40,⟨Z,W,Ag D E⟩,Ag C J,M.own X L _⟩,by omega⟩
     | refine⟨7,_,Ri.refl _,(O _ _ _).2 ⟨by simp [upd, *];done,by simp [upd, *];done,by simp [upd, *];done,by simp [upd, *];done,by simp [upd, *];done,by omega,S,Ag h n40,⟨Z,W,Ag D E⟩,Ag C J,M.own X L _⟩,by omega⟩
     | refine⟨8,_,Ri.refl _,(O _ _ _).2 ⟨by simp [upd, *];done,by simp [upd, *];done,by simp [upd, *];done,by simp [upd, *];done,by simp [upd, *];done,by omega,S,Ag h n40,⟨Z,W,Ag D E⟩,Ag C J,M.own X L _⟩,by omega⟩
     | refine⟨9,_,Ri.refl _,(O _ _ _).2 ⟨by simp [upd, *];done,by simp [upd, *];done,by simp [upd, *];done,by simp [upd, *];done,by simp [upd, *];done,by omega,S,Ag h n40,⟨Z,W,Ag D E⟩,Ag C J,M.own X L _⟩,by omega⟩
  ·obtain rfl:i=9:=by omega
   simp(disch:=omega)only[go_sem,e1,e2,ab,ac,ad,h];refine(Xr G heap gr).mono ?_;rintro _ H1 ⟨rfl,rfl⟩;simp(disch:=omega)only[go_sem];rw[ai];exact SRt.finP M ⟨rfl,k,rfl⟩
end
section
variable {G:Nat->DVal} {r:Nat} {l:List Tok}
theorem Fd4 {P:Program} {G:Nat->DVal} {N:Nat} {Q:DExit->DS->Prop} {id:Nat} {y:Array Oper} {s:DS} (C:DExit->DS->Prop) (h:dwp P G N (.region id y true) C s) (k: ∀e s',C e s'->Q e s'):dwp P G N (.region id y true) Q s:=by
 simp only[dwp] at h⊢
 intro F n B D a w hS;exact wpIn_mono (h F n B D a w hS) fun e a w ⟨e',s',q,r⟩=>⟨e',s',k _ _ q,r⟩
def Fy4 (a b:Bool):Int:=if b then(if a then 3 else 2) else 1
def Ft2 (es:List (DVal×DVal)):Prop:= ∀a b:Bool,∃i p,Mz (.agg [.bool a, .bool b]) es 0=some (some i)/\es[i]? =some p/\p.2= .int .u8 (Fy4 a b)
def Gr5 (B:Ac) (r:Nat) (l:List Tok) (k q2 q3:Nat) (li:Int) (ns:List (List UInt8)) (e:DExit) (s:DS):Prop:=
 e= .normal/\s.env 0= .optr r 0/\s.env 2= .optr q2 0/\s.env 3= .optr q3 0/\ ∃m es,Ft2 es/\s.env 4= .omap m/\ ∃K:Ac,K m=none/\SRt r l k B K/\(∃Z:List DVal,Z.length=21/\K q2=some (.cells Z 136))/\
  K q3=some (.cells [.vslice (ns.map .str) ns.length, .int .u8 0, .int .u8 0, .int .u8 0, .int .i64 0, .str [], .nilSlice, .nilSlice, .int .i64 0, .int .i64 0, .int .i64 0, .int .u8 0, .int .u8 0, .int .i64 0, .str [], .nilSlice, .nilSlice, .int .i64 0, .int .i64 0, .int .i64 0,dI li] 136)/\s.heap=upd K m (some (.map es))
set_option maxHeartbeats 8000000 in
theorem Cw7 (hG:GX G) (U:Cb l) (V:l.length<=500000):SrF Tryz.prog G l r 120 [] (fun k=>(Ai4 l k).mp fun a=> .agg (Gj a)):=by
 have hl:l.length<=800000:=by omega
 intro B k hr hk;dsimp only;refine Ab Tryz.func120 Tryz.call120 rfl (by kernel_rfl) ?_;simp(disch:=omega)only[go_sem];intro q2 D;dsimp only at D;have I:=Ae D hr;have y:=I.symm;simp(disch:=omega)only[go_sem]
 (with_reducible refine Af.monoR (Ma G _ (by first | assumption | exact Aa _ _ _ | exact Ag (Aa _ _ _) (by assumption) | exact Ag (Ag (Aa _ _ _) (by assumption)) (by assumption) | exact Ag (Ag (Ag (Aa _ _ _) (by assumption)) (by assumption)) (by assumption) | exact Ag (Ag (Ag (Ag (Aa _ _ _) (by assumption)) (by assumption)) (by assumption)) (by assumption) | exact Ag (by assumption) (by assumption) | exact Ag (Ag (by assumption) (by assumption)) (by assumption) | exact Ag (Ag (Ag (by assumption) (by assumption)) (by assumption)) (by assumption) | exact Ag (Ag (Ag (Ag (by assumption) (by assumption)) (by assumption)) (by assumption)) (by assumption)) (by omega) (by omega)) ?_)
 simp(disch:=omega)only[go_sem,Cy];refine ReC (Aq6 hG hl _ _ (Ag hr I) hk) (Kv.names hk) ?_ ?_ ?_
 ·intro ns k1 ab ai W;simp(disch:=omega)only[go_sem,dW];intro q3 C;dsimp only at C;obtain⟨E,J,C⟩:=Av.1 C;obtain⟨O,L,C⟩:=Av.1 C;simp(disch:=omega)only[go_sem,I,y,E,J,O,L];intro q4 X;dsimp only at X;simp(disch:=omega)only[go_sem,I,y,E,J,O,L];refine SrU (Fd2 hG hl _ (by rfl) X (Ag (Aa _ _ _) J) W (by simp)) W ?_;simp(disch:=omega)only[go_sem,Bq8,Vi];refine⟨fun hw aj=> ?_,fun hw j=> ?_⟩
  ·(try simp(disch:=omega)only[go_sem])
   refine Fd4 (Gr5 B r l (k1+1) q2 q3 (tk l k).line ns) ?_ ?_
   ·refine Aj (by kernel_rfl) (.take 1 (.take 3 (.take 5 (.take 7 (.go 0 [] (.alt (.go 4 [] (.alt (.go 6 [] (.alt (.go 8 [] (.go 2 [] (.take 9 (.take 10 .done)))) (.go 2 [] (.go 8 [] (.take 9 (.take 10 .done)))))) (.alt (.go 8 [] (.alt (.go 6 [] (.go 2 [] (.take 9 (.take 10 .done)))) (.go 2 [] (.go 6 [] (.take 9 (.take 10 .done)))))) (.go 2 [] (.alt (.go 8 [] (.go 6 [] (.take 9 (.take 10 .done)))) (.go 6 [] (.go 8 [] (.take 9 (.take 10 .done))))))))) (.alt (.go 6 [] (.alt (.go 4 [] (.alt (.go 8 [] (.go 2 [] (.take 9 (.take 10 .done)))) (.go 2 [] (.go 8 [] (.take 9 (.take 10 .done)))))) (.alt (.go 8 [] (.alt (.go 4 [] (.go 2 [] (.take 9 (.take 10 .done)))) (.go 2 [] (.go 4 [] (.take 9 (.take 10 .done)))))) (.go 2 [] (.alt (.go 8 [] (.go 4 [] (.take 9 (.take 10 .done)))) (.go 4 [] (.go 8 [] (.take 9 (.take 10 .done))))))))) (.alt (.go 8 [] (.alt (.go 4 [] (.alt (.go 6 [] (.go 2 [] (.take 9 (.take 10 .done)))) (.go 2 [] (.go 6 [] (.take 9 (.take 10 .done)))))) (.alt (.go 6 [] (.alt (.go 4 [] (.go 2 [] (.take 9 (.take 10 .done)))) (.go 2 [] (.go 4 [] (.take 9 (.take 10 .done)))))) (.go 2 [] (.alt (.go 6 [] (.go 4 [] (.take 9 (.take 10 .done)))) (.go 4 [] (.go 6 [] (.take 9 (.take 10 .done))))))))) (.go 2 [] (.alt (.go 6 [] (.alt (.go 8 [] (.go 4 [] (.take 9 (.take 10 .done)))) (.go 4 [] (.go 8 [] (.take 9 (.take 10 .done)))))) (.alt (.go 8 [] (.alt (.go 6 [] (.go 4 [] (.take 9 (.take 10 .done)))) (.go 4 [] (.go 6 [] (.take 9 (.take 10 .done)))))) (.go 4 [] (.alt (.go 8 [] (.go 6 [] (.take 9 (.take 10 .done)))) (.go 6 [] (.go 8 [] (.take 9 (.take 10 .done))))))))))))))))) (by kernel_rfl) ?_;simp(disch:=omega)only[go_sem,I,y,E,J,O,L];intro m hm;dsimp only at hm;have M:=fun o1 o2=>((((SRt.refl hr).own D y o1).set k1).own C E o2).set (k1+1)
    repeat' first
     | with_reducible refine And.intro ?_ ?_
     | exact⟨rfl,by simp [upd],by simp [upd],by simp [upd],m,_,(fun a b=>by cases a<;>cases b<;>exact⟨_,_,rfl,rfl,rfl⟩),by simp [upd],_,hm,M _ _,⟨_,rfl,Ag (Ag (Ag (Aa _ _ _) y) L) y⟩,Ag (Aa _ _ _) E,rfl⟩
     | simp(disch:=omega)only[go_sem,Yk,Mz,Yw,Dn3,jT,jS]
     | fail
   ·rintro _ ⟨env,K0⟩ ⟨rfl,Y,x2,x3,m,es,ho,x4,K,hm,M,⟨Z,hZ,g2⟩,g3,aa⟩;dsimp only at Y x2 x3 x4 aa;subst aa;have gr:=M.get;have ac:=Ae hm g2;have ad:=Ae hm g3;have ae:=Ae hm gr;have ak:=ac.symm;have al:=ad.symm;have am:=ae.symm;have ao:=M.lo hm;have ap:Z.drop 21= []:=List.drop_of_length_le (by omega);obtain⟨i1,p1,aq,ar,au⟩:=ho true true;obtain⟨i2,p2,av,aw,ax⟩:=ho true false;obtain⟨i3,p3,ay,a0,a1⟩:=ho false true;obtain⟨i4,p4,a2,a3,a4⟩:=ho false false;simp(disch:=omega)only[go_sem,Y,x2,x3,x4]
    repeat' first
     | (with_reducible refine SrM (Sp hG _ _ (by first | assumption | exact Aa _ _ _ | exact Ag (Aa _ _ _) (by assumption) | exact Ag (Ag (Aa _ _ _) (by assumption)) (by assumption) | exact Ag (Ag (Ag (Aa _ _ _) (by assumption)) (by assumption)) (by assumption) | exact Ag (Ag (Ag (Ag (Aa _ _ _) (by assumption)) (by assumption)) (by assumption)) (by assumption) | exact Ag (by assumption) (by assumption) | exact Ag (Ag (by assumption) (by assumption)) (by assumption) | exact Ag (Ag (Ag (by assumption) (by assumption)) (by assumption)) (by assumption) | exact Ag (Ag (Ag (Ag (by assumption) (by assumption)) (by assumption)) (by assumption)) (by assumption)) (by omega) (by omega)) (by first | assumption | exact Aa _ _ _ | exact Ag (Aa _ _ _) (by assumption) | exact Ag (Ag (Aa _ _ _) (by assumption)) (by assumption) | exact Ag (Ag (Ag (Aa _ _ _) (by assumption)) (by assumption)) (by assumption) | exact Ag (Ag (Ag (Ag (Aa _ _ _) (by assumption)) (by assumption)) (by assumption)) (by assumption) | exact Ag (by assumption) (by assumption) | exact Ag (Ag (by assumption) (by assumption)) (by assumption) | exact Ag (Ag (Ag (by assumption) (by assumption)) (by assumption)) (by assumption) | exact Ag (Ag (Ag (Ag (by assumption) (by assumption)) (by assumption)) (by assumption)) (by assumption)) (by omega) ?_ ?_<;>intros)
     | (with_reducible refine ReC (Bq7 hG U V _ _ (by first | assumption | exact Aa _ _ _ | exact Ag (Aa _ _ _) (by assumption) | exact Ag (Ag (Aa _ _ _) (by assumption)) (by assumption) | exact Ag (Ag (Ag (Aa _ _ _) (by assumption)) (by assumption)) (by assumption) | exact Ag (Ag (Ag (Ag (Aa _ _ _) (by assumption)) (by assumption)) (by assumption)) (by assumption) | exact Ag (by assumption) (by assumption) | exact Ag (Ag (by assumption) (by assumption)) (by assumption) | exact Ag (Ag (Ag (by assumption) (by assumption)) (by assumption)) (by assumption) | exact Ag (Ag (Ag (Ag (by assumption) (by assumption)) (by assumption)) (by assumption)) (by assumption)) (by omega)) (Kv.mark (by omega)) ?_ ?_ ?_<;>intros)
     | (with_reducible refine ReC (Cw3 hG U V _ _ (by first | assumption | exact Aa _ _ _ | exact Ag (Aa _ _ _) (by assumption) | exact Ag (Ag (Aa _ _ _) (by assumption)) (by assumption) | exact Ag (Ag (Ag (Aa _ _ _) (by assumption)) (by assumption)) (by assumption) | exact Ag (Ag (Ag (Ag (Aa _ _ _) (by assumption)) (by assumption)) (by assumption)) (by assumption) | exact Ag (by assumption) (by assumption) | exact Ag (Ag (by assumption) (by assumption)) (by assumption) | exact Ag (Ag (Ag (by assumption) (by assumption)) (by assumption)) (by assumption) | exact Ag (Ag (Ag (Ag (by assumption) (by assumption)) (by assumption)) (by assumption)) (by assumption)) (by omega)) (Kv.given (by omega)) ?_ ?_ ?_<;>intros)
     | with_reducible refine And.intro ?_ ?_
     | ((with_reducible show Ff _ _ _ _ _);intro q hq;dsimp only at hq;have af:=hq;have hz:=(show Aa7 B _ from(by repeat (first | exact Aa7.refl _ | refine Aa7.upd ?_ _ _))) _ hq;have S:=Ae hz hr;have ag:=S.symm;(try have nb:=Ae hz hq0);(try have a5:=(Ae hz hq0).symm);(try simp only[Av] at hq);(repeat (have ah:=hq.1;have hq:=hq.2)))
     | ((with_reducible refine fun(q:Nat) (hq:_=none)=> ?_);have af:=hq;(try simp only[Ax5] at hq);(repeat (have ah:=hq.1;have hq:=hq.2));have hz:=hq;have S:=Ae hz hr;have ag:=S.symm)
     | simp(disch:=omega)only[go_sem, *,dE,Vi,Bq8,Cn,List.take_append,List.drop_append,Ij,Iv,Gb,Gr,Gc,Gs,jC,Ad,Al,Aw,Bo,Ec,Ed,List.all_append,List.all_cons,List.all_nil,jO,jH,jG,jA,jB,jE,jM,jJ,jR,jL,List.take_nil,jI,Fy4,exists_eq_left',Option.some.injEq]
     | (with_reducible refine Lm ?_ ?_<;>intro hb<;>try simp only[decide_eq_true_eq,decide_eq_false_iff_not,Bool.not_eq_true',Bool.not_eq_false'] at hb)
     | (with_reducible refine Ot ?_ ?_<;>intro hb<;>try simp only[decide_eq_true_eq,decide_eq_false_iff_not,Bool.not_eq_true',Bool.not_eq_false'] at hb)
     | (show SRt _ _ _ _ _;first | with_reducible assumption | apply SRt.at | (apply SRt.refl;assumption) | apply SRt.set | (apply SRt.own<;>first | assumption | skip))
     | ((with_reducible show Es _ .nilSlice _);refine Es.le DLe.nil ?_)
     | ((with_reducible show Es _ (.agg _) _);apply SRt.finZ (H0:=B) (r:=r) (l:=l))
     | ((with_reducible show Es _ _ _);apply SRt.fin (H0:=B) (r:=r) (l:=l))
     | ((with_reducible show Sz _ _ _);apply SRt.finP (H0:=B) (r:=r) (l:=l))
     | (intro _)
     | ((first | refine SrR.ofK ?_ | refine SrR.ofF ?_ | refine SrR.ofL ?_);simp [Re.mp,Re.then,Dx,dE,Cn,nz,Lg,Km,Kn,Pp,Ad,Al,Aw,Ev,Ht,Bi,Bt,Dh,Fk,Kl,Dg,wIn,Tl,It,wIs,Ku,Ml,Cw,Bu0,Tm,wOf,Qj,Ic,Nh,Ez,Bn,Jl,Ai4,Uw,Gj,dW, *];done)
     | fail
  ·(try simp(disch:=omega)only[go_sem])
   exact SRt.finP (((((SRt.refl hr).own D y _).set k1).own C E _).set j) (by rw[Ai4,ab];refine SrR.ofF ?_;simp [Re.then,Dx,Re.mp,Fk,hw])
 ·intro i j h;simp(disch:=omega)only[go_sem];exact SRt.finP (((SRt.refl hr).own D y _).set j) (by rw[Ai4,h];exact⟨rfl,j,rfl⟩)
 ·intro j h;simp(disch:=omega)only[go_sem];exact SRt.finP (((SRt.refl hr).own D y _).set j) (by rw[Ai4,h];exact⟨rfl,j,rfl⟩)
end
section
variable {G:Nat->DVal} {r:Nat} {l:List Tok}
theorem Dk1 (hG:GX G) (J:Cb l) (L:l.length<=500000):SrF Tryz.prog G l r 118 [] (fun k=>(Bp5 l k).mp Hr):=by
 have hl:l.length<=800000:=by omega
 intro B k hr hk;dsimp only;refine Ab Tryz.func118 Tryz.call118 rfl (by kernel_rfl) ?_;simp(disch:=omega)only[go_sem];refine(Vj G B [59]).mono ?_;rintro _ K ⟨C,q2,M,O,rfl,rfl⟩;obtain⟨X,S,U⟩:=Av.1 O;have E:=Ae M hr;have I:=Ae U hr;have V:=E.symm;have W:=I.symm;simp(disch:=omega)only[go_sem];refine ReC (r:=r) (l:=l) (x:=Bp5 l k) (D:=Hr) (a:=k+1) ?_ (Kv.pars hk) ?_ ?_ ?_
 ·exact(Fc4 hl).2.1 _ 120 220 [.optr r 0] [] [] [.optr C 0, .optr q2 0] (Ai4 l) (byW l Dg)
   (fun H k y hk=>Cw7 hG J L H k y.get hk) (fun H k y hk=>Ts hG hl _ Dg C q2 k V W (Ag (Aa _ _ _) S) (Aa _ _ _) H y hk) (fun _ h=>Kv.par h) Sf k (Ag (Ag hr E) I) hk
 all_goals intros
 repeat' first
  | simp(disch:=omega)only[go_sem]
  | assumption
  | (show SRt _ _ _ _ _;first | with_reducible assumption | apply SRt.at | (apply SRt.refl;assumption) | apply SRt.set | (apply SRt.own<;>first | assumption | skip))
  | ((with_reducible show Es _ _ _);apply SRt.fin (H0:=B) (r:=r) (l:=l))
  | ((with_reducible show Sz _ _ _);apply SRt.finP (H0:=B) (r:=r) (l:=l))
  | ((first | refine SrR.ofK ?_ | refine SrR.ofF ?_ | refine SrR.ofL ?_);simp [Re.mp, *];done)
  | fail
theorem Dk2 (hG:GX G) (J:Cb l) (L:l.length<=500000):SrF Tryz.prog G l r 141 [] (fun k=>(Bz3 l k).mp Lz):=by
 have hl:l.length<=800000:=by omega
 intro B k hr hk;dsimp only;refine Ab Tryz.func141 Tryz.call141 rfl (by kernel_rfl) ?_;simp(disch:=omega)only[go_sem];refine(Vj G B [44]).mono ?_;rintro _ K ⟨C,q2,M,O,rfl,rfl⟩;obtain⟨X,S,U⟩:=Av.1 O;have E:=Ae M hr;have I:=Ae U hr;have V:=E.symm;have W:=I.symm;simp(disch:=omega)only[go_sem];refine ReC (r:=r) (l:=l) (x:=Bz3 l k) (D:=Lz) (a:=k+1) ?_ (Kv.asps hk) ?_ ?_ ?_
 ·exact(Fc4 hl).2.2.1 _ 143 220 [.optr r 0] [] [] [.optr C 0, .optr q2 0] (Bp6 l) (byW l Dh)
   (fun H k y hk=>Ci5 hG J L H k y.get hk) (fun H k y hk=>Ts hG hl _ Dh C q2 k V W (Ag (Aa _ _ _) S) (Aa _ _ _) H y hk) (fun _ h=>Kv.asp h) Sf k (Ag (Ag hr E) I) hk
 all_goals intros
 repeat' first
  | simp(disch:=omega)only[go_sem]
  | assumption
  | (show SRt _ _ _ _ _;first | with_reducible assumption | apply SRt.at | (apply SRt.refl;assumption) | apply SRt.set | (apply SRt.own<;>first | assumption | skip))
  | ((with_reducible show Es _ _ _);apply SRt.fin (H0:=B) (r:=r) (l:=l))
  | ((with_reducible show Sz _ _ _);apply SRt.finP (H0:=B) (r:=r) (l:=l))
  | ((first | refine SrR.ofK ?_ | refine SrR.ofF ?_ | refine SrR.ofL ?_);simp [Re.mp, *];done)
  | fail
end
section
variable {G:Nat->DVal} {l:List Tok}
def nz2:DVal->DVal
 | .agg cs=> .agg (cs.map nz)
 | v=>nz v
theorem Gi3 (v:DVal):DLe v (nz2 v):=by
 cases v<;>first | exact Fy2 _ | exact fun w H x hx=>(by
  simp only[nz2,Rel] at hx⊢
  obtain⟨xs,rfl,hx⟩:=hx;exact⟨xs,rfl,Ch4 w H _ _ hx⟩)
theorem Ci9 (w:World) (H:Ac): ∀(cs:List DVal) (xs:List Value),Az w H cs xs->Az w H (cs.map nz2) xs
 | [],_,h=>h
 | c::cs,xs,h=>by
  simp only[jN,Az] at h⊢
  obtain⟨y,ys,rfl,h1,h2⟩:=h;exact⟨y,ys,rfl,Gi3 c w H y h1,Ci9 w H cs ys h2⟩
theorem Es.nzT {R:DEnd->Ac->Prop} {cs:List DVal} {H H':Ac} (h:Sub H H') (y:R (.ret (.tuple (cs.map nz2))) H):Es R (.tuple cs) H':=
 Es.sub h (Es.le (fun w H x hx=>by
  simp only[Rel] at hx⊢
  obtain⟨xs,rfl,hx⟩:=hx;exact⟨xs,rfl,Ci9 w H _ _ hx⟩) (.refl y))
def Hv {α:Type} (D:α->DVal) (x:α×Int×Int):DVal:= .tuple [D x.1,dI x.2.1,dI x.2.2]
set_option maxHeartbeats 4000000 in
theorem Eh9 (H:Ac) (hl:l.length<=800000) (g gf:FuncId) (aa:Re (List Par)) (fine:List Par->Bool) (hf: ∀r H,H r=some (srO l 0)->Af Tryz.prog G g [.optr r 0] H (SrR r l H (aa.mp Hr))) (ah: ∀x k,aa= .ok x k-> ∀H,Af Tryz.prog G gf [Hr x] H (Au (.bool (fine x)) H)):
  Af Tryz.prog G 117 [Bh l, .func (.func g) [] [], .func (.func gf) [] []] H (Au (Hv Hr (Ie aa fine [])) H):=by
 refine Ka Tryz.func117 Tryz.func215 Tryz.call117 Tryz.call215 rfl rfl (by kernel_rfl) (by kernel_rfl) rfl ?_;simp(disch:=omega)only[go_sem];intro X S;dsimp only at S;simp(disch:=omega)only[go_sem];intro U I;dsimp only at I;have Y:X≠U:=Ae I (Aa _ _ _);have aj:=Y.symm;have ai:(Bh l).cells= [Bh l]:=rfl;simp(disch:=omega)only[go_sem,ai,jA,jB,jE,jJ,jI,jG];intro Z y;dsimp only at y;have J:X≠Z:=Ae y (An (Aa _ _ _) Y);have L:U≠Z:=Ae y (Aa _ _ _);have ak:H U=none:=((Sub.refl H).new S _).lo I;have ac:H Z=none:=(((Sub.refl H).new S _).new I _).lo y;have al:=J.symm;have am:=L.symm;simp(disch:=omega)only[go_sem];refine(hf Z _ (Aa _ _ _)).mono ?_;intro e C hq;cases hres:aa with
 | ok x k=>
  rw[hres] at hq;obtain⟨rfl,h⟩:=hq;have V:C X=some (.cells [dI 0] 3):=by rw[h,Ak _ _ _ _ J,Ak _ _ _ _ J,Ak _ _ _ _ Y];exact Aa _ _ _
  have W:C U=some (.cells [dI 0] 36):=by rw[h,Ak _ _ _ _ L,Ak _ _ _ _ L];exact Aa _ _ _
  have E:C Z=some (.cells [Bh l,dI k] 246):=by rw[h];exact Aa _ _ _
  have D:Sub H C:=by rw[h];exact(((((Sub.refl H).new S _).new I _).new y _).up ac _)
  have ab:=ah x k hres C;cases hfi:fine x with
  | true=>
   rw[hfi] at ab;rw[Ie,hfi,if_pos rfl];clear h y hres
   repeat' first
    | with_reducible refine And.intro ?_ ?_
    | (with_reducible refine Af.monoR ab ?_)
    | ((with_reducible show Ff _ _ _ _ _);intro q hq;dsimp only at hq;have hz:=(show Sub H _ from(by repeat (first | exact D | refine Sub.up ?_ (by assumption) _))).lo hq;(try simp only[Av] at hq);(repeat (have ad:=hq.1;have hq:=hq.2));have M:=Ae hq V;have O:=Ae hq W;have ae:=M.symm;have af:=O.symm;(try have q7:=Ae hq E);(try have ag:=(Ae hq E).symm))
    | simp(disch:=omega)only[go_sem, *,Lc]
    | refine Aj (by kernel_rfl) pL7 (by kernel_rfl) ?_
    | ((with_reducible show Es _ _ _);refine Es.nzT (H:=H) (by repeat (first | exact D | refine Sub.up ?_ (by assumption) _)) ⟨?_,rfl⟩;simp [Hv,nz2,nz,Hr,Lz,Ct];done)
    | fail
  | false=>
   rw[hfi] at ab;rw[Ie,hfi,if_neg (by simp)];clear h y hres
   repeat' first
    | with_reducible refine And.intro ?_ ?_
    | (with_reducible refine Af.monoR ab ?_)
    | ((with_reducible show Ff _ _ _ _ _);intro q hq;dsimp only at hq;have hz:=(show Sub H _ from(by repeat (first | exact D | refine Sub.up ?_ (by assumption) _))).lo hq;(try simp only[Av] at hq);(repeat (have ad:=hq.1;have hq:=hq.2));have M:=Ae hq V;have O:=Ae hq W;have ae:=M.symm;have af:=O.symm;(try have q7:=Ae hq E);(try have ag:=(Ae hq E).symm))
    | simp(disch:=omega)only[go_sem, *,Lc]
    | refine Aj (by kernel_rfl) pL7 (by kernel_rfl) ?_
    | ((with_reducible show Es _ _ _);refine Es.nzT (H:=H) (by repeat (first | exact D | refine Sub.up ?_ (by assumption) _)) ⟨?_,rfl⟩;simp [Hv,nz2,nz,Hr,Lz,Ct];done)
    | fail
 | fail k=>
  rw[hres] at hq;obtain⟨rfl,j,h⟩:=hq;have V:C X=some (.cells [dI 0] 3):=by rw[h,Ak _ _ _ _ J,Ak _ _ _ _ J,Ak _ _ _ _ Y];exact Aa _ _ _
  have W:C U=some (.cells [dI 0] 36):=by rw[h,Ak _ _ _ _ L,Ak _ _ _ _ L];exact Aa _ _ _
  have D:Sub H C:=by rw[h];exact(((((Sub.refl H).new S _).new I _).new y _).up ac _)
  rw[Ie];clear h y hres
  repeat' first
   |with_reducible refine And.intro ?_ ?_
    | ((with_reducible show Ff _ _ _ _ _);intro q hq;dsimp only at hq;have hz:=(show Sub H _ from(by repeat (first | exact D | refine Sub.up ?_ (by assumption) _))).lo hq;(try simp only[Av] at hq);(repeat (have ad:=hq.1;have hq:=hq.2));have M:=Ae hq V;have O:=Ae hq W;have ae:=M.symm;have af:=O.symm;(try have q7:=Ae hq E);(try have ag:=(Ae hq E).symm))
   | simp(disch:=omega)only[go_sem, *,Lc]
   | refine Aj (by kernel_rfl) pL4 (by kernel_rfl) ?_
   | ((with_reducible show Es _ _ _);refine Es.nzT (H:=H) (by repeat (first | exact D | refine Sub.up ?_ (by assumption) _)) ⟨?_,rfl⟩;simp [Hv,nz2,nz,Hr,Lz,Ct];done)
   | fail
 | long=>
  rw[hres] at hq;obtain⟨rfl,j,h⟩:=hq;have V:C X=some (.cells [dI 0] 3):=by rw[h,Ak _ _ _ _ J,Ak _ _ _ _ J,Ak _ _ _ _ Y];exact Aa _ _ _
  have W:C U=some (.cells [dI 0] 36):=by rw[h,Ak _ _ _ _ L,Ak _ _ _ _ L];exact Aa _ _ _
  have D:Sub H C:=by rw[h];exact(((((Sub.refl H).new S _).new I _).new y _).up ac _)
  rw[Ie];clear h y hres
  repeat' first
   | with_reducible refine And.intro ?_ ?_
   | ((with_reducible show Ff _ _ _ _ _);intro q hq;dsimp only at hq;have hz:=(show Sub H _ from(by repeat (first | exact D | refine Sub.up ?_ (by assumption) _))).lo hq;(try simp only[Av] at hq);(repeat (have ad:=hq.1;have hq:=hq.2));have M:=Ae hq V;have O:=Ae hq W;have ae:=M.symm;have af:=O.symm;(try have q7:=Ae hq E);(try have ag:=(Ae hq E).symm))
   | simp(disch:=omega)only[go_sem, *,Lc]
   | refine Aj (by kernel_rfl) pL4 (by kernel_rfl) ?_
   | ((with_reducible show Es _ _ _);refine Es.nzT (H:=H) (by repeat (first | exact D | refine Sub.up ?_ (by assumption) _)) ⟨?_,rfl⟩;simp [Hv,nz2,nz,Hr,Lz,Ct];done)
   | fail
set_option maxHeartbeats 4000000 in
theorem Ei0 (H:Ac) (hl:l.length<=800000) (g gf:FuncId) (aa:Re (List Asp)) (fine:List Asp->Bool) (hf: ∀r H,H r=some (srO l 0)->Af Tryz.prog G g [.optr r 0] H (SrR r l H (aa.mp Lz))) (ah: ∀x k,aa= .ok x k-> ∀H,Af Tryz.prog G gf [Lz x] H (Au (.bool (fine x)) H)):
  Af Tryz.prog G 140 [Bh l, .func (.func g) [] [], .func (.func gf) [] []] H (Au (Hv Lz (Ie aa fine [])) H):=by
 refine Ka Tryz.func140 Tryz.func229 Tryz.call140 Tryz.call229 rfl rfl (by kernel_rfl) (by kernel_rfl) rfl ?_;simp(disch:=omega)only[go_sem];intro X S;dsimp only at S;simp(disch:=omega)only[go_sem];intro U I;dsimp only at I;have Y:X≠U:=Ae I (Aa _ _ _);have aj:=Y.symm;have ai:(Bh l).cells= [Bh l]:=rfl;simp(disch:=omega)only[go_sem,ai,jA,jB,jE,jJ,jI,jG];intro Z y;dsimp only at y;have J:X≠Z:=Ae y (An (Aa _ _ _) Y);have L:U≠Z:=Ae y (Aa _ _ _);have ak:H U=none:=((Sub.refl H).new S _).lo I;have ac:H Z=none:=(((Sub.refl H).new S _).new I _).lo y;have al:=J.symm;have am:=L.symm;simp(disch:=omega)only[go_sem];refine(hf Z _ (Aa _ _ _)).mono ?_;intro e C hq;cases hres:aa with
 | ok x k=>
  rw[hres] at hq;obtain⟨rfl,h⟩:=hq;have V:C X=some (.cells [dI 0] 3):=by rw[h,Ak _ _ _ _ J,Ak _ _ _ _ J,Ak _ _ _ _ Y];exact Aa _ _ _
  have W:C U=some (.cells [dI 0] 36):=by rw[h,Ak _ _ _ _ L,Ak _ _ _ _ L];exact Aa _ _ _
  have E:C Z=some (.cells [Bh l,dI k] 246):=by rw[h];exact Aa _ _ _
  have D:Sub H C:=by rw[h];exact(((((Sub.refl H).new S _).new I _).new y _).up ac _)
  have ab:=ah x k hres C;cases hfi:fine x with
  | true=>
   rw[hfi] at ab;rw[Ie,hfi,if_pos rfl];clear h y hres
   repeat' first
    | with_reducible refine And.intro ?_ ?_
    | (with_reducible refine Af.monoR ab ?_)
    | ((with_reducible show Ff _ _ _ _ _);intro q hq;dsimp only at hq;have hz:=(show Sub H _ from(by repeat (first | exact D | refine Sub.up ?_ (by assumption) _))).lo hq;(try simp only[Av] at hq);(repeat (have ad:=hq.1;have hq:=hq.2));have M:=Ae hq V;have O:=Ae hq W;have ae:=M.symm;have af:=O.symm;(try have q7:=Ae hq E);(try have ag:=(Ae hq E).symm))
    | simp(disch:=omega)only[go_sem, *,Lc]
    | refine Aj (by kernel_rfl) pL7 (by kernel_rfl) ?_
    | ((with_reducible show Es _ _ _);refine Es.nzT (H:=H) (by repeat (first | exact D | refine Sub.up ?_ (by assumption) _)) ⟨?_,rfl⟩;simp [Hv,nz2,nz,Hr,Lz,Ct];done)
    | fail
  | false=>
   rw[hfi] at ab;rw[Ie,hfi,if_neg (by simp)];clear h y hres
   repeat' first
    | with_reducible refine And.intro ?_ ?_
    | (with_reducible refine Af.monoR ab ?_)
    | ((with_reducible show Ff _ _ _ _ _);intro q hq;dsimp only at hq;have hz:=(show Sub H _ from(by repeat (first | exact D | refine Sub.up ?_ (by assumption) _))).lo hq;(try simp only[Av] at hq);(repeat (have ad:=hq.1;have hq:=hq.2));have M:=Ae hq V;have O:=Ae hq W;have ae:=M.symm;have af:=O.symm;(try have q7:=Ae hq E);(try have ag:=(Ae hq E).symm))
    | simp(disch:=omega)only[go_sem, *,Lc]
    | refine Aj (by kernel_rfl) pL7 (by kernel_rfl) ?_
    | ((with_reducible show Es _ _ _);refine Es.nzT (H:=H) (by repeat (first | exact D | refine Sub.up ?_ (by assumption) _)) ⟨?_,rfl⟩;simp [Hv,nz2,nz,Hr,Lz,Ct];done)
    | fail
 | fail k=>
  rw[hres] at hq;obtain⟨rfl,j,h⟩:=hq;have V:C X=some (.cells [dI 0] 3):=by rw[h,Ak _ _ _ _ J,Ak _ _ _ _ J,Ak _ _ _ _ Y];exact Aa _ _ _
  have W:C U=some (.cells [dI 0] 36):=by rw[h,Ak _ _ _ _ L,Ak _ _ _ _ L];exact Aa _ _ _
  have D:Sub H C:=by rw[h];exact(((((Sub.refl H).new S _).new I _).new y _).up ac _)
  rw[Ie];clear h y hres
  repeat' first
   |with_reducible refine And.intro ?_ ?_
    | ((with_reducible show Ff _ _ _ _ _);intro q hq;dsimp only at hq;have hz:=(show Sub H _ from(by repeat (first | exact D | refine Sub.up ?_ (by assumption) _))).lo hq;(try simp only[Av] at hq);(repeat (have ad:=hq.1;have hq:=hq.2));have M:=Ae hq V;have O:=Ae hq W;have ae:=M.symm;have af:=O.symm;(try have q7:=Ae hq E);(try have ag:=(Ae hq E).symm))
   | simp(disch:=omega)only[go_sem, *,Lc]
   | refine Aj (by kernel_rfl) pL4 (by kernel_rfl) ?_
   | ((with_reducible show Es _ _ _);refine Es.nzT (H:=H) (by repeat (first | exact D | refine Sub.up ?_ (by assumption) _)) ⟨?_,rfl⟩;simp [Hv,nz2,nz,Hr,Lz,Ct];done)
   | fail
 | long=>
  rw[hres] at hq;obtain⟨rfl,j,h⟩:=hq;have V:C X=some (.cells [dI 0] 3):=by rw[h,Ak _ _ _ _ J,Ak _ _ _ _ J,Ak _ _ _ _ Y];exact Aa _ _ _
  have W:C U=some (.cells [dI 0] 36):=by rw[h,Ak _ _ _ _ L,Ak _ _ _ _ L];exact Aa _ _ _
  have D:Sub H C:=by rw[h];exact(((((Sub.refl H).new S _).new I _).new y _).up ac _)
  rw[Ie];clear h y hres
  repeat' first
   | with_reducible refine And.intro ?_ ?_
   | ((with_reducible show Ff _ _ _ _ _);intro q hq;dsimp only at hq;have hz:=(show Sub H _ from(by repeat (first | exact D | refine Sub.up ?_ (by assumption) _))).lo hq;(try simp only[Av] at hq);(repeat (have ad:=hq.1;have hq:=hq.2));have M:=Ae hq V;have O:=Ae hq W;have ae:=M.symm;have af:=O.symm;(try have q7:=Ae hq E);(try have ag:=(Ae hq E).symm))
   | simp(disch:=omega)only[go_sem, *,Lc]
   | refine Aj (by kernel_rfl) pL4 (by kernel_rfl) ?_
   | ((with_reducible show Es _ _ _);refine Es.nzT (H:=H) (by repeat (first | exact D | refine Sub.up ?_ (by assumption) _)) ⟨?_,rfl⟩;simp [Hv,nz2,nz,Hr,Lz,Ct];done)
   | fail
set_option maxHeartbeats 4000000 in
theorem Ei1 (H:Ac) (hl:l.length<=800000) (g gf:FuncId) (aa:Re (List Cmp)) (fine:List Cmp->Bool) (hf: ∀r H,H r=some (srO l 0)->Af Tryz.prog G g [.optr r 0] H (SrR r l H (aa.mp Ct))) (ah: ∀x k,aa= .ok x k-> ∀H,Af Tryz.prog G gf [Ct x] H (Au (.bool (fine x)) H)):
  Af Tryz.prog G 149 [Bh l, .func (.func g) [] [], .func (.func gf) [] []] H (Au (Hv Ct (Ie aa fine [])) H):=by
 refine Ka Tryz.func149 Tryz.func234 Tryz.call149 Tryz.call234 rfl rfl (by kernel_rfl) (by kernel_rfl) rfl ?_;simp(disch:=omega)only[go_sem];intro X S;dsimp only at S;simp(disch:=omega)only[go_sem];intro U I;dsimp only at I;have Y:X≠U:=Ae I (Aa _ _ _);have aj:=Y.symm;have ai:(Bh l).cells= [Bh l]:=rfl;simp(disch:=omega)only[go_sem,ai,jA,jB,jE,jJ,jI,jG];intro Z y;dsimp only at y;have J:X≠Z:=Ae y (An (Aa _ _ _) Y);have L:U≠Z:=Ae y (Aa _ _ _);have ak:H U=none:=((Sub.refl H).new S _).lo I;have ac:H Z=none:=(((Sub.refl H).new S _).new I _).lo y;have al:=J.symm;have am:=L.symm;simp(disch:=omega)only[go_sem];refine(hf Z _ (Aa _ _ _)).mono ?_;intro e C hq;cases hres:aa with
 | ok x k=>
  rw[hres] at hq;obtain⟨rfl,h⟩:=hq;have V:C X=some (.cells [dI 0] 3):=by rw[h,Ak _ _ _ _ J,Ak _ _ _ _ J,Ak _ _ _ _ Y];exact Aa _ _ _
  have W:C U=some (.cells [dI 0] 36):=by rw[h,Ak _ _ _ _ L,Ak _ _ _ _ L];exact Aa _ _ _
  have E:C Z=some (.cells [Bh l,dI k] 246):=by rw[h];exact Aa _ _ _
  have D:Sub H C:=by rw[h];exact(((((Sub.refl H).new S _).new I _).new y _).up ac _)
  have ab:=ah x k hres C;cases hfi:fine x with
  | true=>
   rw[hfi] at ab;rw[Ie,hfi,if_pos rfl];clear h y hres
   repeat' first
    | with_reducible refine And.intro ?_ ?_
    | (with_reducible refine Af.monoR ab ?_)
    | ((with_reducible show Ff _ _ _ _ _);intro q hq;dsimp only at hq;have hz:=(show Sub H _ from(by repeat (first | exact D | refine Sub.up ?_ (by assumption) _))).lo hq;(try simp only[Av] at hq);(repeat (have ad:=hq.1;have hq:=hq.2));have M:=Ae hq V;have O:=Ae hq W;have ae:=M.symm;have af:=O.symm;(try have q7:=Ae hq E);(try have ag:=(Ae hq E).symm))
    | simp(disch:=omega)only[go_sem, *,Lc]
    | refine Aj (by kernel_rfl) pL7 (by kernel_rfl) ?_
    | ((with_reducible show Es _ _ _);refine Es.nzT (H:=H) (by repeat (first | exact D | refine Sub.up ?_ (by assumption) _)) ⟨?_,rfl⟩;simp [Hv,nz2,nz,Hr,Lz,Ct];done)
    | fail
  | false=>
   rw[hfi] at ab;rw[Ie,hfi,if_neg (by simp)];clear h y hres
   repeat' first
    | with_reducible refine And.intro ?_ ?_
    | (with_reducible refine Af.monoR ab ?_)
    | ((with_reducible show Ff _ _ _ _ _);intro q hq;dsimp only at hq;have hz:=(show Sub H _ from(by repeat (first | exact D | refine Sub.up ?_ (by assumption) _))).lo hq;(try simp only[Av] at hq);(repeat (have ad:=hq.1;have hq:=hq.2));have M:=Ae hq V;have O:=Ae hq W;have ae:=M.symm;have af:=O.symm;(try have q7:=Ae hq E);(try have ag:=(Ae hq E).symm))
    | simp(disch:=omega)only[go_sem, *,Lc]
    | refine Aj (by kernel_rfl) pL7 (by kernel_rfl) ?_
    | ((with_reducible show Es _ _ _);refine Es.nzT (H:=H) (by repeat (first | exact D | refine Sub.up ?_ (by assumption) _)) ⟨?_,rfl⟩;simp [Hv,nz2,nz,Hr,Lz,Ct];done)
    | fail
 | fail k=>
  rw[hres] at hq;obtain⟨rfl,j,h⟩:=hq;have V:C X=some (.cells [dI 0] 3):=by rw[h,Ak _ _ _ _ J,Ak _ _ _ _ J,Ak _ _ _ _ Y];exact Aa _ _ _
  have W:C U=some (.cells [dI 0] 36):=by rw[h,Ak _ _ _ _ L,Ak _ _ _ _ L];exact Aa _ _ _
  have D:Sub H C:=by rw[h];exact(((((Sub.refl H).new S _).new I _).new y _).up ac _)
  rw[Ie];clear h y hres
  repeat' first
   |with_reducible refine And.intro ?_ ?_
    | ((with_reducible show Ff _ _ _ _ _);intro q hq;dsimp only at hq;have hz:=(show Sub H _ from(by repeat (first | exact D | refine Sub.up ?_ (by assumption) _))).lo hq;(try simp only[Av] at hq);(repeat (have ad:=hq.1;have hq:=hq.2));have M:=Ae hq V;have O:=Ae hq W;have ae:=M.symm;have af:=O.symm;(try have q7:=Ae hq E);(try have ag:=(Ae hq E).symm))
   | simp(disch:=omega)only[go_sem, *,Lc]
   | refine Aj (by kernel_rfl) pL4 (by kernel_rfl) ?_
   | ((with_reducible show Es _ _ _);refine Es.nzT (H:=H) (by repeat (first | exact D | refine Sub.up ?_ (by assumption) _)) ⟨?_,rfl⟩;simp [Hv,nz2,nz,Hr,Lz,Ct];done)
   | fail
 | long=>
  rw[hres] at hq;obtain⟨rfl,j,h⟩:=hq;have V:C X=some (.cells [dI 0] 3):=by rw[h,Ak _ _ _ _ J,Ak _ _ _ _ J,Ak _ _ _ _ Y];exact Aa _ _ _
  have W:C U=some (.cells [dI 0] 36):=by rw[h,Ak _ _ _ _ L,Ak _ _ _ _ L];exact Aa _ _ _
  have D:Sub H C:=by rw[h];exact(((((Sub.refl H).new S _).new I _).new y _).up ac _)
  rw[Ie];clear h y hres
  repeat' first
   | with_reducible refine And.intro ?_ ?_
   | ((with_reducible show Ff _ _ _ _ _);intro q hq;dsimp only at hq;have hz:=(show Sub H _ from(by repeat (first | exact D | refine Sub.up ?_ (by assumption) _))).lo hq;(try simp only[Av] at hq);(repeat (have ad:=hq.1;have hq:=hq.2));have M:=Ae hq V;have O:=Ae hq W;have ae:=M.symm;have af:=O.symm;(try have q7:=Ae hq E);(try have ag:=(Ae hq E).symm))
   | simp(disch:=omega)only[go_sem, *,Lc]
   | refine Aj (by kernel_rfl) pL4 (by kernel_rfl) ?_
   | ((with_reducible show Es _ _ _);refine Es.nzT (H:=H) (by repeat (first | exact D | refine Sub.up ?_ (by assumption) _)) ⟨?_,rfl⟩;simp [Hv,nz2,nz,Hr,Lz,Ct];done)
   | fail
theorem On (x:Ind):(Df x).take 36=Df x:=Gb x (Nat.le_refl _)
theorem Oo (x:Dis):(Dz x).take 27=Dz x:=Gc x (Nat.le_refl _)
set_option maxHeartbeats 4000000 in
theorem Ei2 (H:Ac) (hl:l.length<=800000) (g gf:FuncId) (Z:Re Ind) (fine:Ind->Bool) (hf: ∀r H,H r=some (srO l 0)->Af Tryz.prog G g [.optr r 0] H (SrR r l H (Z.mp (fun a=> .agg (Df a))))) (al: ∀x k,Z= .ok x k-> ∀H,Af Tryz.prog G gf [.agg (Df x)] H (Au (.bool (fine x)) H)):
  Af Tryz.prog G 131 [Bh l, .func (.func g) [] [], .func (.func gf) [] []] H (Au (Hv (fun a=> .agg (Df a)) (Ie Z fine Tz)) H):=by
 refine Ka Tryz.func131 Tryz.func224 Tryz.call131 Tryz.call224 rfl rfl (by kernel_rfl) (by kernel_rfl) rfl ?_;simp(disch:=omega)only[go_sem];intro r4 aa;dsimp only at aa;simp(disch:=omega)only[go_sem];intro r5 X;dsimp only at X;obtain⟨ar,ac,au⟩:=Av.1 X;simp(disch:=omega)only[go_sem];intro r6 Y;dsimp only at Y;obtain⟨av,ad,am⟩:=Av.1 Y;obtain⟨aw,ae,ax⟩:=Av.1 am;have ao:(Bh l).cells= [Bh l]:=rfl;simp(disch:=omega)only[go_sem,ao,jA,jB,jE,jJ,jI,jG];intro r7 D;dsimp only at D;obtain⟨ay,M,ap⟩:=Av.1 D;obtain⟨a0,O,aq⟩:=Av.1 ap;obtain⟨a1,S,af⟩:=Av.1 aq;simp(disch:=omega)only[go_sem];refine(hf r7 _ (Aa _ _ _)).mono ?_;intro e y hq;cases hres:Z with
 | ok x k=>
  rw[hres] at hq;obtain⟨rfl,h⟩:=hq;have U:=(congrFun h r4).trans (An (An (An (An (Aa _ _ _) ac) ae) S) S);have V:y r5=some (.cells [dI 0] 3):=by rw[h,Ak _ _ _ _ O,Ak _ _ _ _ O,Ak _ _ _ _ ad];exact Aa _ _ _
  have W:y r6=some (.cells [dI 0] 36):=by rw[h,Ak _ _ _ _ M,Ak _ _ _ _ M];exact Aa _ _ _
  have C:Sub H y:=by rw[h];exact((((((Sub.refl H).new aa _).new X _).new Y _).new D _).up af _)
  have E:y r7=some (.cells [Bh l,dI k] 246):=by rw[h];exact Aa _ _ _
  have ab:=al x k hres;cases hfi:fine x with
  | true=>
   rw[hfi] at ab;rw[Ie,hfi,if_pos rfl];clear h D hres
   repeat' first
    | with_reducible refine And.intro ?_ ?_
    | (with_reducible refine Af.monoR (ab _) ?_)
    | ((with_reducible show Ff _ _ _ _ _);intro q hq;dsimp only at hq;have hz:=(show Sub H _ from(by repeat (first | exact C | refine Sub.up ?_ (by assumption) _))).lo hq;(try simp only[Av] at hq);(repeat (have ag:=hq.1;have hq:=hq.2));have I:=Ae hq U;have ah:=I.symm;have J:=Ae hq V;have L:=Ae hq W;have ai:=J.symm;have aj:=L.symm;(try have q7:=Ae hq E);(try have ak:=(Ae hq E).symm))
    | simp(disch:=omega)only[go_sem, *,Lc,Al,On,jH,jL]
    | refine Aj (by kernel_rfl) pL6 (by kernel_rfl) ?_
    | ((with_reducible show Es _ _ _);refine Es.nzT (H:=H) (by repeat (first | exact C | refine Sub.up ?_ (by assumption) _)) ⟨?_,rfl⟩;simp [Hv,nz2,nz,Ld,Km,Kn,Cs,El,Tz,Ua,Df,Dz,Pp,dW,Ct,Eg,Lg];done)
    | fail
  | false=>
   rw[hfi] at ab;rw[Ie,hfi,if_neg (by simp)];clear h D hres
   repeat' first
    | with_reducible refine And.intro ?_ ?_
    | (with_reducible refine Af.monoR (ab _) ?_)
    | ((with_reducible show Ff _ _ _ _ _);intro q hq;dsimp only at hq;have hz:=(show Sub H _ from(by repeat (first | exact C | refine Sub.up ?_ (by assumption) _))).lo hq;(try simp only[Av] at hq);(repeat (have ag:=hq.1;have hq:=hq.2));have I:=Ae hq U;have ah:=I.symm;have J:=Ae hq V;have L:=Ae hq W;have ai:=J.symm;have aj:=L.symm;(try have q7:=Ae hq E);(try have ak:=(Ae hq E).symm))
    | simp(disch:=omega)only[go_sem, *,Lc,Al,On,jH,jL]
    | refine Aj (by kernel_rfl) pL6 (by kernel_rfl) ?_
    | ((with_reducible show Es _ _ _);refine Es.nzT (H:=H) (by repeat (first | exact C | refine Sub.up ?_ (by assumption) _)) ⟨?_,rfl⟩;simp [Hv,nz2,nz,Ld,Km,Kn,Cs,El,Tz,Ua,Df,Dz,Pp,dW,Ct,Eg,Lg];done)
    | fail
 | fail k=>
  rw[hres] at hq;obtain⟨rfl,j,h⟩:=hq;have U:=(congrFun h r4).trans (An (An (An (An (Aa _ _ _) ac) ae) S) S);have V:y r5=some (.cells [dI 0] 3):=by rw[h,Ak _ _ _ _ O,Ak _ _ _ _ O,Ak _ _ _ _ ad];exact Aa _ _ _
  have W:y r6=some (.cells [dI 0] 36):=by rw[h,Ak _ _ _ _ M,Ak _ _ _ _ M];exact Aa _ _ _
  have C:Sub H y:=by rw[h];exact((((((Sub.refl H).new aa _).new X _).new Y _).new D _).up af _)
  rw[Ie];clear h D hres
  repeat' first
   | with_reducible refine And.intro ?_ ?_
   | ((with_reducible show Ff _ _ _ _ _);intro q hq;dsimp only at hq;have hz:=(show Sub H _ from(by repeat (first | exact C | refine Sub.up ?_ (by assumption) _))).lo hq;(try simp only[Av] at hq);(repeat (have ag:=hq.1;have hq:=hq.2));have I:=Ae hq U;have ah:=I.symm;have J:=Ae hq V;have L:=Ae hq W;have ai:=J.symm;have aj:=L.symm;(try have q7:=Ae hq E);(try have ak:=(Ae hq E).symm))
   | simp(disch:=omega)only[go_sem, *,Lc,Al,On,jH,jL]
   | refine Aj (by kernel_rfl) pL4 (by kernel_rfl) ?_
   | ((with_reducible show Es _ _ _);refine Es.nzT (H:=H) (by repeat (first | exact C | refine Sub.up ?_ (by assumption) _)) ⟨?_,rfl⟩;simp [Hv,nz2,nz,Ld,Km,Kn,Cs,El,Tz,Ua,Df,Dz,Pp,dW,Ct,Eg,Lg];done)
   | fail
 | long=>
  rw[hres] at hq;obtain⟨rfl,j,h⟩:=hq;have U:=(congrFun h r4).trans (An (An (An (An (Aa _ _ _) ac) ae) S) S);have V:y r5=some (.cells [dI 0] 3):=by rw[h,Ak _ _ _ _ O,Ak _ _ _ _ O,Ak _ _ _ _ ad];exact Aa _ _ _
  have W:y r6=some (.cells [dI 0] 36):=by rw[h,Ak _ _ _ _ M,Ak _ _ _ _ M];exact Aa _ _ _
  have C:Sub H y:=by rw[h];exact((((((Sub.refl H).new aa _).new X _).new Y _).new D _).up af _)
  rw[Ie];clear h D hres
  repeat' first
   | with_reducible refine And.intro ?_ ?_
   | ((with_reducible show Ff _ _ _ _ _);intro q hq;dsimp only at hq;have hz:=(show Sub H _ from(by repeat (first | exact C | refine Sub.up ?_ (by assumption) _))).lo hq;(try simp only[Av] at hq);(repeat (have ag:=hq.1;have hq:=hq.2));have I:=Ae hq U;have ah:=I.symm;have J:=Ae hq V;have L:=Ae hq W;have ai:=J.symm;have aj:=L.symm;(try have q7:=Ae hq E);(try have ak:=(Ae hq E).symm))
   | simp(disch:=omega)only[go_sem, *,Lc,Al,On,jH,jL]
   | refine Aj (by kernel_rfl) pL4 (by kernel_rfl) ?_
   | ((with_reducible show Es _ _ _);refine Es.nzT (H:=H) (by repeat (first | exact C | refine Sub.up ?_ (by assumption) _)) ⟨?_,rfl⟩;simp [Hv,nz2,nz,Ld,Km,Kn,Cs,El,Tz,Ua,Df,Dz,Pp,dW,Ct,Eg,Lg];done)
   | fail
set_option maxHeartbeats 4000000 in
theorem Ei3 (H:Ac) (hl:l.length<=800000) (g gf:FuncId) (Z:Re Dis) (fine:Dis->Bool) (hf: ∀r H,H r=some (srO l 0)->Af Tryz.prog G g [.optr r 0] H (SrR r l H (Z.mp (fun a=> .agg (Dz a))))) (al: ∀x k,Z= .ok x k-> ∀H,Af Tryz.prog G gf [.agg (Dz x)] H (Au (.bool (fine x)) H)):
  Af Tryz.prog G 129 [Bh l, .func (.func g) [] [], .func (.func gf) [] []] H (Au (Hv (fun a=> .agg (Dz a)) (Ie Z fine Ua)) H):=by
 refine Ka Tryz.func129 Tryz.func221 Tryz.call129 Tryz.call221 rfl rfl (by kernel_rfl) (by kernel_rfl) rfl ?_;simp(disch:=omega)only[go_sem];intro r4 aa;dsimp only at aa;simp(disch:=omega)only[go_sem];intro r5 X;dsimp only at X;obtain⟨ar,ac,au⟩:=Av.1 X;simp(disch:=omega)only[go_sem];intro r6 Y;dsimp only at Y;obtain⟨av,ad,am⟩:=Av.1 Y;obtain⟨aw,ae,ax⟩:=Av.1 am;have ao:(Bh l).cells= [Bh l]:=rfl;simp(disch:=omega)only[go_sem,ao,jA,jB,jE,jJ,jI,jG];intro r7 D;dsimp only at D;obtain⟨ay,M,ap⟩:=Av.1 D;obtain⟨a0,O,aq⟩:=Av.1 ap;obtain⟨a1,S,af⟩:=Av.1 aq;simp(disch:=omega)only[go_sem];refine(hf r7 _ (Aa _ _ _)).mono ?_;intro e y hq;cases hres:Z with
 | ok x k=>
  rw[hres] at hq;obtain⟨rfl,h⟩:=hq;have U:=(congrFun h r4).trans (An (An (An (An (Aa _ _ _) ac) ae) S) S);have V:y r5=some (.cells [dI 0] 3):=by rw[h,Ak _ _ _ _ O,Ak _ _ _ _ O,Ak _ _ _ _ ad];exact Aa _ _ _
  have W:y r6=some (.cells [dI 0] 36):=by rw[h,Ak _ _ _ _ M,Ak _ _ _ _ M];exact Aa _ _ _
  have C:Sub H y:=by rw[h];exact((((((Sub.refl H).new aa _).new X _).new Y _).new D _).up af _)
  have E:y r7=some (.cells [Bh l,dI k] 246):=by rw[h];exact Aa _ _ _
  have ab:=al x k hres;cases hfi:fine x with
  | true=>
   rw[hfi] at ab;rw[Ie,hfi,if_pos rfl];clear h D hres
   repeat' first
    | with_reducible refine And.intro ?_ ?_
    | (with_reducible refine Af.monoR (ab _) ?_)
    | ((with_reducible show Ff _ _ _ _ _);intro q hq;dsimp only at hq;have hz:=(show Sub H _ from(by repeat (first | exact C | refine Sub.up ?_ (by assumption) _))).lo hq;(try simp only[Av] at hq);(repeat (have ag:=hq.1;have hq:=hq.2));have I:=Ae hq U;have ah:=I.symm;have J:=Ae hq V;have L:=Ae hq W;have ai:=J.symm;have aj:=L.symm;(try have q7:=Ae hq E);(try have ak:=(Ae hq E).symm))
    | simp(disch:=omega)only[go_sem, *,Lc,Aw,Oo,jH,jL]
    | refine Aj (by kernel_rfl) pL6 (by kernel_rfl) ?_
    | ((with_reducible show Es _ _ _);refine Es.nzT (H:=H) (by repeat (first | exact C | refine Sub.up ?_ (by assumption) _)) ⟨?_,rfl⟩;simp [Hv,nz2,nz,Ld,Km,Kn,Cs,El,Tz,Ua,Df,Dz,Pp,dW,Ct,Eg,Lg];done)
    | fail
  | false=>
   rw[hfi] at ab;rw[Ie,hfi,if_neg (by simp)];clear h D hres
   repeat' first
    | with_reducible refine And.intro ?_ ?_
    | (with_reducible refine Af.monoR (ab _) ?_)
    | ((with_reducible show Ff _ _ _ _ _);intro q hq;dsimp only at hq;have hz:=(show Sub H _ from(by repeat (first | exact C | refine Sub.up ?_ (by assumption) _))).lo hq;(try simp only[Av] at hq);(repeat (have ag:=hq.1;have hq:=hq.2));have I:=Ae hq U;have ah:=I.symm;have J:=Ae hq V;have L:=Ae hq W;have ai:=J.symm;have aj:=L.symm;(try have q7:=Ae hq E);(try have ak:=(Ae hq E).symm))
    | simp(disch:=omega)only[go_sem, *,Lc,Aw,Oo,jH,jL]
    | refine Aj (by kernel_rfl) pL6 (by kernel_rfl) ?_
    | ((with_reducible show Es _ _ _);refine Es.nzT (H:=H) (by repeat (first | exact C | refine Sub.up ?_ (by assumption) _)) ⟨?_,rfl⟩;simp [Hv,nz2,nz,Ld,Km,Kn,Cs,El,Tz,Ua,Df,Dz,Pp,dW,Ct,Eg,Lg];done)
    | fail
 | fail k=>
  rw[hres] at hq;obtain⟨rfl,j,h⟩:=hq;have U:=(congrFun h r4).trans (An (An (An (An (Aa _ _ _) ac) ae) S) S);have V:y r5=some (.cells [dI 0] 3):=by rw[h,Ak _ _ _ _ O,Ak _ _ _ _ O,Ak _ _ _ _ ad];exact Aa _ _ _
  have W:y r6=some (.cells [dI 0] 36):=by rw[h,Ak _ _ _ _ M,Ak _ _ _ _ M];exact Aa _ _ _
  have C:Sub H y:=by rw[h];exact((((((Sub.refl H).new aa _).new X _).new Y _).new D _).up af _)
  rw[Ie];clear h D hres
  repeat' first
   | with_reducible refine And.intro ?_ ?_
   | ((with_reducible show Ff _ _ _ _ _);intro q hq;dsimp only at hq;have hz:=(show Sub H _ from(by repeat (first | exact C | refine Sub.up ?_ (by assumption) _))).lo hq;(try simp only[Av] at hq);(repeat (have ag:=hq.1;have hq:=hq.2));have I:=Ae hq U;have ah:=I.symm;have J:=Ae hq V;have L:=Ae hq W;have ai:=J.symm;have aj:=L.symm;(try have q7:=Ae hq E);(try have ak:=(Ae hq E).symm))
   | simp(disch:=omega)only[go_sem, *,Lc,Aw,Oo,jH,jL]
   | refine Aj (by kernel_rfl) pL4 (by kernel_rfl) ?_
   | ((with_reducible show Es _ _ _);refine Es.nzT (H:=H) (by repeat (first | exact C | refine Sub.up ?_ (by assumption) _)) ⟨?_,rfl⟩;simp [Hv,nz2,nz,Ld,Km,Kn,Cs,El,Tz,Ua,Df,Dz,Pp,dW,Ct,Eg,Lg];done)
   | fail
 | long=>
  rw[hres] at hq;obtain⟨rfl,j,h⟩:=hq;have U:=(congrFun h r4).trans (An (An (An (An (Aa _ _ _) ac) ae) S) S);have V:y r5=some (.cells [dI 0] 3):=by rw[h,Ak _ _ _ _ O,Ak _ _ _ _ O,Ak _ _ _ _ ad];exact Aa _ _ _
  have W:y r6=some (.cells [dI 0] 36):=by rw[h,Ak _ _ _ _ M,Ak _ _ _ _ M];exact Aa _ _ _
  have C:Sub H y:=by rw[h];exact((((((Sub.refl H).new aa _).new X _).new Y _).new D _).up af _)
  rw[Ie];clear h D hres
  repeat' first
   | with_reducible refine And.intro ?_ ?_
   | ((with_reducible show Ff _ _ _ _ _);intro q hq;dsimp only at hq;have hz:=(show Sub H _ from(by repeat (first | exact C | refine Sub.up ?_ (by assumption) _))).lo hq;(try simp only[Av] at hq);(repeat (have ag:=hq.1;have hq:=hq.2));have I:=Ae hq U;have ah:=I.symm;have J:=Ae hq V;have L:=Ae hq W;have ai:=J.symm;have aj:=L.symm;(try have q7:=Ae hq E);(try have ak:=(Ae hq E).symm))
   | simp(disch:=omega)only[go_sem, *,Lc,Aw,Oo,jH,jL]
   | refine Aj (by kernel_rfl) pL4 (by kernel_rfl) ?_
   | ((with_reducible show Es _ _ _);refine Es.nzT (H:=H) (by repeat (first | exact C | refine Sub.up ?_ (by assumption) _)) ⟨?_,rfl⟩;simp [Hv,nz2,nz,Ld,Km,Kn,Cs,El,Tz,Ua,Df,Dz,Pp,dW,Ct,Eg,Lg];done)
   | fail
set_option maxHeartbeats 4000000 in
theorem Ei4 (H:Ac) (hl:l.length<=800000) (g gf:FuncId) (Z:Re Typ) (fine:Typ->Bool) (hf: ∀r H,H r=some (srO l 0)->Af Tryz.prog G g [.optr r 0] H (SrR r l H (Z.mp (fun a=> .agg (Cs a))))) (al: ∀x k,Z= .ok x k-> ∀H,Af Tryz.prog G gf [.agg (Cs x)] H (Au (.bool (fine x)) H)):
  Af Tryz.prog G 90 [Bh l, .func (.func g) [] [], .func (.func gf) [] []] H (Au (Hv (fun a=> .agg (Cs a)) (Ie Z fine El)) H):=by
 refine Ka Tryz.func90 Tryz.func190 Tryz.call90 Tryz.call190 rfl rfl (by kernel_rfl) (by kernel_rfl) rfl ?_;simp(disch:=omega)only[go_sem];intro r4 aa;dsimp only at aa;simp(disch:=omega)only[go_sem];intro r5 X;dsimp only at X;obtain⟨ar,ac,au⟩:=Av.1 X;simp(disch:=omega)only[go_sem];intro r6 Y;dsimp only at Y;obtain⟨av,ad,am⟩:=Av.1 Y;obtain⟨aw,ae,ax⟩:=Av.1 am;have ao:(Bh l).cells= [Bh l]:=rfl;simp(disch:=omega)only[go_sem,ao,jA,jB,jE,jJ,jI,jG];intro r7 D;dsimp only at D;obtain⟨ay,M,ap⟩:=Av.1 D;obtain⟨a0,O,aq⟩:=Av.1 ap;obtain⟨a1,S,af⟩:=Av.1 aq;simp(disch:=omega)only[go_sem];refine(hf r7 _ (Aa _ _ _)).mono ?_;intro e y hq;cases hres:Z with
 | ok x k=>
  rw[hres] at hq;obtain⟨rfl,h⟩:=hq;have U:=(congrFun h r4).trans (An (An (An (An (Aa _ _ _) ac) ae) S) S);have V:y r5=some (.cells [dI 0] 3):=by rw[h,Ak _ _ _ _ O,Ak _ _ _ _ O,Ak _ _ _ _ ad];exact Aa _ _ _
  have W:y r6=some (.cells [dI 0] 36):=by rw[h,Ak _ _ _ _ M,Ak _ _ _ _ M];exact Aa _ _ _
  have C:Sub H y:=by rw[h];exact((((((Sub.refl H).new aa _).new X _).new Y _).new D _).up af _)
  have E:y r7=some (.cells [Bh l,dI k] 246):=by rw[h];exact Aa _ _ _
  have ab:=al x k hres;cases hfi:fine x with
  | true=>
   rw[hfi] at ab;rw[Ie,hfi,if_pos rfl];clear h D hres
   repeat' first
    | with_reducible refine And.intro ?_ ?_
    | (with_reducible refine Af.monoR (ab _) ?_)
    | ((with_reducible show Ff _ _ _ _ _);intro q hq;dsimp only at hq;have hz:=(show Sub H _ from(by repeat (first | exact C | refine Sub.up ?_ (by assumption) _))).lo hq;(try simp only[Av] at hq);(repeat (have ag:=hq.1;have hq:=hq.2));have I:=Ae hq U;have ah:=I.symm;have J:=Ae hq V;have L:=Ae hq W;have ai:=J.symm;have aj:=L.symm;(try have q7:=Ae hq E);(try have ak:=(Ae hq E).symm))
    | simp(disch:=omega)only[go_sem, *,Lc,Cj,Nk,jH,jL]
    | refine Aj (by kernel_rfl) pL6 (by kernel_rfl) ?_
    | ((with_reducible show Es _ _ _);refine Es.nzT (H:=H) (by repeat (first | exact C | refine Sub.up ?_ (by assumption) _)) ⟨?_,rfl⟩;simp [Hv,nz2,nz,Ld,Km,Kn,Cs,El,Tz,Ua,Df,Dz,Pp,dW,Ct,Eg,Lg];done)
    | fail
  | false=>
   rw[hfi] at ab;rw[Ie,hfi,if_neg (by simp)];clear h D hres
   repeat' first
    | with_reducible refine And.intro ?_ ?_
    | (with_reducible refine Af.monoR (ab _) ?_)
    | ((with_reducible show Ff _ _ _ _ _);intro q hq;dsimp only at hq;have hz:=(show Sub H _ from(by repeat (first | exact C | refine Sub.up ?_ (by assumption) _))).lo hq;(try simp only[Av] at hq);(repeat (have ag:=hq.1;have hq:=hq.2));have I:=Ae hq U;have ah:=I.symm;have J:=Ae hq V;have L:=Ae hq W;have ai:=J.symm;have aj:=L.symm;(try have q7:=Ae hq E);(try have ak:=(Ae hq E).symm))
    | simp(disch:=omega)only[go_sem, *,Lc,Cj,Nk,jH,jL]
    | refine Aj (by kernel_rfl) pL6 (by kernel_rfl) ?_
    | ((with_reducible show Es _ _ _);refine Es.nzT (H:=H) (by repeat (first | exact C | refine Sub.up ?_ (by assumption) _)) ⟨?_,rfl⟩;simp [Hv,nz2,nz,Ld,Km,Kn,Cs,El,Tz,Ua,Df,Dz,Pp,dW,Ct,Eg,Lg];done)
    | fail
 | fail k=>
  rw[hres] at hq;obtain⟨rfl,j,h⟩:=hq;have U:=(congrFun h r4).trans (An (An (An (An (Aa _ _ _) ac) ae) S) S);have V:y r5=some (.cells [dI 0] 3):=by rw[h,Ak _ _ _ _ O,Ak _ _ _ _ O,Ak _ _ _ _ ad];exact Aa _ _ _
  have W:y r6=some (.cells [dI 0] 36):=by rw[h,Ak _ _ _ _ M,Ak _ _ _ _ M];exact Aa _ _ _
  have C:Sub H y:=by rw[h];exact((((((Sub.refl H).new aa _).new X _).new Y _).new D _).up af _)
  rw[Ie];clear h D hres
  repeat' first
   | with_reducible refine And.intro ?_ ?_
   | ((with_reducible show Ff _ _ _ _ _);intro q hq;dsimp only at hq;have hz:=(show Sub H _ from(by repeat (first | exact C | refine Sub.up ?_ (by assumption) _))).lo hq;(try simp only[Av] at hq);(repeat (have ag:=hq.1;have hq:=hq.2));have I:=Ae hq U;have ah:=I.symm;have J:=Ae hq V;have L:=Ae hq W;have ai:=J.symm;have aj:=L.symm;(try have q7:=Ae hq E);(try have ak:=(Ae hq E).symm))
   | simp(disch:=omega)only[go_sem, *,Lc,Cj,Nk,jH,jL]
   | refine Aj (by kernel_rfl) pL4 (by kernel_rfl) ?_
   | ((with_reducible show Es _ _ _);refine Es.nzT (H:=H) (by repeat (first | exact C | refine Sub.up ?_ (by assumption) _)) ⟨?_,rfl⟩;simp [Hv,nz2,nz,Ld,Km,Kn,Cs,El,Tz,Ua,Df,Dz,Pp,dW,Ct,Eg,Lg];done)
   | fail
 | long=>
  rw[hres] at hq;obtain⟨rfl,j,h⟩:=hq;have U:=(congrFun h r4).trans (An (An (An (An (Aa _ _ _) ac) ae) S) S);have V:y r5=some (.cells [dI 0] 3):=by rw[h,Ak _ _ _ _ O,Ak _ _ _ _ O,Ak _ _ _ _ ad];exact Aa _ _ _
  have W:y r6=some (.cells [dI 0] 36):=by rw[h,Ak _ _ _ _ M,Ak _ _ _ _ M];exact Aa _ _ _
  have C:Sub H y:=by rw[h];exact((((((Sub.refl H).new aa _).new X _).new Y _).new D _).up af _)
  rw[Ie];clear h D hres
  repeat' first
   | with_reducible refine And.intro ?_ ?_
   | ((with_reducible show Ff _ _ _ _ _);intro q hq;dsimp only at hq;have hz:=(show Sub H _ from(by repeat (first | exact C | refine Sub.up ?_ (by assumption) _))).lo hq;(try simp only[Av] at hq);(repeat (have ag:=hq.1;have hq:=hq.2));have I:=Ae hq U;have ah:=I.symm;have J:=Ae hq V;have L:=Ae hq W;have ai:=J.symm;have aj:=L.symm;(try have q7:=Ae hq E);(try have ak:=(Ae hq E).symm))
   | simp(disch:=omega)only[go_sem, *,Lc,Cj,Nk,jH,jL]
   | refine Aj (by kernel_rfl) pL4 (by kernel_rfl) ?_
   | ((with_reducible show Es _ _ _);refine Es.nzT (H:=H) (by repeat (first | exact C | refine Sub.up ?_ (by assumption) _)) ⟨?_,rfl⟩;simp [Hv,nz2,nz,Ld,Km,Kn,Cs,El,Tz,Ua,Df,Dz,Pp,dW,Ct,Eg,Lg];done)
   | fail
end
section
variable {G:Nat->DVal} {l:List Tok}
theorem Cw8 (hG:GX G) (H:Ac) (y:l.length<=500000) (C:Cb l):Af Tryz.prog G 35 [Bh l] H (Au (Hv (fun a=> .agg (Df a)) (Aa6 l)) H):=by
 have h:=fun K=>Ei2 K (by omega) 132 104 (Wh l 0) Cr (fun r H hr=>Cw4 hG C y H 0 hr (Nat.zero_le _)) (fun x k hx H=>Qy hG H x (Ad9 C y (Nat.zero_le _) x k hx));refine Ab Tryz.func35 Tryz.call35 rfl (by kernel_rfl) ?_;simp(disch:=omega)only[go_sem];intro J D;dsimp only at D;simp(disch:=omega)only[go_sem];refine Af.monoR (h _) ?_;have E:=Al (Aa6 l).1;have I:=On (Aa6 l).1;change (Df (Ie (Wh l 0) Cr _).1).length=_ at E;change (Df (Ie (Wh l 0) Cr _).1).take _=_ at I;simp(disch:=omega)only[go_sem,Hv,E,I,jH,jL];exact Es.sub ((Sub.refl H).new D _) (.refl ⟨rfl,rfl⟩)
theorem Br0 (hG:GX G) (H:Ac) (y:l.length<=500000) (C:Cb l):Af Tryz.prog G 30 [Bh l] H (Au (Hv (fun a=> .agg (Dz a)) (Tp l)) H):=by
 have h:=fun K=>Ei3 K (by omega) 130 32 (Bc8 l 0) Ib (fun r H hr=>Cw5 hG C y H 0 hr (Nat.zero_le _)) (fun x k hx H=>Ba8 hG H x (Ci2 C y x k hx));refine Ab Tryz.func30 Tryz.call30 rfl (by kernel_rfl) ?_;simp(disch:=omega)only[go_sem];intro J D;dsimp only at D;simp(disch:=omega)only[go_sem];refine Af.monoR (h _) ?_;have E:=Aw (Tp l).1;have I:=Oo (Tp l).1;change (Dz (Ie (Bc8 l 0) Ib _).1).length=_ at E;change (Dz (Ie (Bc8 l 0) Ib _).1).take _=_ at I;simp(disch:=omega)only[go_sem,Hv,E,I,jH,jL];exact Es.sub ((Sub.refl H).new D _) (.refl ⟨rfl,rfl⟩)
theorem Br1 (hG:GX G) (H:Ac) (y:l.length<=500000) (C:Cb l):Af Tryz.prog G 20 [Bh l] H (Au (Hv (fun a=> .agg (Cs a)) (Gf l)) H):=by
 have h:=fun K=>Ei4 K (by omega) 91 24 (Ap5 l 0) Eo (fun r H hr=>Bu5 hG C y H 0 hr (Nat.zero_le _)) (fun x k hx H=>Bb0 hG H x (Ds4 C y (Nat.zero_le _) x k hx));refine Ab Tryz.func20 Tryz.call20 rfl (by kernel_rfl) ?_;simp(disch:=omega)only[go_sem];intro J D;dsimp only at D;simp(disch:=omega)only[go_sem];refine Af.monoR (h _) ?_;have E:=Cj (Gf l).1;have I:=Nk (Gf l).1;change (Cs (Ie (Ap5 l 0) Eo _).1).length=_ at E;change (Cs (Ie (Ap5 l 0) Eo _).1).take _=_ at I;simp(disch:=omega)only[go_sem,Hv,E,I,jH,jL];exact Es.sub ((Sub.refl H).new D _) (.refl ⟨rfl,rfl⟩)
theorem Aq7 (hG:GX G) (H:Ac) (y:l.length<=500000) (C:Cb l):Af Tryz.prog G 26 [Bh l] H (Au (Hv Hr (Mo l)) H):=by
 have h:=fun K=>Eh9 K (by omega) 118 28 (Bp5 l 0) Ii (fun r H hr=>Dk1 hG C y H 0 hr (Nat.zero_le _)) (fun x k hx H=>Tn hG H x (Cw0 C y (Nat.zero_le _) x k hx));refine Ab Tryz.func26 Tryz.call26 rfl (by kernel_rfl) ?_;simp(disch:=omega)only[go_sem];refine Af.monoR (h _) ?_;simp(disch:=omega)only[go_sem,Hv];exact Es.refl ⟨rfl,rfl⟩
theorem Bu6 (hG:GX G) (H:Ac) (y:l.length<=500000) (C:Cb l):Af Tryz.prog G 41 [Bh l] H (Au (Hv Lz (Wi l)) H):=by
 have h:=fun K=>Ei0 K (by omega) 141 139 (Bz3 l 0) Pc (fun r H hr=>Dk2 hG C y H 0 hr (Nat.zero_le _)) (fun x k hx H=>Bc7 hG H x (Fd0 C y (Nat.zero_le _) x k hx));refine Ab Tryz.func41 Tryz.call41 rfl (by kernel_rfl) ?_;simp(disch:=omega)only[go_sem];refine Af.monoR (h _) ?_;simp(disch:=omega)only[go_sem,Hv];exact Es.refl ⟨rfl,rfl⟩
theorem Cw9 (hG:GX G) (H:Ac) (y:l.length<=500000) (C:Cb l):Af Tryz.prog G 45 [Bh l] H (Au (Hv Ct (Ra l)) H):=by
 have h:=fun K=>Ei1 K (by omega) 150 147 (Qz l 0) Mk (fun r H hr=>Bb7 hG C y H 0 hr (Nat.zero_le _)) (fun x k hx H=>Bu2 hG H x (Bq6 C y (Nat.zero_le _) x k hx));refine Ab Tryz.func45 Tryz.call45 rfl (by kernel_rfl) ?_;simp(disch:=omega)only[go_sem];refine Af.monoR (h _) ?_;simp(disch:=omega)only[go_sem,Hv];exact Es.refl ⟨rfl,rfl⟩
end
def SAt (B:Ac) (r:Nat) (ts:List Tok) (H:Ac):Prop:= ∃v,Jf (upd B r (some (.cells [v] 146))) 31 4 ts.length (ts.flatMap Cy) v H
def SrC (P:Program) (G:Nat->DVal) (f:FuncId) (args:List DVal) (t:List Tok):Prop:=
 ∀B r ts H,B r=none->ts.length+t.length<=1000000000->SAt B r ts H->Af P G f (.optr r 0::args) H (fun e H'=>e= .ret (.optr r 0)/\SAt B r (ts++t) H')
section
variable {B B1 H H':Ac} {r x:Nat} {ts:List Tok}
theorem SAt.keep (h:SAt B r ts H) {o:DObj} (hx:B x=some o) (n:x≠r):H x=some o:=by
 obtain⟨v,h⟩:=h;exact h.keep (by rw[Ak _ _ _ _ n];exact hx)
theorem SAt.lo (h:SAt B r ts H) (hx:H x=none):B x=none/\x≠r:=by
 obtain⟨v,h⟩:=h;have:=h.sub.lo hx;simp only[upd] at this;split at this
 ·cases this
 ·exact⟨this,‹_›⟩
theorem SAt.frame (h:SAt B r ts H) (hx:H x=none) (o:DObj):SAt (upd B x (some o)) r ts (upd H x (some o)):=by
 have n:=(h.lo hx).2;obtain⟨v,h⟩:=h;refine⟨v, ?_⟩;rw[Zi n.symm];exact h.frame hx o
theorem SAt.less (h:SAt B r ts H) (s:Sub B1 B):SAt B1 r ts H:=by
 obtain⟨v,h⟩:=h;exact⟨v,h.less (s.both r _)⟩
theorem SAt.drop {o:DObj} (h:SAt (upd B x (some o)) r ts H) (hx:B x=none):SAt B r ts H:=h.less ((Sub.refl B).new hx _)
end
section
variable {G:Nat->DVal} {H:Ac}
set_option maxHeartbeats 4000000 in
theorem Ae0 (hG:GX G) (ws:List (List UInt8)):SrC Tryz.prog G 92 [dW ws] (ws.map Ah):=by
 intro B r ts H hB ah hw;rw[jK] at ah;refine Ab Tryz.func92 Tryz.call92 rfl (by kernel_rfl) ?_;simp(disch:=omega)only[go_sem,dW];obtain⟨I,W⟩: ∃I:Nat->(Nat->DVal)->Ac->Prop,∀j env heap,I j env heap↔(env 0= .optr r 0/\env 8=dW ws/\env 9=dI ws.length/\env 10=dI j/\j<=ws.length/\SAt B r (ts++(ws.take j).map Ah) heap):=⟨_,fun _ _ _=>Iff.rfl⟩;refine Dn5.run I (fun j=>ws.length-j) 0 ((W _ _ _).2 ?_) ?_
 ·simp(disch:=omega)only[go_sem];(repeat' apply And.intro)<;>(try first | rfl | assumption | omega);simpa using hw
 ·intro j env heap hi;obtain⟨h,y,C,D,hj,Z⟩:=(W _ _ _).1 hi;by_cases ae:j<ws.length
  ·have aa:(j:Int)<(ws.length:Int):=by omega
   have af:IntKind.i64.wrap ((j:Int)+1)=((j+1:Nat):Int):=by rw[IntKind.wrap_i64];omega
   have ag:(ws.map DVal.str)[j]? =some (.str ws[j]):=by rw[List.getElem?_map,List.getElem?_eq_getElem ae];rfl
   have ai:(ws.map DVal.str).length=ws.length:=jK _;have ab:(ws.take (j+1)).map Ah=(ws.take j).map Ah++ [Ah ws[j]]:=by rw[List.take_add_one,List.getElem?_eq_getElem ae,Option.toList_some,List.map_append,List.map_singleton]
   obtain⟨s,aj⟩: ∃s,s=ws[j]:=⟨_,rfl⟩;rw[<-aj] at ag ab;simp(disch:=omega)only[go_sem,h,y,C,D,aa,dW,ag,ai,jD];intro r6 X;dsimp only at X;simp(disch:=omega)only[go_sem,h,y,C,D];obtain⟨v,hv⟩:=Z;have E:=hv.keep (Aa _ _ _);have J:r≠r6:=Ae X E;have Y:=J.symm;have ak:(ts++(ws.take j).map Ah).length<=1000000000:=by rw[jC,jK,List.length_take];omega
   refine(Vt hG _ s).mono ?_;rintro _ H2 ⟨rfl,rfl⟩;cases hkb:Tw s with
   | true=>
    have hk:Ah s=⟨2,0,s,0⟩:=by rw[Ah,Il,hkb];rfl
    simp(disch:=omega)only[go_sem,h,y,C,D];refine Aj (by kernel_rfl) pL5 (by kernel_rfl) ?_;simp(disch:=omega)only[go_sem,h,y,C,D,E,J,Y];intro ac L;dsimp only at L;have O:r≠ac:=Ae L (An E J);have ad:=O.symm;have S:=(hv.new X _).new L (some (.cells (Cy (Ah s)) 31));simp(disch:=omega)only[go_sem,h,y,C,D,E,J,Y,O,ad];rw[hk] at S;refine Jf.append (m:=1) S rfl (by omega) fun U H6 M=> ?_;have g6:=M.keep (Aa _ _ _);obtain⟨j1,j2⟩:=M.cell1;simp(disch:=omega)only[go_sem,h,y,C,D,g6,j1,j2];refine⟨j+1,_,Ri.refl _,(W _ _ _).2 ?_,by omega⟩;simp(disch:=omega)only[go_sem,h,y,C,D,af];(repeat' apply And.intro)<;>(try first | rfl | assumption | omega);refine⟨U, ?_⟩;have V:=M.at (Aa _ _ _) (some (.cells [U] 146));rw[Fy] at V;rw[ab,<-jO,Hl,hk,jC,jQ];exact V
   | false=>
    have hk:Ah s=⟨4,0,s,0⟩:=by rw[Ah,Il,hkb];rfl
    simp(disch:=omega)only[go_sem,h,y,C,D];refine Aj (by kernel_rfl) pL5 (by kernel_rfl) ?_;simp(disch:=omega)only[go_sem,h,y,C,D,E,J,Y];intro ac L;dsimp only at L;have O:r≠ac:=Ae L (An E J);have ad:=O.symm;have S:=(hv.new X _).new L (some (.cells (Cy (Ah s)) 31));simp(disch:=omega)only[go_sem,h,y,C,D,E,J,Y,O,ad];rw[hk] at S;refine Jf.append (m:=1) S rfl (by omega) fun U H6 M=> ?_;have g6:=M.keep (Aa _ _ _);obtain⟨j1,j2⟩:=M.cell1;simp(disch:=omega)only[go_sem,h,y,C,D,g6,j1,j2];refine⟨j+1,_,Ri.refl _,(W _ _ _).2 ?_,by omega⟩;simp(disch:=omega)only[go_sem,h,y,C,D,af];(repeat' apply And.intro)<;>(try first | rfl | assumption | omega);refine⟨U, ?_⟩;have V:=M.at (Aa _ _ _) (some (.cells [U] 146));rw[Fy] at V;rw[ab,<-jO,Hl,hk,jC,jQ];exact V
  ·have:j=ws.length:=by omega
   subst this;have aa: ¬(ws.length:Int)<(ws.length:Int):=by omega
   rw[List.take_length] at Z;simp(disch:=omega)only[go_sem,h,y,C,D,aa];exact Es.refl ⟨rfl,Z⟩
set_option maxHeartbeats 4000000 in
theorem Dk3 (hG:GX G) (ws:List (List UInt8)) {B H:Ac} {r q:Nat} {ts:List Tok} (hq:B q=some (.cells (ws.map .str) 9)) (hB:B r=none) (ah:ts.length+(ws.map Ah).length<=1000000000) (hw:SAt B r ts H):
  Af Tryz.prog G 92 [.optr r 0, .oslice 1 q 0 ws.length ws.length] H (fun e H'=>e= .ret (.optr r 0)/\SAt B r (ts++ws.map Ah) H'):=by
 have ai:q≠r:=fun e=>by rw[e,hB] at hq;cases hq
 rw[jK] at ah;refine Ab Tryz.func92 Tryz.call92 rfl (by kernel_rfl) ?_;simp(disch:=omega)only[go_sem,dW];obtain⟨I,W⟩: ∃I:Nat->(Nat->DVal)->Ac->Prop,∀j env heap,I j env heap↔(env 0= .optr r 0/\env 8= .oslice 1 q 0 ws.length ws.length/\env 9=dI ws.length/\env 10=dI j/\j<=ws.length/\SAt B r (ts++(ws.take j).map Ah) heap):=⟨_,fun _ _ _=>Iff.rfl⟩;refine Dn5.run I (fun j=>ws.length-j) 0 ((W _ _ _).2 ?_) ?_
 ·simp(disch:=omega)only[go_sem];(repeat' apply And.intro)<;>(try first | rfl | assumption | omega);simpa using hw
 ·intro j env heap hi;obtain⟨h,y,C,D,hj,X⟩:=(W _ _ _).1 hi;have gq:=X.keep hq ai;by_cases ae:j<ws.length
  ·have aa:(j:Int)<(ws.length:Int):=by omega
   have af:IntKind.i64.wrap ((j:Int)+1)=((j+1:Nat):Int):=by rw[IntKind.wrap_i64];omega
   have ag:(ws.map DVal.str)[j]? =some (.str ws[j]):=by rw[List.getElem?_map,List.getElem?_eq_getElem ae];rfl
   have aj:(ws.map DVal.str).length=ws.length:=jK _;have ab:(ws.take (j+1)).map Ah=(ws.take j).map Ah++ [Ah ws[j]]:=by rw[List.take_add_one,List.getElem?_eq_getElem ae,Option.toList_some,List.map_append,List.map_singleton]
   obtain⟨s,ak⟩: ∃s,s=ws[j]:=⟨_,rfl⟩;rw[<-ak] at ag ab;simp(disch:=omega)only[go_sem,h,y,C,D,aa,gq,ag,aj,jD];intro r6 Y;dsimp only at Y;simp(disch:=omega)only[go_sem,h,y,C,D];obtain⟨v,hv⟩:=X;have E:=hv.keep (Aa _ _ _);have J:r≠r6:=Ae Y E;have Z:=J.symm;have al:(ts++(ws.take j).map Ah).length<=1000000000:=by rw[jC,jK,List.length_take];omega
   refine(Vt hG _ s).mono ?_;rintro _ H2 ⟨rfl,rfl⟩;cases hkb:Tw s with
   | true=>
    have hk:Ah s=⟨2,0,s,0⟩:=by rw[Ah,Il,hkb];rfl
    simp(disch:=omega)only[go_sem,h,y,C,D];refine Aj (by kernel_rfl) pL5 (by kernel_rfl) ?_;simp(disch:=omega)only[go_sem,h,y,C,D,E,J,Z];intro ac L;dsimp only at L;have O:r≠ac:=Ae L (An E J);have ad:=O.symm;have S:=(hv.new Y _).new L (some (.cells (Cy (Ah s)) 31));simp(disch:=omega)only[go_sem,h,y,C,D,E,J,Z,O,ad];rw[hk] at S;refine Jf.append (m:=1) S rfl (by omega) fun U H6 M=> ?_;have g6:=M.keep (Aa _ _ _);obtain⟨j1,j2⟩:=M.cell1;simp(disch:=omega)only[go_sem,h,y,C,D,g6,j1,j2];refine⟨j+1,_,Ri.refl _,(W _ _ _).2 ?_,by omega⟩;simp(disch:=omega)only[go_sem,h,y,C,D,af];(repeat' apply And.intro)<;>(try first | rfl | assumption | omega);refine⟨U, ?_⟩;have V:=M.at (Aa _ _ _) (some (.cells [U] 146));rw[Fy] at V;rw[ab,<-jO,Hl,hk,jC,jQ];exact V
   | false=>
    have hk:Ah s=⟨4,0,s,0⟩:=by rw[Ah,Il,hkb];rfl
    simp(disch:=omega)only[go_sem,h,y,C,D];refine Aj (by kernel_rfl) pL5 (by kernel_rfl) ?_;simp(disch:=omega)only[go_sem,h,y,C,D,E,J,Z];intro ac L;dsimp only at L;have O:r≠ac:=Ae L (An E J);have ad:=O.symm;have S:=(hv.new Y _).new L (some (.cells (Cy (Ah s)) 31));simp(disch:=omega)only[go_sem,h,y,C,D,E,J,Z,O,ad];rw[hk] at S;refine Jf.append (m:=1) S rfl (by omega) fun U H6 M=> ?_;have g6:=M.keep (Aa _ _ _);obtain⟨j1,j2⟩:=M.cell1;simp(disch:=omega)only[go_sem,h,y,C,D,g6,j1,j2];refine⟨j+1,_,Ri.refl _,(W _ _ _).2 ?_,by omega⟩;simp(disch:=omega)only[go_sem,h,y,C,D,af];(repeat' apply And.intro)<;>(try first | rfl | assumption | omega);refine⟨U, ?_⟩;have V:=M.at (Aa _ _ _) (some (.cells [U] 146));rw[Fy] at V;rw[ab,<-jO,Hl,hk,jC,jQ];exact V
  ·have:j=ws.length:=by omega
   subst this;have aa: ¬(ws.length:Int)<(ws.length:Int):=by omega
   rw[List.take_length] at X;simp(disch:=omega)only[go_sem,h,y,C,D,aa];exact Es.refl ⟨rfl,X⟩
end
section
variable {G:Nat->DVal} {H B:Ac} {r:Nat} {ts:List Tok}
theorem SAt.ne {x:Nat} (h:SAt B r ts H) (hx:H x=none):r≠x:=fun e=>(h.lo hx).2 e.symm
theorem SAt.start {B:Ac} {r:Nat} (hr:B r=none):SAt B r [] (upd B r (some (.cells [.nilSlice] 146))):=⟨_, .inl ⟨rfl,rfl,rfl,Sub.refl _⟩⟩
theorem SAt.cell (h:SAt B r ts H) (hr:B r=none): ∃v,H r=some (.cells [v] 146)/\Lt H v B (Bh ts):=by
 obtain⟨v,h⟩:=h;exact⟨v,h.keep (Aa _ _ _),Lt.own (h.less ((Sub.refl B).up hr _))⟩
theorem SAt.sub (h:SAt B r ts H) (hr:B r=none):Sub B H:=by
 obtain⟨v,h⟩:=h;exact((Sub.refl B).up hr _).trans h.sub
def SQ (B:Ac) (r:Nat) (ts:List Tok) (e:DEnd) (H':Ac):Prop:=e= .ret (.optr r 0)/\SAt B r ts H'
theorem Ab1 (hG:GX G) (s:List UInt8) {q:Nat} (h:H q=none) (y:B r=none) (C:ts.length+1<=1000000000) (hw:SAt B r ts H):Af Tryz.prog G 92 [.optr r 0, .oslice 1 q 0 1 1] (upd H q (some (.cells [.str s] 9))) (SQ B r (ts++ [Ah s])):=by
 refine Af.fzA q h ?_;have n:r≠q:=hw.ne h;simp only[fzs,fz,if_neg n,if_pos];exact Ae0 hG [s] B r ts H y C hw
theorem Go5 (hG:GX G) (s t:List UInt8) {q:Nat} (h:H q=none) (y:B r=none) (C:ts.length+2<=1000000000) (hw:SAt B r ts H):Af Tryz.prog G 92 [.optr r 0, .oslice 1 q 0 2 2] (upd H q (some (.cells [.str s, .str t] 9))) (SQ B r (ts++ [Ah s,Ah t])):=by
 refine Af.fzA q h ?_;have n:r≠q:=hw.ne h;simp only[fzs,fz,if_neg n,if_pos];exact Ae0 hG [s,t] B r ts H y C hw
end
theorem Xt (ts:List Tok):(ts.flatMap Cy).all (fun d=>d.one)=true:=by
 rw[List.all_eq_true];intro d hd;obtain⟨t,_,hd⟩:=List.mem_flatMap.1 hd;exact List.all_eq_true.1 (Jj t) d hd
theorem Vk (ts:List Tok):(ts.flatMap Cy).take (ts.length*4)=ts.flatMap Cy:=List.take_of_length_le (by rw[Ax Aq];omega)
section
end
section
end
theorem Aj3 {ws:List (List UInt8)} (h:0<ws.length):Cp (ws.take 1)= [Ci ws[0]]:=by
 cases ws with
 | nil=>simp at h
 | cons s l=>rfl
theorem Ab2 {ws:List (List UInt8)} {j:Nat} (h:j<ws.length) (y:0<j):Cp (ws.take (j+1))=Cp (ws.take j)++ [Ah Dh,Ci ws[j]]:=by
 unfold Cp;rw[Qa h,List.map_append,List.map_singleton,Ad0 _ _ _ (by
  intro e;have:=congrArg List.length e;rw[jK,List.length_take,jB] at this;omega)]
theorem Qe {ws:List (List UInt8)}: ∀j,j<=ws.length->(Cp (ws.take j)).length=2*j-1
 | 0,_=>rfl
 | 1,h=>by rw[Aj3 (by omega)];rfl
 | j+2,h=>by
  rw[Ab2 (by omega) (by omega),jC,Qe (j+1) (by omega)];simp only[jA,jB];omega
section
variable {G:Nat->DVal}
set_option maxHeartbeats 4000000 in
theorem Iw (hG:GX G) (ws:List (List UInt8)) (aj:ws.length<=100000000):SrC Tryz.prog G 93 [dW ws] (Cp ws):=by
 intro B r ts H hB ak hw;have ah:=Qe ws.length (Nat.le_refl _);rw[List.take_length] at ah;refine Ab Tryz.func93 Tryz.call93 rfl (by kernel_rfl) ?_;simp(disch:=omega)only[go_sem,dW];obtain⟨I,W⟩: ∃I:Nat->(Nat->DVal)->Ac->Prop,∀j env heap,I j env heap↔(env 0= .optr r 0/\env 7=dW ws/\env 8=dI ws.length/\env 9=dI j/\j<=ws.length/\SAt B r (ts++Cp (ws.take j)) heap):=⟨_,fun _ _ _=>Iff.rfl⟩;refine Dn5.run I (fun j=>ws.length-j) 0 ((W _ _ _).2 ?_) ?_
 ·simp(disch:=omega)only[go_sem];(repeat' apply And.intro)<;>(try first | rfl | assumption | omega);rw[show Cp []= [] from rfl,jH];exact hw
 ·intro j env heap hi;obtain⟨h,y,C,D,hj,X⟩:=(W _ _ _).1 hi;by_cases aa:j<ws.length
  ·have Y:(j:Int)<(ws.length:Int):=by omega
   have af:IntKind.i64.wrap ((j:Int)+1)=((j+1:Nat):Int):=by rw[IntKind.wrap_i64];omega
   have Z:(ws.map DVal.str)[j]? =some (.str ws[j]):=by rw[List.getElem?_map,List.getElem?_eq_getElem aa];rfl
   have ag:(ws.map DVal.str).length=ws.length:=jK _;have al:=Qe j hj;by_cases j0:j=0
   ·subst j0;have M:Cp (ws.take (0+1))= []++ [Ci ws[0]]:=Aj3 aa;obtain⟨s,ab⟩: ∃s,s=ws[0]:=⟨_,rfl⟩;rw[<-ab] at Z M;have O:SAt B r (ts++ []) heap:=X;simp(disch:=omega)only[go_sem,h,y,C,D,Y,dW,Z,ag,jD];have am:(ts++([]:List Tok)).length+1<=1000000000:=by rw[jH];omega
    rw[jH] at O;rw[jG] at M;obtain⟨v,hv⟩:=O;have E:=hv.keep (Aa _ _ _);simp(disch:=omega)only[go_sem,h,y,C,D,E];intro ac J;dsimp only at J;have S:r≠ac:=Ae J E;have ad:=S.symm;have ae:=hv.new J (some (.cells (Cy (Ci s)) 31));simp(disch:=omega)only[go_sem,h,y,C,D,E,S,ad];refine Jf.append (m:=1) ae rfl (by omega) fun U H6 L=> ?_;have g6:=L.keep (Aa _ _ _);obtain⟨j1,j2⟩:=L.cell1;simp(disch:=omega)only[go_sem,h,y,C,D,g6,j1,j2];refine⟨0+1,_,Ri.refl _,(W _ _ _).2 ?_,by omega⟩;simp(disch:=omega)only[go_sem,h,y,C,D,af];(repeat' apply And.intro)<;>(try first | rfl | assumption | omega);refine⟨U, ?_⟩;have V:=L.at (Aa _ _ _) (some (.cells [U] 146));rw[Fy] at V;rw[M,Hl,jC,jQ];exact V
   ·have ai:(0:Int)<(j:Int):=by omega
    have M:Cp (ws.take (j+1))=(Cp (ws.take j)++ [Ah Dh])++ [Ci ws[j]]:=by rw[Ab2 aa (by omega)];simp
    obtain⟨s,ab⟩: ∃s,s=ws[j]:=⟨_,rfl⟩;rw[<-ab] at Z M;simp(disch:=omega)only[go_sem,h,y,C,D,Y,dW,Z,ag,jD,ai];intro q hq;dsimp only at hq;simp(disch:=omega)only[go_sem,h,y,C,D];refine(Ab1 hG Dh hq hB (by rw[jC];omega) X).mono ?_;rintro _ H2 ⟨rfl,O⟩;rw[jO] at O;simp(disch:=omega)only[go_sem,h,y,C,D];obtain⟨v,hv⟩:=O;have E:=hv.keep (Aa _ _ _);simp(disch:=omega)only[go_sem,h,y,C,D,E];intro ac J;dsimp only at J;have S:r≠ac:=Ae J E;have ad:=S.symm;have ae:=hv.new J (some (.cells (Cy (Ci s)) 31));simp(disch:=omega)only[go_sem,h,y,C,D,E,S,ad];refine Jf.append (m:=1) ae rfl (by simp only[jC,jA,jB];omega) fun U H6 L=> ?_;have g6:=L.keep (Aa _ _ _);obtain⟨j1,j2⟩:=L.cell1;simp(disch:=omega)only[go_sem,h,y,C,D,g6,j1,j2];refine⟨j+1,_,Ri.refl _,(W _ _ _).2 ?_,by omega⟩;simp(disch:=omega)only[go_sem,h,y,C,D,af];(repeat' apply And.intro)<;>(try first | rfl | assumption | omega);refine⟨U, ?_⟩;have V:=L.at (Aa _ _ _) (some (.cells [U] 146));rw[Fy] at V;rw[M,<-jO,Hl,jC,jQ];exact V
  ·have:j=ws.length:=by omega
   subst this;have Y: ¬(ws.length:Int)<(ws.length:Int):=by omega
   rw[List.take_length] at X;simp(disch:=omega)only[go_sem,h,y,C,D,Y];exact Es.refl ⟨rfl,X⟩
set_option maxHeartbeats 4000000 in
theorem Cj0 (hG:GX G) (ws:List (List UInt8)) (am:ws.length<=100000000) {B H:Ac} {r X:Nat} {ts:List Tok} (ab:B X=some (.cells (ws.map .str) 9)) (hB:B r=none) (ao:ts.length+(Cp ws).length<=1000000000) (hw:SAt B r ts H):
  Af Tryz.prog G 93 [.optr r 0, .oslice 1 X 0 ws.length ws.length] H (fun e H'=>e= .ret (.optr r 0)/\SAt B r (ts++Cp ws) H'):=by
 have aj:X≠r:=fun e=>by rw[e,hB] at ab;cases ab
 have ak:=Qe ws.length (Nat.le_refl _);rw[List.take_length] at ak;refine Ab Tryz.func93 Tryz.call93 rfl (by kernel_rfl) ?_;simp(disch:=omega)only[go_sem,dW];obtain⟨I,Y⟩: ∃I:Nat->(Nat->DVal)->Ac->Prop,∀j env heap,I j env heap↔(env 0= .optr r 0/\env 7= .oslice 1 X 0 ws.length ws.length/\env 8=dI ws.length/\env 9=dI j/\j<=ws.length/\SAt B r (ts++Cp (ws.take j)) heap):=⟨_,fun _ _ _=>Iff.rfl⟩;refine Dn5.run I (fun j=>ws.length-j) 0 ((Y _ _ _).2 ?_) ?_
 ·simp(disch:=omega)only[go_sem];(repeat' apply And.intro)<;>(try first | rfl | assumption | omega);rw[show Cp []= [] from rfl,jH];exact hw
 ·intro j env heap hi;obtain⟨h,y,C,D,hj,O⟩:=(Y _ _ _).1 hi;have gq:=O.keep ab aj;by_cases ac:j<ws.length
  ·have Z:(j:Int)<(ws.length:Int):=by omega
   have ah:IntKind.i64.wrap ((j:Int)+1)=((j+1:Nat):Int):=by rw[IntKind.wrap_i64];omega
   have aa:(ws.map DVal.str)[j]? =some (.str ws[j]):=by rw[List.getElem?_map,List.getElem?_eq_getElem ac];rfl
   have ai:(ws.map DVal.str).length=ws.length:=jK _;have ap:=Qe j hj;by_cases j0:j=0
   ·subst j0;have M:Cp (ws.take (0+1))= []++ [Ci ws[0]]:=Aj3 ac;obtain⟨s,ad⟩: ∃s,s=ws[0]:=⟨_,rfl⟩;rw[<-ad] at aa M;have S:SAt B r (ts++ []) heap:=O;simp(disch:=omega)only[go_sem,h,y,C,D,Z,gq,aa,ai,jD];have aq:(ts++([]:List Tok)).length+1<=1000000000:=by rw[jH];omega
    rw[jH] at S;rw[jG] at M;obtain⟨v,hv⟩:=S;have E:=hv.keep (Aa _ _ _);simp(disch:=omega)only[go_sem,h,y,C,D,E];intro ae J;dsimp only at J;have U:r≠ae:=Ae J E;have af:=U.symm;have ag:=hv.new J (some (.cells (Cy (Ci s)) 31));simp(disch:=omega)only[go_sem,h,y,C,D,E,U,af];refine Jf.append (m:=1) ag rfl (by omega) fun V H6 L=> ?_;have g6:=L.keep (Aa _ _ _);obtain⟨j1,j2⟩:=L.cell1;simp(disch:=omega)only[go_sem,h,y,C,D,g6,j1,j2];refine⟨0+1,_,Ri.refl _,(Y _ _ _).2 ?_,by omega⟩;simp(disch:=omega)only[go_sem,h,y,C,D,ah];(repeat' apply And.intro)<;>(try first | rfl | assumption | omega);refine⟨V, ?_⟩;have W:=L.at (Aa _ _ _) (some (.cells [V] 146));rw[Fy] at W;rw[M,Hl,jC,jQ];exact W
   ·have al:(0:Int)<(j:Int):=by omega
    have M:Cp (ws.take (j+1))=(Cp (ws.take j)++ [Ah Dh])++ [Ci ws[j]]:=by rw[Ab2 ac (by omega)];simp
    obtain⟨s,ad⟩: ∃s,s=ws[j]:=⟨_,rfl⟩;rw[<-ad] at aa M;simp(disch:=omega)only[go_sem,h,y,C,D,Z,gq,aa,ai,jD,al];intro q hq;dsimp only at hq;simp(disch:=omega)only[go_sem,h,y,C,D];refine(Ab1 hG Dh hq hB (by rw[jC];omega) O).mono ?_;rintro _ H2 ⟨rfl,S⟩;rw[jO] at S;simp(disch:=omega)only[go_sem,h,y,C,D];obtain⟨v,hv⟩:=S;have E:=hv.keep (Aa _ _ _);simp(disch:=omega)only[go_sem,h,y,C,D,E];intro ae J;dsimp only at J;have U:r≠ae:=Ae J E;have af:=U.symm;have ag:=hv.new J (some (.cells (Cy (Ci s)) 31));simp(disch:=omega)only[go_sem,h,y,C,D,E,U,af];refine Jf.append (m:=1) ag rfl (by simp only[jC,jA,jB];omega) fun V H6 L=> ?_;have g6:=L.keep (Aa _ _ _);obtain⟨j1,j2⟩:=L.cell1;simp(disch:=omega)only[go_sem,h,y,C,D,g6,j1,j2];refine⟨j+1,_,Ri.refl _,(Y _ _ _).2 ?_,by omega⟩;simp(disch:=omega)only[go_sem,h,y,C,D,ah];(repeat' apply And.intro)<;>(try first | rfl | assumption | omega);refine⟨V, ?_⟩;have W:=L.at (Aa _ _ _) (some (.cells [V] 146));rw[Fy] at W;rw[M,<-jO,Hl,jC,jQ];exact W
  ·have:j=ws.length:=by omega
   subst this;have Z: ¬(ws.length:Int)<(ws.length:Int):=by omega
   rw[List.take_length] at O;simp(disch:=omega)only[go_sem,h,y,C,D,Z];exact Es.refl ⟨rfl,O⟩
set_option maxHeartbeats 4000000 in
theorem Du (hG:GX G) (e:Ex) (hm:Cg e=true) (he:Fit e):SrC Tryz.prog G 122 [.agg (dEx e)] (Am e):=by
 intro B r ts H hB aa hw;have M:Ao7 e=(Am e,0):=by rw[Ao7,hm];rfl
 refine Ab Tryz.func122 Tryz.call122 rfl (by kernel_rfl) ?_;simp(disch:=omega)only[go_sem,DVal.cells];intro h y;dsimp only at y;have I:=hw.frame y (.cells (dEx e) 27);have O:B h=none:=(hw.lo y).1;obtain⟨K,C⟩: ∃K,K=upd H h (some (.cells (dEx e) 27)):=⟨_,rfl⟩;rw[<-C] at I⊢
 have S:K h=some (.cells (dEx e) 27):=by rw[C];exact Aa _ _ _
 clear C;simp(disch:=omega)only[go_sem,S];refine Af.monoR (Ct5 hG K e he) ?_;rw[M];obtain⟨v,hv⟩:=I;have U:=hv.keep (Aa _ _ _);have J:=Ax Aq (Am e);simp(disch:=omega)only[go_sem,U,Bh,Xt,Vk,J,jD];refine Jf.append (m:=(Am e).length) hv J (by omega) fun D V E=> ?_;have W:=E.keep (Aa _ _ _);obtain⟨X,Y⟩:=E.cell1;simp(disch:=omega)only[go_sem,W,X,Y];have L:=E.at (Aa _ _ _) (some (.cells [D] 146));rw[Fy] at L;have Z:SAt (upd B h (some (.cells (dEx e) 27))) r (ts++Am e) (upd V r (some (.cells [D] 146))):=⟨D,by rw[jC,List.flatMap_append];exact L⟩;exact Es.refl ⟨rfl,Z.drop O⟩
structure St (B0 B:Ac) (r:Nat) (ts:List Tok) (K:Ac):Prop where
 hw:SAt B r ts K
 hr:B r=none
 hs:Sub B0 B
section
variable {B0 B K:Ac} {r:Nat} {ts:List Tok}
theorem St.g (h:St B0 B r ts K) {x:Nat} {o:DObj} (hx:B x=some o):K x=some o:=h.hw.keep hx fun e=>by rw[e,h.hr] at hx;cases hx
theorem St.new (h:St B0 B r ts K) {q:Nat} (y:K q=none) (o:DObj): ∃B' K',upd K q (some o)=K'/\St B0 B' r ts K'/\Sub B B'/\B' q=some o:=by
 have hl:=h.hw.lo y;have s:Sub B (upd B q (some o)):=(Sub.refl B).up hl.1 _;exact⟨_,_,rfl,⟨h.hw.frame y o,by rw[Ak _ _ _ _ hl.2.symm];exact h.hr,h.hs.trans s⟩,s,Aa _ _ _⟩
theorem St.call {P:Program} {f:FuncId} {args:List DVal} {t:List Tok} (h:St B0 B r ts K) (c:SrC P G f args t) (y:ts.length+t.length<=1000000000):Af P G f (.optr r 0::args) K (fun e K'=>e= .ret (.optr r 0)/\St B0 B r (ts++t) K'):=
 (c B r ts K h.hr y h.hw).mono fun _ _ ⟨e,w⟩=>⟨e,w,h.hr,h.hs⟩
theorem St.put (h:St B0 B r ts K) (hG:GX G) (ws:List (List UInt8)) {q:Nat} (y:B q=some (.cells (ws.map .str) 9)) (C:ts.length+(ws.map Ah).length<=1000000000):Af Tryz.prog G 92 [.optr r 0, .oslice 1 q 0 ws.length ws.length] K (fun e K'=>e= .ret (.optr r 0)/\St B0 B r (ts++ws.map Ah) K'):=
 (Dk3 hG ws y h.hr C h.hw).mono fun _ _ ⟨e,w⟩=>⟨e,w,h.hr,h.hs⟩
theorem St.nms (h:St B0 B r ts K) (hG:GX G) (ws:List (List UInt8)) (y:ws.length<=100000000) {q:Nat} (C:B q=some (.cells (ws.map .str) 9)) (D:ts.length+(Cp ws).length<=1000000000):Af Tryz.prog G 93 [.optr r 0, .oslice 1 q 0 ws.length ws.length] K (fun e K'=>e= .ret (.optr r 0)/\St B0 B r (ts++Cp ws) K'):=
 (Cj0 hG ws y C h.hr D h.hw).mono fun _ _ ⟨e,w⟩=>⟨e,w,h.hr,h.hs⟩
theorem St.start (s:Sub B0 B) (hr:B r=none): ∃K,upd B r (some (.cells [.nilSlice] 146))=K/\St B0 B r [] K:=⟨_,rfl,SAt.start hr,hr,s⟩
theorem Sub.newK (s:Sub B0 K) {q:Nat} (h:K q=none) (o:DObj): ∃K',upd K q (some o)=K'/\Sub B0 K'/\Sub K K'/\K' q=some o:=⟨_,rfl,s.up (s.lo h) _,(Sub.refl K).up h _,Aa _ _ _⟩
end
end
end Go.Dl
