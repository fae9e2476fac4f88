/- The data level and the contracts of the functions that are reached (part 12). -/
import Derived.Test.YtlahodmjhbpfiaaGreatDoorProg
import Derived.Lib.Space
import Derived.Test.YtlahodmjhbpfiaaGreatDoorPuk
set_option linter.unusedSimpArgs false
set_option linter.unusedVariables false
set_option linter.unusedSectionVars false
-- AN INTERPRETER OF THE DATA LEVEL, PART 4: the values that operations give, continued.
namespace Go.Dl
open Go
section
variable {P:Program} {G:Nat->DVal}
variable {B:Ab} {ρ:Nat->Option Nat} {E:Tr DVal} {A:XH} {s:DS}
theorem Eh3 {t:TypeId} {c n:Bool} {op:BinOp} {x y x' y' v:DVal} (hx:RV ρ x x') (hy:RV ρ y y') (hv:Dd4 P t c op n x y=some v):Gk ρ v (fun dst=>Yy P t c op dst n x' y') s:=by
 unfold Dd4 at hv;split at hv
 ·split at hv
  ·rename_i hs
   simp only[RV] at hx;obtain⟨cs',rfl,hl⟩:=hx;obtain⟨a,b,rfl,_,_⟩:=hl.inv;obtain⟨v',h1,h2⟩:=By0 (ρ:=ρ) (s:=s) hv;refine⟨v',h1,fun dst K h=>⟨hs,fun b hb=> ?_⟩⟩;rw[hb (by simp)];exact h2 dst K h
  ·cases hv
 ·cases hv
 ·rename_i hne1 hne2
  obtain⟨v',h1,h2⟩:=Ev6 (s:=s) hx hy hv;refine⟨v',h1,fun dst K h=> ?_⟩;have h3:=h2 dst K h;cases n with
  | false=>show Yy P t c op dst false x' y' K s;rw[Pd];exact h3
  | true=>
   cases x<;>simp only[RV] at hx
   case vslice cs m=>cases cs with
    | nil=>exact(hne2 m rfl rfl).elim
    | cons a cs=>exact(hne1 a cs m rfl rfl).elim
   all_goals first
    | (subst hx;exact h3)
    | (obtain⟨_,rfl,_⟩:=hx;exact h3)
    | (obtain⟨_,_,rfl,_⟩:=hx;exact h3)
theorem Fk2 {op:UnOp} {x x' v:DVal} (hx:RV ρ x x') (hv:vUn op x=some v):Gk ρ v (fun dst=>dUn dst op x') s:=by
 unfold vUn at hv;split at hv<;>cases hv<;>simp only[RV] at hx<;>subst hx
 ·exact⟨_, .bool _,fun _ _ h=>h⟩
 ·exact⟨_, .int _ _,fun _ _ h=>h⟩
 ·exact⟨_, .int _ _,fun _ _ h=>h⟩
theorem Ev7 {t:Option TypeDesc} (h:Fj4 t=true):t=some (.int .u8):=by
 unfold Fj4 at h;split at h
 ·rfl
 ·cases h
theorem Cx0 {n off:Nat} {k r:Nat} {l:List DVal} (hS:RH B ρ A s.heap) (hr:ρ k=some r) (hv:Uo n off (Aw A k)=some l): ∃l',Uo n off (s.heap r)=some l'/\RVL ρ l l':=by
 unfold Uo at hv;split at hv
 ·rename_i cs e heq
  obtain⟨r',cs',h1,h2,h3⟩:=Ov hS heq;rw[hr] at h1;cases h1;split at hv<;>cases hv
  rename_i hle
  refine⟨_, ?_,(h3.drop off).take n⟩;rw[h2];simp only[Uo,h3.length];rw[if_pos hle]
 ·cases hv
theorem Ev8 {x x':DVal} {l:List DVal} (hS:RH B ρ A s.heap) (hx:RV ρ x x') (hv:Fj5 A x=some l): ∃l',Up s.heap x'=some l'/\RVL ρ l l':=by
 unfold Fj5 at hv;split at hv
 ·cases hv;simp only[RV] at hx;subst hx;exact⟨[],rfl, .nil⟩
 ·simp only[RV] at hx;obtain⟨cs',rfl,hl⟩:=hx;split at hv<;>cases hv
  rename_i hle
  exact⟨_,by simp only[Up,hl.length];rw[if_pos hle],hl.take _⟩
 ·simp only[RV] at hx;obtain⟨r,rfl,hr⟩:=hx;exact Cx0 hS hr hv
 ·cases hv
theorem Ck1: ∀ {ds ds':List DVal} {l:List UInt8},RVL ρ ds ds'->Pu ds=some l->Pu ds'=some l
 | [],_,l,h,hv=>by simp only[RVL] at h;subst h;exact hv
 | d::ds,_,l,h,hv=>by
  obtain⟨y,ys,rfl,h1,h2⟩:=h.inv;unfold Pu at hv;split at hv
  ·rename_i hd;cases hd
  ·rename_i n ds0 hd
   cases hd;simp only[RV] at h1;subst h1;cases hm:Pu ds with
   | none=>rw[hm] at hv;cases hv
   | some m=>
    rw[hm] at hv;simp only[Pu,Ck1 h2 hm];exact hv
  ·cases hv
theorem Ck2 {a b:Option TypeDesc} {x x' v:DVal} (hx:RV ρ x x') (hv:Bc9 a b x=some v):Gk ρ v (fun dst=>Qv dst a b x') s/\ ∀(P:Program) dst K s,(∀e,a=some (.slice e)->b≠some .string)->Ng P dst a b x' K s=Qv dst a b x' K s:=by
 have key: ∀(P:Program) dst K s,(∀e,a=some (.slice e)->b≠some .string)->Ng P dst a b x' K s=Qv dst a b x' K s:=by
  intro P dst K s hne;unfold Ng;split
  ·exact(hne _ rfl rfl).elim
  ·rfl
 refine⟨?_,key⟩;unfold Bc9 at hv;split at hv<;>cases hv<;>simp only[RV] at hx<;>subst hx
 ·exact⟨_, .int _ _,fun _ _ h=>h⟩
 ·exact⟨_, .str _,fun _ _ h=>h⟩
theorem Dq4 {a b:Option TypeDesc} {x x' v:DVal} (hS:RH B ρ A s.heap) (hx:RV ρ x x') (hv:Bw3 P A a b x=some v):Gk ρ v (fun dst=>Ng P dst a b x') s:=by
 unfold Bw3 at hv;split at hv
 ·split at hv
  ·rename_i hu
   obtain⟨l,h1,rfl⟩:=Option.map_eq_some_iff.1 hv;obtain⟨m,h2,h3⟩:=Option.bind_eq_some_iff.1 h1;obtain⟨m',h4,h5⟩:=Ev8 hS hx h2;refine⟨_, .str l,fun dst K h=> ?_⟩;simp only[Ng,Ds7];refine⟨Ev7 hu, ?_⟩;rw[h4];simp only[Option.bind_some,Ck1 h5 h3,Ex2];exact h
  ·cases hv
 ·rename_i hne
  obtain⟨⟨v',h1,h2⟩,h3⟩:=Ck2 (s:=s) hx hv;refine⟨v',h1,fun dst K h=> ?_⟩;show Ng P dst a b x' K s;rw[h3 P dst K s fun e h4 h5=>hne e h4 h5];exact h2 dst K h
theorem Vy {o o':Option DVal} (h:RVo ρ o o'):dLo o'=dLo o:=by
 cases o with
 | none=>cases o' with
  | none=>rfl
  | some _=>exact h.elim
 | some v=>cases o' with
  | none=>exact h.elim
  | some d=>
   have h:RV ρ v d:=h;cases v<;>simp only[RV] at h;all_goals first
    | (subst h;rfl)
    | (obtain⟨_,rfl,_⟩:=h;rfl)
    | (obtain⟨_,_,rfl,_⟩:=h;rfl)
theorem Am8 {o o':Option DVal} (n:Nat) (h:RVo ρ o o'):dHi n o'=dHi n o:=by
 cases o with
 | none=>cases o' with
  | none=>rfl
  | some _=>exact h.elim
 | some v=>cases o' with
  | none=>exact h.elim
  | some d=>
   have h:RV ρ v d:=h;cases v<;>simp only[RV] at h;all_goals first
    | (subst h;rfl)
    | (obtain⟨_,rfl,_⟩:=h;rfl)
    | (obtain⟨_,_,rfl,_⟩:=h;rfl)
theorem By1 {l:List UInt8} {a b:Option Int} {v:DVal} (hv:Am4 l a b=some v):Gk ρ v (fun dst K s=>Yg l dst K s a b) s:=by
 unfold Am4 at hv;split at hv
 ·split at hv<;>cases hv
  rename_i hc
  exact⟨_, .str _,fun _ _ h=>⟨hc.1,hc.2.1,hc.2.2,h⟩⟩
 ·cases hv
theorem Be0 {size len:Nat} {cs cs':List DVal} {a b:Option Int} {v:DVal} (hc:RVL ρ cs cs') (hv:Au8 size cs len a b=some v):Gk ρ v (fun dst K s=>Yh size cs' len dst K s a b) s:=by
 unfold Au8 at hv;split at hv
 ·split at hv<;>cases hv
  rename_i h
  exact⟨_, .vslice _ ((hc.drop _).take _),fun _ _ k=>⟨h.1,h.2.1,h.2.2,k⟩⟩
 ·cases hv
theorem Ab9 {size k r off cap:Nat} {a b c:Option Int} {v:DVal} (hr:ρ k=some r) (hv:Ah3 size k off cap a b c=some v):Gk ρ v (fun dst K s=>Rv size r off cap dst K s a b c) s:=by
 unfold Ah3 at hv;split at hv
 ·split at hv<;>cases hv
  rename_i h
  exact⟨_, .oslice _ _ _ _ hr,fun _ _ k=>⟨h.1,h.2.1,h.2.2.1,h.2.2.2,k⟩⟩
 ·cases hv
theorem Cx1 {a b:Option Int} {v:DVal} (hv:Bw4 a b=some v):Gk ρ v (fun dst K s=>At6 dst K s a b) s:=by
 unfold Bw4 at hv;split at hv
 ·split at hv<;>cases hv
  rename_i h
  exact⟨_, .nilS,fun _ _ k=>⟨h.1,h.2,k⟩⟩
 ·cases hv
theorem Rn {o:Option DVal} (h:RVo ρ none o):o=none:=by
 cases o with
 | none=>rfl
 | some _=>exact h.elim
theorem Ck3 {v:DVal} {o:Option DVal} (h:RVo ρ (some v) o): ∃d,o=some d/\RV ρ v d:=by
 cases o with
 | none=>exact h.elim
 | some d=>exact⟨d,rfl,h⟩
theorem Fk3 {o o':Option DVal} (h:RVo ρ o o'):o'.isSome=o.isSome:=by
 cases o<;>cases o'<;>first | rfl | exact h.elim
theorem Ev9 {n k r:Nat} (hS:RH B ρ A s.heap) (hr:ρ k=some r) (h:Ef8 n (Aw A k)=true):Cz1 n (s.heap r):=by
 unfold Ef8 at h;split at h
 ·rename_i cs e heq
  obtain⟨r',cs',h1,h2,h3⟩:=Ov hS heq;rw[hr] at h1;cases h1;rw[h2];simp only[Cz1,h3.length];exact of_decide_eq_true h
 ·cases h
theorem Dq5 {lo lo' hi hi' mx mx':Option DVal} {t:Option TypeDesc} {x x' v:DVal} (hS:RH B ρ A s.heap) (hl:RVo ρ lo lo') (hh:RVo ρ hi hi') (hm:RVo ρ mx mx') (hx:RV ρ x x')
  (hv:Bw5 P A lo hi t x mx=some v):Gk ρ v (fun dst=>Zn P lo' hi' dst t x' mx') s:=by
 unfold Bw5 at hv;split at hv
 ·obtain rfl:=Rn hm;simp only[RV] at hx;subst hx;rw[<-Vy hl,<-Am8 _ hh] at hv;exact By1 hv
 ·obtain rfl:=Rn hm;simp only[RV] at hx;subst hx;split at hv<;>try (cases hv;done)
  rename_i hi0
  rw[<-Vy hl,<-Am8 _ hh] at hv;obtain⟨v',h1,h2⟩:=Cx1 (ρ:=ρ) (s:=s) hv;exact⟨v',h1,fun dst K h=>⟨hi0,h2 dst K h⟩⟩
 ·obtain rfl:=Rn hm;simp only[RV] at hx;obtain⟨cs',rfl,hc⟩:=hx;split at hv<;>try (cases hv;done)
  rename_i hi0
  rw[<-Vy hl,<-Am8 _ hh] at hv;obtain⟨v',h1,h2⟩:=Be0 (s:=s) hc hv;exact⟨v',h1,fun dst K h=>⟨hi0,h2 dst K h⟩⟩
 ·obtain rfl:=Rn hm;simp only[RV] at hx;obtain⟨r,rfl,hr⟩:=hx;split at hv<;>try (cases hv;done)
  rename_i hi0
  simp only[jF,beq_iff_eq] at hi0;rw[<-Vy hl,<-Am8 _ hh] at hv;obtain⟨v',h1,h2⟩:=Ab9 (s:=s) hr hv;exact⟨v',h1,fun dst K h=>⟨hi0.1,hi0.2,h2 dst K h⟩⟩
 ·obtain⟨m',rfl,hm'⟩:=Ck3 hm;simp only[RV] at hx;obtain⟨r,rfl,hr⟩:=hx;split at hv<;>try (cases hv;done)
  rename_i hi0
  simp only[jF,beq_iff_eq] at hi0;rw[<-Vy hl,<-Vy hh,<-Vy hm] at hv;obtain⟨v',h1,h2⟩:=Ab9 (s:=s) hr hv;exact⟨v',h1,fun dst K h=>⟨hi0.1.1,hi0.1.2,by rw[Fk3 hh];exact hi0.2,h2 dst K h⟩⟩
 ·obtain rfl:=Rn hm;simp only[RV] at hx;obtain⟨r,rfl,hr⟩:=hx;split at hv<;>try (cases hv;done)
  rename_i hi0
  simp only[jF] at hi0;rw[<-Vy hl,<-Am8 _ hh] at hv;obtain⟨v',h1,h2⟩:=Ab9 (s:=s) hr hv;exact⟨v',h1,fun dst K h=>⟨hi0.1,Ev9 hS hr hi0.2,h2 dst K h⟩⟩
 ·obtain rfl:=Rn hm;simp only[RV] at hx;obtain⟨cs',rfl,hc⟩:=hx;split at hv<;>try (cases hv;done)
  rename_i hi0
  simp only[jF,decide_eq_true_eq] at hi0;rw[<-Vy hl,<-Am8 _ hh] at hv;obtain⟨v',h1,h2⟩:=Be0 (s:=s) ((hc.drop _).take _) hv;exact⟨v',h1,fun dst K h=>⟨hi0.1,by rw[hc.length];exact hi0.2,h2 dst K h⟩⟩
 ·cases hv
theorem Bn7 {n:Nat} {x x' v:DVal} (hx:RV ρ x x') (hv:Qa n x=some v): ∃v',RV ρ v v'/\Qa n x'=some v':=by
 unfold Qa at hv;split at hv<;>cases hv<;>simp only[RV] at hx<;>obtain⟨_,rfl,h⟩:=hx
 ·exact⟨_, .vptr _ h,rfl⟩
 ·exact⟨_, .optr _ h,rfl⟩
theorem Bh7 {f:Nat} {t:Option TypeDesc} {x x' v:DVal} (hx:RV ρ x x') (hv:Vt P f x t=some v):Gk ρ v (fun dst=>Lx P f x' dst t) s:=by
 unfold Vt at hv;split at hv
 ·unfold Ar2 at hv;split at hv
  ·rename_i fd heq
   split at hv<;>try (cases hv;done)
   rename_i hlt
   obtain⟨v',h1,h2⟩:=Bn7 hx hv;exact⟨v',h1,fun dst K h=>by simp only[Lx,heq,Wp,h2,Lk];exact⟨hlt,h⟩⟩
  ·cases hv
 ·cases hv
theorem Ck4 {size off:Nat} {ag:Option Bool} {cs cs':List DVal} {v:DVal} (hc:RVL ρ cs cs') (hv:Dd5 size cs off ag=some v):Gk ρ v (fun dst=>Aw1 size cs' off dst ag) s:=by
 unfold Dd5 at hv;split at hv
 ·rw[Xy,Ai1] at hv;cases hv;exact⟨_, .agg ((hc.drop off).take size),fun _ _ h=>h⟩
 ·rw[Bx7] at hv;obtain⟨x',h1,h2⟩:=hc.get hv;exact⟨x',h2,fun dst K h=>by simp only[Aw1,h1,Lk];exact h⟩
 ·cases hv
theorem Dq6 {f:Nat} {t:Option TypeDesc} {x x' v:DVal} (hx:RV ρ x x') (hv:Bw6 P f t x=some v):Gk ρ v (fun dst=>Zo P f dst t x') s:=by
 unfold Bw6 at hv;split at hv
 ·simp only[RV] at hx;obtain⟨cs',rfl,hc⟩:=hx;unfold Dd6 at hv;split at hv
  ·rename_i fd heq
   obtain⟨v',h1,h2⟩:=Ck4 (s:=s) hc hv;exact⟨v',h1,fun dst K h=>by simp only[Zo,heq,Bp3];exact h2 dst K h⟩
  ·cases hv
 ·cases hv
theorem Bh8 {t:Option TypeDesc} {x x' i i' v:DVal} (hx:RV ρ x x') (hi:RV ρ i i') (hv:Vu P t x i=some v):Gk ρ v (fun dst=>Ly P dst t x' i') s:=by
 unfold Vu at hv;split at hv
 ·split at hv<;>cases hv
  rename_i hc
  simp only[RV] at hx hi;subst hi;obtain⟨cs',rfl,hl⟩:=hx;have h4:=hc.2.2.2;rw[Xz,decide_eq_true_eq] at h4;exact⟨_, .vptr _ hl,fun dst K h=>⟨hc.1,hc.2.1,hc.2.2.1,by rw[hl.length];omega,h⟩⟩
 ·split at hv<;>cases hv
  rename_i hc
  simp only[RV] at hx hi;subst hi;obtain⟨r,rfl,hr⟩:=hx;exact⟨_, .optr _ hr,fun dst K h=>⟨hc.1,hc.2.1,hc.2.2,h⟩⟩
 ·split at hv<;>try (cases hv;done)
  rename_i hc
  simp only[RV] at hi;subst hi;obtain⟨v',h1,h2⟩:=Bn7 hx hv;exact⟨v',h1,fun dst K h=>by simp only[Ly];exact⟨hc.1,hc.2.1,hc.2.2,by rw[h2];exact h⟩⟩
 ·cases hv
theorem Dq7 {t:Option TypeDesc} {x x' i i' v:DVal} (hx:RV ρ x x') (hi:RV ρ i i') (hv:Bw7 P t x i=some v):Gk ρ v (fun dst=>Aj2 P dst t x' i') s:=by
 unfold Bw7 at hv;split at hv
 ·split at hv<;>try (cases hv;done)
  rename_i hc
  simp only[RV] at hx hi;subst hi;obtain⟨cs',rfl,hl⟩:=hx;obtain⟨v',h1,h2⟩:=Ck4 (s:=s) hl hv;exact⟨v',h1,fun dst K h=>⟨hc.1,hc.2,h2 dst K h⟩⟩
 ·split at hv<;>try (cases hv;done)
  rename_i hc
  simp only[RV] at hx hi;subst hi;subst hx;obtain⟨b,h1,rfl⟩:=Option.map_eq_some_iff.1 hv;exact⟨_, .int _ _,fun dst K h=>⟨hc,by rw[h1];exact h⟩⟩
 ·cases hv
theorem Ck5 {i:Nat} {x x' v:DVal} (hx:RV ρ x x') (hv:Ah4 i x=some v):Gk ρ v (fun dst=>Ti i dst x') s:=by
 unfold Ah4 at hv;split at hv
 ·simp only[RV] at hx;obtain⟨cs',rfl,hl⟩:=hx;obtain⟨x',h1,h2⟩:=hl.get hv;exact⟨x',h2,fun dst K h=>by simp only[Ti,h1,Lk];exact h⟩
 ·cases hv
theorem Ar4 {z:Option DVal} {v:DVal} (hz: ∀x,z=some x->RV ρ x x) (hv:Ah5 z=some v):Gk ρ v (fun dst=>Ac4 dst z) s:=by
 unfold Ah5 at hv;split at hv<;>cases hv;exact⟨_, .tuple (.cons (hz _ rfl) (.cons (.bool _) .nil)),fun _ _ h=>h⟩
theorem Be1 {t:TypeId} {ok b:Bool} {x x' v:DVal} (hx:RV ρ x x') (hv:Sz P t ok b x=some v):Gk ρ v (fun dst=>Fz P t ok dst b x') s:=by
 unfold Sz at hv;split at hv
 ·simp only[RV] at hx;obtain⟨v1,rfl,h1⟩:=hx;unfold Bm9 at hv;split at hv
  ·cases hv;exact⟨_, .tuple (.cons h1 (.cons (.bool _) .nil)),fun dst K h=>by
    show Fz P t _ dst _ _ K s;simp only[Fz, *,Qq]⟩
  ·rename_i hd
   obtain⟨v',h2,h3⟩:=Ar4 (s:=s) (fun x hx=>Qm hx) hv;exact⟨v',h2,fun dst K h=>by simp only[Fz,hd,Qq];exact h3 dst K h⟩
  ·cases hv;exact⟨_,h1,fun dst K h=>by
    show Fz P t _ dst _ _ K s;simp only[Fz, *,Qq]⟩
  ·cases hv
 ·simp only[RV] at hx;subst hx;split at hv<;>try (cases hv;done)
  rename_i hc
  obtain⟨v',h2,h3⟩:=Ar4 (s:=s) (fun x hx=>Qm hx) hv;exact⟨v',h2,fun dst K h=>⟨hc,h3 dst K h⟩⟩
 ·cases hv
theorem Ew0 {t:Option TypeDesc} {x x' v:DVal} (hx:RV ρ x x') (hv:Fj6 t x=some v):Gk ρ v (fun dst=>Dg2 dst t x') s:=by
 unfold Fj6 at hv;split at hv<;>cases hv
 ·simp only[RV] at hx;subst hx;exact⟨_, .int _ _,fun _ _ h=>h⟩
 ·exact⟨_, .int _ _,fun _ _ h=>h⟩
 all_goals simp only[RV] at hx
 ·subst hx;exact⟨_, .int _ _,fun _ _ h=>h⟩
 ·obtain⟨_,rfl,_⟩:=hx;exact⟨_, .int _ _,fun _ _ h=>h⟩
 ·obtain⟨_,rfl,_⟩:=hx;exact⟨_, .int _ _,fun _ _ h=>h⟩
theorem Dq8 {ts:List TypeId} {x x' v:DVal} (hx:RV ρ x x') (hv:Cw0 P x ts=some v):Gk ρ v (fun dst=>Bp4 P x' dst ts) s:=by
 unfold Cw0 at hv;split at hv
 ·exact Ew0 hx hv
 ·cases hv
theorem Eh4 {k k' p p':DVal} {b:Bool} (hk:RV ρ k k') (hp:RV ρ p p') (h:Rp k p=some b):Rp k' p'=some b:=by
 have h0:=h;unfold Rp at h;split at h<;>(try (cases h;done))<;>simp only[RV] at hk hp
 ·subst hk;subst hp;exact h0
 ·subst hk;subst hp;exact h0
 ·subst hk;subst hp;exact h0
 ·obtain⟨cs,rfl,h1⟩:=hk;obtain⟨cs2,rfl,h2⟩:=hp;obtain⟨x,xs,rfl,a1,h1⟩:=h1.inv;obtain⟨y,rfl,a2⟩:=Ld h1;obtain⟨x',xs',rfl,b1,h2⟩:=h2.inv;obtain⟨y',rfl,b2⟩:=Ld h2;simp only[RV] at a1 a2 b1 b2;subst a1;subst a2;subst b1;subst b2;exact h0
theorem By2 {k k':DVal} (hk:RV ρ k k'): ∀ {es es':List (DVal×DVal)} {i:Nat} {r:Option Nat},RVM ρ es es'->Ga k es i=some r->Ga k' es' i=some r
 | [],_,i,r,he,h=>by simp only[RVM] at he;subst he;exact h
 | p::es,_,i,r,he,h=>by
  obtain⟨q,qs,rfl,h1,h2,h3⟩:=he;simp only[Ga] at h⊢
  unfold Uq at h;split at h
  ·rename_i hb;rw[Eh4 hk h1 hb];exact h
  ·rename_i hb;rw[Eh4 hk h1 hb];exact By2 hk h3 h
  ·cases h
theorem RVM.get: ∀ {es es':List (DVal×DVal)} {i:Nat} {p:DVal×DVal},RVM ρ es es'->es[i]? =some p-> ∃p',es'[i]? =some p'/\RV ρ p.1 p'.1/\RV ρ p.2 p'.2
 | [],_,i,p,_,h=>by simp at h
 | x::es,_,0,p,he,h=>by
  obtain⟨q,qs,rfl,h1,h2,h3⟩:=he;simp only[List.getElem?_cons_zero,Option.some.injEq] at h;subst h;exact⟨q,rfl,h1,h2⟩
 | x::es,_,i+1,p,he,h=>by
  obtain⟨q,qs,rfl,h1,h2,h3⟩:=he;simp only[List.getElem?_cons_succ] at h⊢
  exact h3.get h
theorem Ew1 {t:Option TypeDesc} {k k':DVal} (hk:RV ρ k k') (h:Nk t k=true):Nk t k'=true:=by
 have h0:=h;unfold Nk at h;split at h<;>(try (cases h;done))<;>simp only[RV] at hk<;>(subst hk;exact h0)
theorem By3 {t:Option TypeDesc} {k k':DVal} (hk:RV ρ k k') (h:Mj P t k=true):Mj P t k'=true:=by
 unfold Mj at h;split at h
 ·simp only[RV] at hk;obtain⟨cs',rfl,hl⟩:=hk;obtain⟨x,xs,rfl,h1,hl⟩:=hl.inv;obtain⟨y,rfl,h2⟩:=Ld hl;simp only[RV] at h1 h2;subst h1;subst h2;exact h
 ·have h0:=Ew1 hk h;unfold Mj;split
  ·unfold Nk at h0;split at h0<;>first | (rename_i e;cases e;done) | cases h0
  ·exact h0
theorem Ai4 {ok b:Bool} {v v':DVal} (h:RV ρ v v'):RV ρ (Bw8 ok v b) (if ok then .tuple [v', .bool b] else v'):=by
 unfold Bw8;split
 ·exact .tuple (.cons h (.cons (.bool _) .nil))
 ·exact h
theorem Bn8 {es es':List (DVal×DVal)} {ok:Bool} {z:Option DVal} {r r':Option (Option Nat)} {v:DVal} (hz: ∀x,z=some x->RV ρ x x) (he:RVM ρ es es') (hr: ∀x,r=some x->r'=some x) (hv:Ab7 es ok z r=some v):
  Gk ρ v (fun dst=>Zq es' ok dst z r') s:=by
 unfold Ab7 at hv;split at hv
 ·rename_i i
  obtain⟨p,h1,rfl⟩:=Option.map_eq_some_iff.1 hv;obtain⟨p',h2,h3,h4⟩:=he.get h1;rw[hr _ rfl];exact⟨_,Ai4 h4,fun dst K h=>⟨p',h2,h⟩⟩
 ·cases hv;rw[hr _ rfl];exact⟨_,Ai4 (hz _ rfl),fun dst K h=>h⟩
 ·cases hv
theorem Ew2 {t:Option TypeDesc} {k k':DVal} (hk:RV ρ k k') (h:Mj P t k=true):k'=k:=by
 unfold Mj at h;split at h
 ·simp only[RV] at hk;obtain⟨cs',rfl,hl⟩:=hk;obtain⟨x,xs,rfl,h1,hl⟩:=hl.inv;obtain⟨y,rfl,h2⟩:=Ld hl;simp only[RV] at h1 h2;subst h1;subst h2;rfl
 ·unfold Nk at h;split at h<;>(try (cases h;done))<;>simp only[RV] at hk<;>exact hk
theorem Dq9 {es es':List (DVal×DVal)} {ok:Bool} {z:Option DVal} {k v:DVal} (hz: ∀x,z=some x->RV ρ x x) (he:LK es es') (hv:Ab7 es ok z (Ga k es 0)=some v):Gk ρ v (fun dst=>Zq es' ok dst z (Ga k es' 0)) s:=by
 unfold Ab7 at hv;split at hv
 ·rename_i i hf
  obtain⟨p,h1,rfl⟩:=Option.map_eq_some_iff.1 hv;obtain⟨r',h2,h3⟩:=he k _ hf;rcases h3 with⟨e,_⟩ | ⟨i',j,q,q',e,rfl,e1,e2,e3,e4⟩
  ·cases e
  ·cases e;rw[h1] at e1;cases e1;rw[h2];exact⟨_,Ai4 (Uk e4),fun dst K h=>⟨q',e2,by rw[<-e3];exact h⟩⟩
 ·rename_i x hf
  cases hv;obtain⟨r',h2,h3⟩:=he k _ hf;rcases h3 with⟨_,rfl⟩ | ⟨i',j,q,q',e,_⟩
  ·rw[h2];exact⟨_,Ai4 (hz _ rfl),fun dst K h=>h⟩
  ·cases e
 ·cases hv
theorem Cx2 {ok:Bool} {t:Option TypeDesc} {x x' k k' v:DVal} (hS:RH B ρ A s.heap) (hx:RV ρ x x') (hk:RV ρ k k') (hv:Au9 P A ok t x k=some v):Gk ρ v (fun dst=>Ac9 P ok dst t x' k') s:=by
 unfold Au9 at hv;split at hv
 ·split at hv<;>try (cases hv;done)
  rename_i hkt
  simp only[RV] at hx;obtain⟨r,rfl,hr⟩:=hx;unfold Ef9 at hv;split at hv
  ·rename_i es heq
   obtain⟨r',o',h1,h2,es',rfl,h3⟩:=hS.obj _ _ heq;rw[hr] at h1;cases h1;obtain⟨v',h4,h5⟩:=Bn8 (s:=s) (r':=Ga k' es' 0) (fun x hx=>Qm hx) h3 (fun x hx=>By2 hk h3 hx) hv;exact⟨v',h4,fun dst K h=>⟨By3 hk hkt,by rw[h2];exact h5 dst K h⟩⟩
  ·rename_i env n l heq
   obtain⟨r',o',h1,h2,es',rfl,h3⟩:=hS.obj _ _ heq;rw[hr] at h1;cases h1;obtain rfl:=Ew2 hk hkt;obtain⟨v',h4,h5⟩:=Dq9 (s:=s) (fun x hx=>Qm hx) h3 hv;exact⟨v',h4,fun dst K h=>⟨hkt,by rw[h2];exact h5 dst K h⟩⟩
  ·cases hv
 ·split at hv<;>try (cases hv;done)
  rename_i hkt
  simp only[RV] at hx;subst hx;obtain⟨v',h4,h5⟩:=Bn8 (s:=s) (es:= []) (es':= []) (r':=some none) (fun x hx=>Qm hx) (by simp only[RVM]) (fun x hx=>hx) hv;exact⟨v',h4,fun dst K h=>⟨By3 hk hkt,h5 dst K h⟩⟩
 ·cases hv
theorem Bh9 {t:TypeId} {b:Bool} {x x' v:DVal} (hx:RV ρ x x') (hv:Vv t x b=some v):Gk ρ v (fun dst=>Qw t x' dst b) s:=by
 unfold Vv at hv;split at hv<;>cases hv;exact⟨_, .iface t hx,fun _ _ h=>h⟩
theorem Fr2 {b:Bool} {x x' y y' v:DVal} (hx:RV ρ x x') (hy:RV ρ y y') (h:dMM b x y=some v):dMM b x' y'=some v/\ ∃k n,v= .int k n:=by
 have h0:=h;unfold dMM at h;split at h
 ·simp only[RV] at hx hy;subst hx;subst hy;cases h;exact⟨h0,_,_,rfl⟩
 ·cases h
theorem Be2 {b:Bool}: ∀ {ys ys':List DVal} {x x' v:DVal},RV ρ x x'->RVL ρ ys ys'->Nl b (some x) ys=some v-> ∃v',RV ρ v v'/\Nl b (some x') ys'=some v'
 | [],_,x,x',v,hx,hy,h=>by
  simp only[RVL] at hy;subst hy;simp only[Nl] at h;cases h;exact⟨x',hx,rfl⟩
 | y::ys,_,x,x',v,hx,hy,h=>by
  obtain⟨a,b',rfl,h1,h2⟩:=hy.inv;simp only[Nl] at h⊢
  cases hm:dMM b x y with
  | none=>rw[hm] at h;cases ys<;>cases h
  | some w=>
   rw[hm] at h;obtain⟨h3,k,n,rfl⟩:=Fr2 hx h1 hm;rw[h3];exact Be2 (.int k n) h2 h
theorem Bn9 {b:Bool} {ys ys':List DVal} {v:DVal} (hy:RVL ρ ys ys') (h:Ls b ys=some v):Gk ρ v (fun dst=>Lk dst (Ls b ys')) s:=by
 cases ys with
 | nil=>cases h
 | cons y ys=>
  obtain⟨a,b',rfl,h1,h2⟩:=hy.inv;simp only[Ls] at h;obtain⟨v',h3,h4⟩:=Be2 h1 h2 h;exact⟨v',h3,fun dst K h=>by simp only[Ls,h4,Lk];exact h⟩
end
end Go.Dl

-- AN INTERPRETER OF THE DATA LEVEL, PART 5: operations.
namespace Go.Dl
open Go
def Am9 (P:Program) (G:Nat->DVal) (call:Nat->List DVal->XH->COut):Prop:=
 ∀(B:Ab) (ρ:Nat->Option Nat) (k:Nat) (args args':List DVal) (A:XH) (H:Ab) (R:DEnd->Ab->Prop),RVL ρ args args'->RH B ρ A H->Mg B ρ R (call k args A)->Ae P G k args' H R
section
variable {P:Program} {gt:Nat->Option DVal} {G:Nat->DVal} {call:Nat->List DVal->XH->COut}
variable {B:Ab} {ρ:Nat->Option Nat} {E:Tr DVal} {A:XH} {s:DS} {K:DK} {Q:DExit->DS->Prop} {dst:Option Nat}
theorem Gq {b:Bool} {x:Out} {Q:DExit->DS->Prop} (h:Bx B ρ Q (Bool.rec (motive:=fun _=>Out) .bad x b)):b=true/\Bx B ρ Q x:=by
 cases b with
 | false=>exact h.elim
 | true=>exact⟨rfl,h⟩
theorem Yu {α:Type} {o:Option α} {f:α->Out} {Q:DExit->DS->Prop} (h:Bx B ρ Q (Wl .bad f o)): ∃v,o=some v/\Bx B ρ Q (f v):=by
 cases o with
 | none=>exact h.elim
 | some v=>exact⟨v,rfl,h⟩
theorem Nv (hS:RS B ρ E A s) {o:Option DVal} {F:Option Nat->DK->DS->Prop} (h:Bx B ρ (Hb K Q) (Jl E A dst o)) (hg: ∀v,o=some v->Gk ρ v F s):F dst K s:=by
 obtain⟨v,hv,hk⟩:=Eh0 hS h;obtain⟨v',h1,h2⟩:=hg v hv;exact h2 dst K (hk v' h1)
theorem Ck6 (hS:RS B ρ E A s) {cs cs':List DVal} {e:TypeId} (hc:RVL ρ cs cs') (h:Bx B ρ (Hb K Q) (Cj0 E A dst cs e)):Av7 cs' e dst K s:=by
 intro r hr;obtain⟨A',ρ',hle,hk,h1,hS'⟩:=Yb hS hr (o:= .cells cs e) (o':= .cells cs' e) ⟨cs',rfl,hc⟩ h;exact Iq hS' (.optr 0 hk) h1
theorem Be3 (hS:RS B ρ E A s) {cs cs':List DVal} {e:TypeId} {sz len cap:Nat} (hc:RVL ρ cs cs') (h:Bx B ρ (Hb K Q) (Cj1 E A dst cs e sz len cap)):An5 cs' e sz len cap dst K s:=by
 intro r hr;obtain⟨A',ρ',hle,hk,h1,hS'⟩:=Yb hS hr (o:= .cells cs e) (o':= .cells cs' e) ⟨cs',rfl,hc⟩ h;exact Iq hS' (.oslice _ _ _ _ hk) h1
theorem Ck7 (hS:RS B ρ E A s) (h:Bx B ρ (Hb K Q) (Eg0 E A dst)):Dt0 dst K s:=by
 intro r hr;obtain⟨A',ρ',hle,hk,h1,hS'⟩:=Yb hS hr (o:= .map []) (o':= .map []) ⟨[],rfl,by simp only[RVM]⟩ h;exact Iq hS' (.omap hk) h1
theorem Be4 (hS:RS B ρ E A s) {n:Nat} {t:Option TypeDesc} {ps ps':List (Nat×DVal)} (hp:RVP ρ ps ps') (h:Bx B ρ (Hb K Q) (Ta P E A dst n t ps)):Mi P n dst t ps' K s:=by
 unfold Ta at h;split at h
 ·rename_i e
  obtain⟨z,hz,h⟩:=Yu h;obtain⟨hb,h⟩:=Gq h;rw[Ai2] at h;simp only[jF,decide_eq_true_eq,beq_iff_eq] at hb;obtain⟨cs,hcs,h⟩: ∃cs,Nf (Wn (P.cellsOf e)) (repl n z.cells) ps=some cs/\Bx B ρ (Hb K Q) (Cj1 E A dst cs e (P.cellsOf e) n n):=by
   split at h
   ·rename_i cs hcs;exact⟨cs,hcs,h⟩
   ·exact h.elim
  have rz:RV ρ z z:=Qm hz;obtain⟨cs',h1,h2⟩:=Ai3 hp (rz.cells.repl n) hcs;simp only[Mi,hz,Un,h1,Cm6];exact⟨hb.1,hb.2,Be3 hS h2 h⟩
 ·exact h.elim
theorem Bi0 (hS:RS B ρ E A s) {t:Option TypeDesc} {l l' c c':DVal} (hl:RV ρ l l') (hc:RV ρ c c') (h:Bx B ρ (Hb K Q) (Vw P E A dst t l c)):Oe P dst t l' c' K s:=by
 unfold Vw at h;split at h
 ·simp only[RV] at hl hc;subst hl;subst hc;obtain⟨z,hz,h⟩:=Yu h;obtain⟨hb,h⟩:=Gq h;rw[Pa,Pa] at h;simp only[jF,decide_eq_true_eq,beq_iff_eq] at hb;have rz:RV ρ z z:=Qm hz;simp only[Oe,hz,Wo];exact⟨hb.1.1.1.1.1,hb.1.1.1.1.2,hb.1.1.1.2,hb.1.1.2,hb.1.2,hb.2,Be3 hS (rz.cells.repl _) h⟩
 ·exact h.elim
theorem Dr0 (hS:RS B ρ E A s) {size:Nat} {a a' x x':DVal} (ha:RV ρ a a') (hx:RV ρ x x') (h:Bx B ρ (Hb K Q) (Bw9 E A size dst a x)):Aj1 size dst a' x' K s:=by
 unfold Bw9 at h;split at h
 ·simp only[RV] at ha;obtain⟨r,rfl,hr⟩:=ha;unfold Dd7 at h;split at h
  ·rename_i cs e heq
   obtain⟨r',cs',h1,h2,h3⟩:=Ov hS.heap heq;rw[hr] at h1;cases h1;obtain⟨hb,h⟩:=Gq h;rw[Av0] at h;simp only[jF,Bd7,Xz,decide_eq_true_eq] at hb;have hcl:=hx.cells;obtain⟨A',h4,h5,_,_⟩:=Ya (ob':= .cells (splice cs' _ x'.cells) e) hS heq hr (fun o1 e1=>by cases e1;exact⟨_,rfl,h3.splice _ hcl⟩) h;simp only[Aj1,h2,Bp1];exact⟨by rw[hcl.length];exact hb.1.1,by rw[hcl.allOne];exact hb.1.2,by rw[h3.length];exact hb.2,h4 ρ _ (Ble.refl _) h5⟩
  ·exact h.elim
 ·exact h.elim
theorem Dr1 (hS:RH B ρ A s.heap) {size:Nat} {y y':DVal} {n:Nat} {news:List DVal} (hy:RV ρ y y') (h:Cw1 size A y=some (n,news)): ∃news',Qy size s.heap y'=some (n,news')/\RVL ρ news news':=by
 unfold Cw1 at h;split at h
 ·cases h;simp only[RV] at hy;subst hy;exact⟨[],rfl, .nil⟩
 ·rw[Xy] at h;cases h;simp only[RV] at hy;obtain⟨cs',rfl,hl⟩:=hy;exact⟨_,rfl,hl.take _⟩
 ·simp only[RV] at hy;obtain⟨r,rfl,hr⟩:=hy;unfold Tj at h;split at h
  ·rename_i cs e heq
   cases h;obtain⟨r',cs',h1,h2,h3⟩:=Ov hS heq;rw[hr] at h1;cases h1;exact⟨_,by simp only[Qy,h2,Tj],(h3.drop _).take _⟩
  ·cases h
 ·cases h;simp only[RV] at hy;subst hy;exact⟨_,rfl, .bytes _⟩
 ·cases h
theorem Ck8 (hS:RS B ρ E A s) {e:TypeId} {size bytes k r off len lo n:Nat} {news news':List DVal} (hr:ρ k=some r) (hn:RVL ρ news news')
  (h:Bx B ρ (Hb K Q) (Bd0 E A dst e size bytes k off len lo n news (Aw A k))):Ni e size bytes r off len lo n news' dst K s (s.heap r):=by
 unfold Bd0 at h;split at h
 ·rename_i cs e' heq
  obtain⟨r',cs',h1,h2,h3⟩:=Ov hS.heap heq;rw[hr] at h1;cases h1;obtain⟨he,h⟩:=Gq h;have he:=Nat.eq_of_beq_eq_true he;subst he;rw[h2];simp only[Ni];refine⟨trivial,fun hle=> ?_,fun hle=> ?_⟩
  ·rw[Nat.ble_eq_true_of_le hle] at h;obtain⟨hb,h⟩:=Gq h;rw[Av0] at h;rw[Xz] at hb;obtain⟨A',h4,h5,_,_⟩:=Ya (ob':= .cells (splice cs' (off+len*size) news') e') hS heq hr (fun o1 e1=>by cases e1;exact⟨_,rfl,h3.splice _ hn⟩) h;exact⟨by rw[h3.length];exact of_decide_eq_true hb,Iq h5 (.oslice _ _ _ _ hr) h4⟩
  ·have:Nat.ble (len+n) lo=false:=by
    cases hb:Nat.ble (len+n) lo with
    | false=>rfl
    | true=>exact(hle (Nat.le_of_ble_eq_true hb)).elim
   rw[this] at h;obtain⟨hb,h⟩:=Gq h;simp only[jF,Xz,decide_eq_true_eq] at hb;obtain⟨⟨⟨hb1,hb2⟩,hb3⟩,hb4⟩:=hb;have hb3:=Nat.le_of_ble_eq_true hb3;have hb4:=Nat.eq_of_beq_eq_true hb4;subst hb4;refine⟨by rw[h3.length];exact hb1,hb2,fun r2 pre hr2 hpre=> ?_⟩;obtain rfl:=hpre rfl;obtain⟨A',h4,h5,_,_⟩:=Ya (ob':= .cells [] e') hS heq hr (fun o1 e1=>by cases e1) h;have hif:(if len<=lo\/r2=r then upd s.heap r none else s.heap)=upd s.heap r none:=if_pos (.inl hb3);rw[hif];rw[Xy,Ai1,De2] at h4;obtain⟨A2,ρ2,hle2,hk2,h6,h7⟩:=Yb h5 hr2 (o:= .cells ((cs.drop 0).take (len*size)++news) e') (o':= .cells ((cs'.drop 0).take (len*size)++news') e') ⟨_,rfl,((h3.drop 0).take _).append hn⟩ h4;exact Iq h7 (.oslice _ _ _ _ hk2) h6
 ·exact h.elim
theorem Cx3 (hS:RS B ρ E A s) {x x' y y':DVal} {ts:List TypeId} (hx:RV ρ x x') (hy:RV ρ y y') (h:Bx B ρ (Hb K Q) (Am5 P E A dst x y ts)):Tk P x' y' dst ts K s:=by
 unfold Am5 at h;split at h
 ·obtain⟨hb,h⟩:=Gq h;simp only[jF,Bool.not_eq_true'] at hb;simp only[Tk,hb.1,Wq];unfold Dd8 at h;split at h
  ·rename_i e heq
   rw[heq];obtain⟨hb2,h⟩:=Gq h;simp only[jF,decide_eq_true_eq] at hb2;simp only[Ac5];refine⟨hb.2,hb2.1.1.1,hb2.1.1.2,hb2.1.2,hb2.2, ?_⟩;unfold Cj2 at h;split at h
   ·rename_i n news hc
    obtain⟨hb3,h⟩:=Gq h;simp only[jF,Bd7,decide_eq_true_eq] at hb3;obtain⟨news',h1,h2⟩:=Dr1 hS.heap hy hc;rw[h1];simp only[Aw2];refine⟨by rw[h2.length];exact hb3.1,by rw[h2.allOne];exact hb3.2, ?_⟩;unfold Bn0 at h;split at h
    ·simp only[RV] at hx;subst hx;simp only[Kq];refine⟨fun h0=> ?_,fun h0=> ?_⟩
     ·subst h0;exact Iq hS .nilS h
     ·have:Nat.beq n 0=false:=by
       cases hb:Nat.beq n 0 with
       | false=>rfl
       | true=>exact(h0 (Nat.eq_of_beq_eq_true hb)).elim
      rw[this] at h;obtain⟨hb4,h⟩:=Gq h;exact⟨of_decide_eq_true hb4,Be3 hS h2 h⟩
    ·simp only[RV] at hx;obtain⟨r,rfl,hr⟩:=hx;obtain⟨hb4,h⟩:=Gq h;simp only[Kq];exact⟨Nat.eq_of_beq_eq_true hb4,Ck8 hS hr h2 h⟩
    ·exact h.elim
   ·exact h.elim
  ·exact h.elim
 ·exact h.elim
theorem RVM.set: ∀ {es es':List (DVal×DVal)} {i:Nat} {p p':DVal×DVal},RVM ρ es es'->RV ρ p.1 p'.1->RV ρ p.2 p'.2->RVM ρ (es.set i p) (es'.set i p')
 | [],_,i,p,p',he,_,_=>by simp only[RVM] at he;subst he;simp [RVM]
 | x::es,_,0,p,p',he,h1,h2=>by
  obtain⟨q,qs,rfl,_,_,h5⟩:=he;exact⟨p',qs,rfl,h1,h2,h5⟩
 | x::es,_,i+1,p,p',he,h1,h2=>by
  obtain⟨q,qs,rfl,h3,h4,h5⟩:=he;exact⟨q,_,rfl,h3,h4,h5.set h1 h2⟩
theorem RVM.push: ∀ {es es':List (DVal×DVal)} {p p':DVal×DVal},RVM ρ es es'->RV ρ p.1 p'.1->RV ρ p.2 p'.2->RVM ρ (es++ [p]) (es'++ [p'])
 | [],_,p,p',he,h1,h2=>by simp only[RVM] at he;subst he;exact⟨p',[],rfl,h1,h2,rfl⟩
 | x::es,_,p,p',he,h1,h2=>by
  obtain⟨q,qs,rfl,h3,h4,h5⟩:=he;exact⟨q,_,rfl,h3,h4,h5.push h1 h2⟩
theorem Be5 (hS:RS B ρ E A s) {t:Option TypeDesc} {m m' k k' x x':DVal} (hm:RV ρ m m') (hk:RV ρ k k') (hx:RV ρ x x') (h:Bx B ρ (Hb K Q) (Yt P E A dst t m k x)):Rw P dst t m' k' x' K s:=by
 unfold Yt at h;split at h
 ·simp only[RV] at hm;obtain⟨r,rfl,hr⟩:=hm;split at h
  ·rename_i hb heq
   rename_i es
   simp only[jF] at hb;obtain⟨i,hi,h⟩:=Yu h;obtain⟨r',o',h1,h2,es',rfl,h3⟩:=hS.heap.obj _ _ heq;rw[hr] at h1;cases h1;obtain⟨A',h4,h5,_,_⟩:=Ya (ob':= .map (Bp6 es' k' x' i)) hS heq hr (fun o1 e1=>by
    cases e1;refine⟨_,rfl, ?_⟩;cases i with
    | none=>exact h3.push (p:=(k,x)) (p':=(k',x')) hk hx
    | some j=>exact h3.set (p:=(k,x)) (p':=(k',x')) hk hx) h
   simp only[Rw];refine⟨trivial,By3 hk hb.1, ?_⟩;rw[h2];simp only[Ac8];refine⟨by rw[hx.one];exact hb.2, ?_⟩;rw[By2 hk h3 hi];exact h4 ρ _ (Ble.refl _) h5
  ·exact h.elim
 ·exact h.elim
theorem Ck9 (hS:RS B ρ E A s) {t:Option TypeDesc} {r r':Option DVal} (hr:RVo ρ r r') (h:Bx B ρ (Hb K Q) (Ah6 E A dst t r)):Tl dst t r' K s:=by
 unfold Ah6 at h;split at h
 ·obtain rfl:=Rn hr;exact Ck7 hS h
 ·obtain⟨d,rfl,hd⟩:=Ck3 hr;simp only[RV] at hd;subst hd;exact Ck7 hS h
 ·exact h.elim
theorem Dr2 (hS:RS B ρ E A s) {t:Option TypeDesc} {x x':DVal} (hx:RV ρ x x') (h:Bx B ρ (Hb K Q) (Bx0 E A dst t x)):Aw0 dst t x' K s:=by
 unfold Bx0 at h;split at h
 ·rename_i l
  simp only[RV] at hx;subst hx;intro r hr;obtain⟨A',ρ',hle,hk,h1,hS'⟩:=Yb hS hr (o:= .iter l 0) (o':= .iter l 0) (by simp only[RO]) h;exact Iq hS' (.optr 0 hk) h1
 ·exact h.elim
theorem Eh5 (hS:RS B ρ E A s) {b:Bool} {x x':DVal} (hx:RV ρ x x') (h:Bx B ρ (Hb K Q) (Dd9 E A dst b x)):Bi7 dst b x' K s:=by
 unfold Dd9 at h;split at h
 ·simp only[RV] at hx;obtain⟨r,rfl,hr⟩:=hx;unfold Eg1 at h;split at h
  ·rename_i l pos heq
   obtain⟨r',o',h1,h2,h3⟩:=hS.heap.obj _ _ heq;rw[hr] at h1;cases h1;simp only[RO] at h3;subst h3;simp only[Bi7,h2,Bp2];refine⟨fun hlt=> ?_,fun hlt=> ?_⟩
   ·rw[decide_eq_true hlt] at h;simp only[Pa] at h;obtain⟨A',h4,h5,_,_⟩:=Ya (ob':= .iter l (pos+(Nh l pos).2)) hS heq hr (fun o1 e1=>by cases e1;rfl) h;exact Iq h5 (.tuple (.cons (.bool _) (.cons (.int _ _) (.cons (.int _ _) .nil)))) h4
   ·rw[decide_eq_false hlt] at h;exact Iq hS (.tuple (.cons (.bool _) .nil)) h
  ·exact h.elim
 ·exact h.elim
theorem Dr3 (hS:RS B ρ E A s) {c:COut} (h:Bx B ρ (Hb K Q) (Eg2 E dst c)):Mg B ρ (Bp7 dst K Q s.env) c:=by
 cases c with
 | bad=>exact h.elim
 | cret v A1=>
  intro ρ' H' v' hle hH hv;have hS':RS B ρ' E A1 ⟨s.env,H'⟩:=⟨fun i v hi=>(hS.env i v hi).mono hle,hH⟩;exact Iq hS' hv (Bx.le hle h)
 | cpanic v A1=>
  intro ρ' H' v' hle hH hv;exact h ρ' ⟨s.env,H'⟩ v' hle ⟨fun i v hi=>(hS.env i v hi).mono hle,hH⟩ hv
theorem Dr4 (hc:Am9 P G call) (hS:RS B ρ E A s) {args args':List DVal} {f f':DVal} (ha:RVL ρ args args') (hf:RV ρ f f') (h:Bx B ρ (Hb K Q) (Cw2 call E A dst args f)):Aj3 P G args' dst Q f' K s:=by
 unfold Cw2 at h;split at h
 ·simp only[RV] at hf;obtain⟨a',c',rfl,h1,h2⟩:=hf;exact hc B ρ _ _ _ A s.heap _ ((h1.append ha).append h2) hS.heap (Dr3 hS h)
 ·exact h.elim
theorem Dr5 (hS:RS B ρ E A s) {x x':DVal} (hx:RV ρ x x') (h:Bx B ρ (Hb K Q) (Bx2 E A x)):Wr Q s x':=by
 have keep:=hx;unfold Bx2 at h;split at h
 ·simp only[RV] at hx;obtain⟨v',rfl,_⟩:=hx;exact h ρ s _ (Ble.refl _) hS keep
 ·exact h.elim
theorem Cl0 (hS:RS B ρ E A s) {ts:List TypeId} {b:Builtin} {args args':List DVal} (ha:RVL ρ args args') (h:Bx B ρ (Hb K Q) (Bd1 P E A dst ts b args)):Kb P ts dst Q b args' K s:=by
 unfold Bd1 at h;split at h
 ·obtain⟨x',rfl,hx⟩:=Ld ha;exact Nv hS h fun v hv=>Dq8 hx hv
 ·obtain⟨x',ys,rfl,hx,hy⟩:=ha.inv;obtain⟨y',rfl,hy'⟩:=Ld hy;exact Cx3 hS hx hy' h
 ·exact Nv hS h fun v hv=>Bn9 ha hv
 ·exact Nv hS h fun v hv=>Bn9 ha hv
 ·obtain⟨x',rfl,hx⟩:=Ld ha;have keep:=hx;simp only[RV] at hx;obtain⟨v',rfl,_⟩:=hx;exact h ρ s _ (Ble.refl _) hS keep
 ·exact h.elim
theorem Fk4 (call:Nat->List DVal->XH->COut) (E:Tr DVal) (A:XH) (dst:Option Nat) (op:Op):xop P gt call E A dst op=Fr0 P gt call E A dst op:=by cases op<;>rfl
theorem By4 (hgt: ∀g d,gt g=some d-> ∀ρ,RV ρ d (G g)) (hc:Am9 P G call) (hS:RS B ρ E A s) (op:Op) (h:Bx B ρ (Hb K Q) (xop P gt call E A dst op)):dop P G dst K Q s op:=by
 rw[Fk4] at h;cases op<;>simp only[Fr0,Dq1] at h<;>try (exact h.elim)
 case move x=>obtain⟨v,h1,h⟩:=Ey hgt hS h;exact Cj8 hS h1 h
 case assign x=>obtain⟨v,h1,h⟩:=Ey hgt hS h;exact Cj8 hS h1 h
 case pick c a b=>
  obtain⟨v,h1,h⟩:=Ey hgt hS h;obtain⟨w,h2,h⟩:=Ey hgt hS h;obtain⟨x,h3,h⟩:=Ey hgt hS h;exact Nv hS h fun v hv=>Eh1 hv h1 h2 h3
 case alloc e=>
  obtain⟨z,hz,h⟩:=Yu h;simp only[dop,hz,Cm5];exact Ck6 hS (Qm hz).cells h
 case box e x=>
  obtain⟨v,h1,h⟩:=Ey hgt hS h;exact Ck6 hS h1.cells h
 case build t ps=>
  obtain⟨v,h1,h⟩:=Bd9 hgt hS h;exact Nv hS h fun v hv=>Dq2 (fun x hx=>Qm hx) hv h1
 case buildSlice t n ps=>
  obtain⟨v,h1,h⟩:=Bd9 hgt hS h;exact Be4 hS h1 h
 case load t a=>
  obtain⟨v,h1,h⟩:=Ey hgt hS h;exact Nv hS h fun v hv=>Eh2 hS.heap h1 hv
 case store t a x=>
  obtain⟨v,h1,h⟩:=Ey hgt hS h;obtain⟨w,h2,h⟩:=Ey hgt hS h;obtain⟨hb,h⟩:=Gq h;exact⟨hb,Dr0 hS h1 h2 h⟩
 case nilCheck x=>
  obtain⟨v,h1,h⟩:=Ey hgt hS h;exact Nv hS h fun v hv=>Ev3 h1 hv
 case binOp op t x y t'=>
  obtain⟨v,h1,h⟩:=Ey hgt hS h;obtain⟨w,h2,h⟩:=Ey hgt hS h;exact Nv hS h fun v hv=>Eh3 h1 h2 hv
 case unOp op t x=>
  obtain⟨v,h1,h⟩:=Ey hgt hS h;exact Nv hS h fun v hv=>Fk2 h1 hv
 case convert src t x=>
  obtain⟨v,h1,h⟩:=Ey hgt hS h;exact Nv hS h fun v hv=>Dq4 hS.heap h1 hv
 case makeInterface t x=>
  obtain⟨v,h1,h⟩:=Ey hgt hS h;exact Nv hS h fun v hv=>Bh9 h1 hv
 case makeFunc fn fs cs=>
  obtain⟨v,h1,h⟩:=Bd8 hgt hS h;obtain⟨w,h2,h⟩:=Bd8 hgt hS h;exact Iq hS (.func fn h1 h2) h
 case makeMap t r=>
  obtain⟨v,h1,h⟩:=Bx9 hgt hS h;exact Ck9 hS h1 h
 case lookup t x k ok=>
  obtain⟨v,h1,h⟩:=Ey hgt hS h;obtain⟨w,h2,h⟩:=Ey hgt hS h;exact Nv hS h fun v hv=>Cx2 hS.heap h1 h2 hv
 case mapUpdate t m k x=>
  obtain⟨v,h1,h⟩:=Ey hgt hS h;obtain⟨w,h2,h⟩:=Ey hgt hS h;obtain⟨y,h3,h⟩:=Ey hgt hS h;exact Be5 hS h1 h2 h3 h
 case insert t m k x=>
  obtain⟨v,h1,h⟩:=Ey hgt hS h;obtain⟨w,h2,h⟩:=Ey hgt hS h;obtain⟨y,h3,h⟩:=Ey hgt hS h;exact Be5 hS h1 h2 h3 h
 case makeSlice t l c=>
  obtain⟨v,h1,h⟩:=Ey hgt hS h;obtain⟨w,h2,h⟩:=Ey hgt hS h;exact Bi0 hS h1 h2 h
 case slice t x lo hi mx=>
  obtain⟨v,h1,h⟩:=Ey hgt hS h;obtain⟨a,h2,h⟩:=Bx9 hgt hS h;obtain⟨b,h3,h⟩:=Bx9 hgt hS h;obtain⟨c,h4,h⟩:=Bx9 hgt hS h;exact Nv hS h fun v hv=>Dq5 hS.heap h2 h3 h4 h1 hv
 case fieldAddr t x f=>
  obtain⟨v,h1,h⟩:=Ey hgt hS h;exact Nv hS h fun v hv=>Bh7 h1 hv
 case field t x f=>
  obtain⟨v,h1,h⟩:=Ey hgt hS h;exact Nv hS h fun v hv=>Dq6 h1 hv
 case indexAddr t x i=>
  obtain⟨v,h1,h⟩:=Ey hgt hS h;obtain⟨w,h2,h⟩:=Ey hgt hS h;exact Nv hS h fun v hv=>Bh8 h1 h2 hv
 case index t x i=>
  obtain⟨v,h1,h⟩:=Ey hgt hS h;obtain⟨w,h2,h⟩:=Ey hgt hS h;exact Nv hS h fun v hv=>Dq7 h1 h2 hv
 case typeAssert x t u ok=>
  obtain⟨v,h1,h⟩:=Ey hgt hS h;exact Nv hS h fun v hv=>Be1 h1 hv
 case extract x i=>
  obtain⟨v,h1,h⟩:=Ey hgt hS h;exact Nv hS h fun v hv=>Ck5 h1 hv
 case panic x=>
  obtain⟨v,h1,h⟩:=Ey hgt hS h;exact Dr5 hS h1 h
 case range t x=>
  obtain⟨v,h1,h⟩:=Ey hgt hS h;exact Dr2 hS h1 h
 case next x b=>
  obtain⟨v,h1,h⟩:=Ey hgt hS h;exact Eh5 hS h1 h
 case call c=>
  unfold Bx1 at h;simp only[dop,Rx];split at h
  ·rename_i f heq
   rw[heq];obtain⟨v,h1,h⟩:=Ey hgt hS h;obtain⟨w,h2,h⟩:=Bd8 hgt hS h;exact Dr4 hc hS h2 h1 h
  ·rename_i b heq
   rw[heq];obtain⟨w,h2,h⟩:=Bd8 hgt hS h;exact Cl0 hS h2 h
  ·exact h.elim
end
end Go.Dl

-- AN INTERPRETER OF THE DATA LEVEL, PART 6: code.
namespace Go.Dl
open Go
noncomputable section
structure XP where
 P:Program
 gt:Nat->Option DVal
 plans:List (FuncId×Nat×Plan)
 memo:List (FuncId×List DVal×DVal)
 good:List (FuncId×Nat)
def Cx4 (l:List (FuncId×Nat×Plan)) (f id:Nat):Option Plan:=
 List.rec (motive:=fun _=>Option Plan) none (fun x _ ih=>Bool.rec (motive:=fun _=>Option Plan) ih (some x.2.2) (Nat.beq x.1 f&&Nat.beq x.2.1 id)) l
def Cx5 (l:List (FuncId×List DVal×DVal)) (k:Nat) (args:List DVal):Option DVal:=
 List.rec (motive:=fun _=>Option DVal) none (fun x _ ih=>Bool.rec (motive:=fun _=>Option DVal) ih (some x.2.2) (Nat.beq x.1 k&&Nb args x.2.1)) l
def By5 (l:List (FuncId×Nat)) (k n:Nat):Bool:=
 List.rec (motive:=fun _=>Bool) false (fun x _ ih=>Bool.rec (motive:=fun _=>Bool) ih true (Nat.beq x.1 k&&Nat.beq x.2 n)) l
section
variable (X:XP)
def Yc (ih:FuncId->Code->Tr DVal->XH->Out) (rs:List ResultVar) (g:FuncId) (caps:List DVal) (x:DVal) (E:Tr DVal) (H:XH):COut:=
 match X.P.funcs[g]? with
 | some fg=>match fg.body with
  | some c=>match Bn1 c with
   | some (t1,t2,cc)=>Ah9 caps 0 .leaf fun F=>Tr.setK .bad x 10 F t1 fun F=>Tr.setK .bad x 10 F t2 fun F=>
    match ih g cc F H with
    | .norm _ H'=>Dp9 X.P rs E H'
    | .ret _ H'=>Dp9 X.P rs E H'
    | _=> .bad
   | none=> .bad
  | none=> .bad
 | none=> .bad
def Be6 (ih:FuncId->Code->Tr DVal->XH->Out) (rs:List ResultVar) (g:FuncId) (caps:List DVal):Out->COut
 | .norm E H=>Yc X ih rs g caps .nilIface E H
 | .ret E H=>Yc X ih rs g caps .nilIface E H
 | .panic v E H=>Yc X ih rs g caps v E H
 | _=> .bad
def Ez1 (ih:FuncId->Code->Tr DVal->XH->Out) (k:FuncId) (rs:List ResultVar) (l:Late) (args:List DVal) (H:XH):COut:=
 Ah9 args 0 .leaf fun E=>
 match ih k l.A1 E H with
 | .norm E H=>match ih k l.A2 E H with
  | .norm E H=>Ah2 X.gt .bad E l.caps fun caps=>Tr.setK .bad (.func (.func l.g) [] caps) 10 E l.d fun E2=>Be6 X ih rs l.g caps (ih k l.C E2 H)
  | _=> .bad
 | _=> .bad
def Cx6 (ih:FuncId->Code->Tr DVal->XH->Out) (k:FuncId) (args:List DVal) (H:XH):COut:=
 match X.P.funcs[k]? with
 | some fn=>match fn.body with
  | some c=>match Bd6 c with
   | some l=>Ez1 X ih k fn.results.toList l args H
   | none=>Ah9 args 0 .leaf fun E=>Fr1 X.P fn.results.toList (ih k c E H)
  | none=> .bad
 | none=> .bad
def Cl1 (ih:FuncId->Code->Tr DVal->XH->Out) (k:FuncId) (args:List DVal) (H:XH):COut:=
 match Cx5 X.memo k args with
 | some v=> .cret v H
 | none=>Bool.rec (motive:=fun _=>COut) .bad (Cx6 X ih k args H) (By5 X.good k args.length)
def Eh6 (ih:FuncId->Code->Tr DVal->XH->Out) (f:FuncId) (c:Code) (E:Tr DVal) (H:XH):Out:=
 match c with
 | .skip=> .norm E H
 | .label _=> .norm E H
 | .region _ ops false=>Fj7 X.P X.gt (Cl1 X ih) ops.toList ops.toList E H
 | .region id ops true=>match Cx4 X.plans f id with
  | some p=>Cj3 (Ah8 X.P X.gt (Cl1 X ih) ops.toList p E H)
  | none=> .bad
 | .seq a b=>Xx (ih f a E H) fun E H=>ih f b E H
 | .cond c a b=>evK X.gt .bad E c fun v=>Ez0 (ih f a E H) (ih f b E H) v
 | .block id c=>Bx6 id (ih f c E H)
 | .loop c=>Ey9 (Bd5 (fun E H=>ih f c E H) 20 E H)
 | .exit id=> .exit id E H
 | .ret=> .ret E H
 | .scope c=>ih f c E H
 | _=> .bad
def Bi1 (n:Nat):FuncId->Code->Tr DVal->XH->Out:=
 Nat.rec (motive:=fun _=>FuncId->Code->Tr DVal->XH->Out) (fun _ _ _ _=> .bad) (fun _ ih f c E H=>Eh6 X ih f c E H) n
def Gm (plans:List (FuncId×Nat×Plan)) (f N:Nat):Code->Bool
 | .region id ops true=>match Cx4 plans f id with
  | some p=>ops.toList.all (Jm N)&&Ao4 ops.toList [] p&&Ii ops.toList p []
  | none=>true
 | .seq a b=>Gm plans f N a&&Gm plans f N b
 | .cond _ a b=>Gm plans f N a&&Gm plans f N b
 | .block _ c=>Gm plans f N c
 | .loop c=>Gm plans f N c
 | .scope c=>Gm plans f N c
 | _=>true
def De3 (P:Program) (plans:List (FuncId×Nat×Plan)) (k n:Nat) (fn:Func) (l:Late):Bool:=
 match P.funcs[l.g]? with
 | some fg=>match fg.body with
  | some c=>match Bn1 c with
   | some (t1,t2,cc)=>!(fg.name== "runtime.NumGoroutine")&&fg.results.toList.isEmpty&&Gm plans l.g fg.ntmps cc&&
    (decide (l.caps.length<=fg.ntmps)&&Gb fg.ntmps cc&&Rq cc&&decide (t1<fg.ntmps)&&decide (t2<fg.ntmps))&&
    (Gm plans k fn.ntmps l.A1&&Gm plans k fn.ntmps l.A2&&Gm plans k fn.ntmps l.C)&&
    (decide (n<=fn.ntmps)&&(Gb fn.ntmps l.A1&&Rq l.A1)&&(Gb fn.ntmps l.A2&&Rq l.A2)&&(Gb fn.ntmps l.C&&Rq l.C)&&decide (l.d<fn.ntmps)&&l.caps.all (Cd fn.ntmps)&&fn.results.toList.all (Ao2 fn.ntmps))
   | none=>false
  | none=>false
 | none=>false
def Cl2 (P:Program) (plans:List (FuncId×Nat×Plan)) (k n:Nat):Bool:=
 match P.funcs[k]? with
 | some fn=>!(fn.name== "runtime.NumGoroutine")&&match fn.body with
  | some c=>match Bd6 c with
   | some l=>De3 P plans k n fn l
   | none=>Fc1 fn n&&Gm plans k fn.ntmps c
  | none=>false
 | none=>false
structure XOk (G:Nat->DVal):Prop where
 mixed:X.P.follows .mixedOrders=true
 gt: ∀g d,X.gt g=some d-> ∀ρ,RV ρ d (G g)
 good:X.good.all (fun x=>Cl2 X.P X.plans x.1 x.2)=true
 plain:X.memo.all (fun x=>Ka x.2.1&&Jt x.2.2)=true
 memo: ∀x∈X.memo,∀H,Ae X.P G x.1 x.2.1 H (Ba x.2.2 H)
end
end
theorem Ar5 {k:Nat} {args:List DVal} {v:DVal}: ∀ {l:List (FuncId×List DVal×DVal)},Cx5 l k args=some v-> ∃x∈l,x.1=k/\Nb args x.2.1=true/\x.2.2=v
 | [],h=>by cases h
 | x::l,h=>by
  have h:Bool.rec (motive:=fun _=>Option DVal) (Cx5 l k args) (some x.2.2) (Nat.beq x.1 k&&Nb args x.2.1)=some v:=h;cases hb:(Nat.beq x.1 k&&Nb args x.2.1) with
  | false=>
   rw[hb] at h;obtain⟨y,h1,h2⟩:=Ar5 h;exact⟨y,List.mem_cons_of_mem _ h1,h2⟩
  | true=>
   rw[hb] at h;cases h;simp only[jF] at hb;exact⟨x,List.mem_cons_self,Nat.eq_of_beq_eq_true hb.1,hb.2,rfl⟩
theorem Ar6 {k n:Nat}: ∀ {l:List (FuncId×Nat)},By5 l k n=true->(k,n)∈l
 | [],h=>by cases h
 | x::l,h=>by
  have h:Bool.rec (motive:=fun _=>Bool) (By5 l k n) true (Nat.beq x.1 k&&Nat.beq x.2 n)=true:=h;cases hb:(Nat.beq x.1 k&&Nat.beq x.2 n) with
  | false=>rw[hb] at h;exact List.mem_cons_of_mem _ (Ar6 h)
  | true=>
   simp only[jF] at hb;obtain⟨a,b⟩:=x;have h1:=Nat.eq_of_beq_eq_true hb.1;have h2:=Nat.eq_of_beq_eq_true hb.2;dsimp only at h1 h2;rw[h1,h2];exact List.mem_cons_self
theorem Eo {a b:Nat} (h:Nat.beq a b=true):a=b:=Nat.eq_of_beq_eq_true h
mutual
theorem Av3: ∀ {a b:DVal},Cw3 a b=true->a=b
 | .raw _,b,h=>by
  cases b<;>first | (cases (show false=true from h);done) | skip
 | .bool a,b,h=>by
  cases b<;>first | (cases (show false=true from h);done) | skip
  rename_i c;have h:(a==c)=true:=h;rw[eq_of_beq h]
 | .int k n,b,h=>by
  cases b<;>first | (cases (show false=true from h);done) | skip
  rename_i k' n';have h:(decide (k=k')&&decide (n=n'))=true:=h;simp only[jF,decide_eq_true_eq] at h;rw[h.1,h.2]
 | .str l,b,h=>by
  cases b<;>first | (cases (show false=true from h);done) | skip
  rename_i c;have h:decide (l=c)=true:=h;rw[of_decide_eq_true h]
 | .nilPtr,b,h=>by
  cases b<;>first | (cases (show false=true from h);done) | skip
  rfl
 | .nilSlice,b,h=>by
  cases b<;>first | (cases (show false=true from h);done) | skip
  rfl
 | .nilMap,b,h=>by
  cases b<;>first | (cases (show false=true from h);done) | skip
  rfl
 | .nilFunc,b,h=>by
  cases b<;>first | (cases (show false=true from h);done) | skip
  rfl
 | .nilIface,b,h=>by
  cases b<;>first | (cases (show false=true from h);done) | skip
  rfl
 | .optr r o,b,h=>by
  cases b<;>first | (cases (show false=true from h);done) | skip
  rename_i r' o';have h:(Nat.beq r r'&&Nat.beq o o')=true:=h;simp only[jF] at h;rw[Eo h.1,Eo h.2]
 | .oslice x y z u v,b,h=>by
  cases b<;>first | (cases (show false=true from h);done) | skip
  rename_i x' y' z' u' v';have h:(Nat.beq x x'&&Nat.beq y y'&&Nat.beq z z'&&Nat.beq u u'&&Nat.beq v v')=true:=h;simp only[jF] at h;rw[Eo h.1.1.1.1,Eo h.1.1.1.2,Eo h.1.1.2,Eo h.1.2,Eo h.2]
 | .vptr cs o,b,h=>by
  cases b<;>first | (cases (show false=true from h);done) | skip
  rename_i cs' o';have h:(Nat.beq o o'&&Nb cs cs')=true:=h;simp only[jF] at h;rw[Eo h.1,Nw h.2]
 | .vslice cs o,b,h=>by
  cases b<;>first | (cases (show false=true from h);done) | skip
  rename_i cs' o';have h:(Nat.beq o o'&&Nb cs cs')=true:=h;simp only[jF] at h;rw[Eo h.1,Nw h.2]
 | .iface t v,b,h=>by
  cases b<;>first | (cases (show false=true from h);done) | skip
  rename_i t' v';have h:(Nat.beq t t'&&Cw3 v v')=true:=h;simp only[jF] at h;rw[Eo h.1,Av3 h.2]
 | .agg cs,b,h=>by
  cases b<;>first | (cases (show false=true from h);done) | skip
  rename_i cs';have h:Nb cs cs'=true:=h;rw[Nw h]
 | .tuple cs,b,h=>by
  cases b<;>first | (cases (show false=true from h);done) | skip
  rename_i cs';have h:Nb cs cs'=true:=h;rw[Nw h]
 | .omap r,b,h=>by
  cases b<;>first | (cases (show false=true from h);done) | skip
 | .func f x y,b,h=>by
  cases f<;>cases b<;>first | (cases (show false=true from h);done) | skip
  rename_i f g x' y'
  cases g<;>first | (cases (show false=true from h);done) | skip
  rename_i g
  have h:(Nat.beq f g&&Nb x x'&&Nb y y')=true:=h
  simp only[jF] at h
  rw[Eo h.1.1,Nw h.1.2,Nw h.2]
theorem Nw: ∀ {a b:List DVal},Nb a b=true->a=b
 | [],[],_=>rfl
 | [],_::_,h=>by cases (show false=true from h)
 | _::_,[],h=>by cases (show false=true from h)
 | a::al,b::bl,h=>by
  have h:(Cw3 a b&&Nb al bl)=true:=h
  simp only[jF] at h
  rw[Av3 h.1,Nw h.2]
end
theorem Ew3 {a b:Option DObj} (h:Cw4 a b=true):a=b/\ ∃o,a=some o:=by
 unfold Cw4 at h;split at h
 ·simp only[jF] at h;rw[Nat.eq_of_beq_eq_true h.1,Nw h.2];exact⟨rfl,_,rfl⟩
 ·simp only[jF,decide_eq_true_eq] at h;rw[h.1,Nat.eq_of_beq_eq_true h.2];exact⟨rfl,_,rfl⟩
 ·cases h
end Go.Dl

-- AN INTERPRETER OF THE DATA LEVEL, PART 7: what it says of code and of calls is true.
namespace Go.Dl
open Go
section
variable {X:XP} {G:Nat->DVal} {call:Nat->List DVal->XH->COut}
variable {B:Ab} {ρ:Nat->Option Nat} {E:Tr DVal} {A:XH} {s:DS} {K:DK} {Q:DExit->DS->Prop}
theorem By6 {W:DK} {o:Out} {κ:Tr DVal->XH->Out} (h:Bx B ρ Q (Xx o κ)) (k: ∀ρ' E' A' s',Ble ρ ρ'->RS B ρ' E' A' s'->Bx B ρ' Q (κ E' A')->W s'):Bx B ρ (Hb W Q) o:=by
 cases o with
 | bad=>exact h
 | norm E' A'=>exact fun ρ' s' hl hS=>k ρ' E' A' s' hl hS (Bx.le hl h)
 | exit id E' A'=>exact h
 | ret E' A'=>exact h
 | panic v E' A'=>exact h
 | panicX v A'=>exact h
theorem Av4 {all:List Oper} (hS:RS B ρ E A s) {gd:Option (Nat×Bool)} {w:Bool} (h:Eg3 all E gd=some w):
  (gd=none/\w=true)\/ ∃j b g,gd=some (j,b)/\Pv all j=some g/\((∃v,s.env g= .bool v/\w=(v==b))\/(s.env g= .tuple []/\w=false)):=by
 unfold Eg3 at h;split at h
 ·cases h;exact .inl ⟨rfl,rfl⟩
 ·rename_i j b
  split at h
  ·rename_i g hg
   refine .inr ⟨j,b,g,rfl,hg, ?_⟩;cases hv:E.get g with
   | none=>rw[hv] at h;cases b<;>cases h
   | some x=>
    have hr:=hS.env g x hv;rw[hv] at h;cases x<;>simp only[RV] at hr
    case bool c=>cases c<;>cases b<;>cases h<;>exact .inl ⟨_,hr,rfl⟩
    case tuple cs=>cases cs with
     | nil=>
      simp only[RVL] at hr;obtain⟨cs',hr,rfl⟩:=hr;cases b<;>cases h<;>exact .inr ⟨hr,rfl⟩
     | cons x cs=>cases b<;>cases h
    all_goals (cases b<;>cases h)
  ·cases h
theorem De4 (hX:XOk X G) (hc:Am9 X.P G call) (all:List Oper): ∀(ops:List Oper) (E:Tr DVal) (A:XH) (s:DS) (ρ:Nat->Option Nat),RS B ρ E A s->Bx B ρ Q (Fj7 X.P X.gt call all ops E A)->Of X.P G all Q ops s
 | [],E,A,s,ρ,hS,h=>h ρ s (Ble.refl _) hS
 | o::ops,E,A,s,ρ,hS,h=>by
  have h:Bx B ρ Q (Xx (Eg4 X.P X.gt call all E A o) (Fj7 X.P X.gt call all ops)):=h;have h1:=By6 (W:=Of X.P G all Q ops) h fun ρ' E' A' s' _ hS' h'=>De4 hX hc all ops E' A' s' ρ' hS' h';simp only[Of];unfold Eg4 at h1;split at h1
  ·rename_i hw
   rcases Av4 hS hw with⟨hg,_⟩ | ⟨j,b,g,hg,hd,hv⟩
   ·rw[hg];exact By4 hX.gt hc hS _ h1
   ·rw[hg];simp only[hd];rcases hv with⟨v,hv,hvb⟩ | ⟨_,hf⟩
    ·rw[hv];have:v=b:=by simpa using hvb.symm
     exact⟨fun _=>By4 hX.gt hc hS _ h1,fun hn=>(hn this).elim⟩
    ·cases hf
  ·rename_i hw
   rcases Av4 hS hw with⟨_,hf⟩ | ⟨j,b,g,hg,hd,hv⟩
   ·cases hf
   ·rw[hg];simp only[hd];rcases hv with⟨v,hv,hvb⟩ | ⟨hv,_⟩
    ·rw[hv];have:v≠b:=by simpa using hvb.symm
     exact⟨fun hn=>(this hn).elim,fun _=>Iq hS .undef h1⟩
    ·rw[hv];exact Iq hS .undef h1
  ·exact h1.elim
theorem Eh7 {W:DK} {o:Out} {κ:Tr DVal->XH->Out} (h:Bx B ρ Q (Cj3 (Xx o κ))) (k: ∀ρ' E' A' s',Ble ρ ρ'->RS B ρ' E' A' s'->Bx B ρ' Q (Cj3 (κ E' A'))->W s'):Bx B ρ (Hb W (QP Q)) o:=by
 cases o with
 | bad=>exact h
 | norm E' A'=>exact fun ρ' s' hl hS=>k ρ' E' A' s' hl hS (Bx.le hl h)
 | exit id E' A'=>exact h.elim
 | ret E' A'=>exact h.elim
 | panic v E' A'=>exact fun ρ' s' v' hl hS hv env=>h ρ' ⟨env,s'.heap⟩ v' hl hS.heap hv
 | panicX v A'=>exact h.elim
theorem Bo0 {ρ':Nat->Option Nat} {A':XH} {s':DS} (hS:RS B ρ E A s) {E':Tr DVal} (hS':RS B ρ' E' A' s') (hl:Ble ρ ρ') {k r:Nat} (hr:ρ k=some r) (h:Cw4 (Aw A k) (Aw A' k)=true):s'.heap r=s.heap r:=by
 obtain⟨he,o,ho⟩:=Ew3 h;obtain⟨r1,o1,h1,h2,h3⟩:=hS.heap.obj k o ho;obtain⟨r2,o2,k1,k2,k3⟩:=hS'.heap.obj k o (by rw[<-he];exact ho);rw[hr] at h1;cases h1;rw[hl k r hr] at k1;cases k1;rw[ho] at h;have h3:=h3.mono hl;cases o with
 | cells cs e=>
  obtain⟨x,rfl,g1⟩:=h3;obtain⟨y,rfl,g2⟩:=k3;rw[h2,k2,RVL.fn g1 g2]
 | iter s p=>
  simp only[RO] at h3 k3;rw[h2,k2,h3,k3]
 | map es=>exfalso;revert h;unfold Cw4;split<;>simp_all
 | loop=>exfalso;revert h;unfold Cw4;split<;>simp_all
theorem Eh8 {ρ':Nat->Option Nat} {A':XH} {s':DS} (hS:RS B ρ E A s) {E':Tr DVal} (hS':RS B ρ' E' A' s') (hl:Ble ρ ρ') {v v':DVal} (hv:RV ρ v v') (h:Cw5 A A' v=true):Kd s.heap s'.heap v':=by
 cases v<;>simp only[RV] at hv
 case optr r off=>
  obtain⟨r',rfl,hr⟩:=hv;exact Bo0 hS hS' hl hr h
 case oslice a b c d e=>
  obtain⟨r',rfl,hr⟩:=hv;exact Bo0 hS hS' hl hr h
 all_goals first
  | (subst hv;trivial)
  | (obtain⟨_,rfl,_⟩:=hv;trivial)
  | (obtain⟨_,_,rfl,_⟩:=hv;trivial)
theorem Cl3 (hX:XOk X G) {ρ':Nat->Option Nat} {A':XH} {s':DS} (hS:RS B ρ E A s) {E':Tr DVal} (hS':RS B ρ' E' A' s') (hl:Ble ρ ρ') (all:List Oper): ∀ {ls:List Nat},Bd2 X.gt all E A A' ls=true->Da2 G all s s'.heap ls
 | [],_=>trivial
 | l::ls,h=>by
  simp only[Bd2,jF] at h;refine⟨?_,Cl3 hX hS hS' hl all h.2⟩;have h:=h.1;revert h;cases Uz (Fe all l) with
  | none=>intro _;trivial
  | some a=>
   intro h;simp only[Eg5] at h;rcases Cw7 hX.gt hS a (fun v=>Cw5 A A' v) (z:=false) with e | ⟨v,h1,e⟩
   ·rw[e] at h;cases h
   ·rw[e] at h;exact Eh8 hS hS' hl h1 h
theorem Eh9 (hX:XOk X G) (hc:Am9 X.P G call) {all:List Oper} (hS:RS B ρ E A s) {i:Nat} (h:Bx B ρ (Hb K Q) (xat X.P X.gt call all E A i)):dAt X.P G all K Q s (Fe all i):=by
 unfold xat at h;split at h
 ·rename_i o ho
  rw[ho];show Dl5 X.P G all K Q s o.dst o.op o.guard;unfold Eg4 at h;split at h
  ·rename_i hw
   rcases Av4 hS hw with⟨hg,_⟩ | ⟨j,b,g,hg,hd,hv⟩
   ·rw[hg];exact By4 hX.gt hc hS _ h
   ·rw[hg];simp only[Dl5,hd,Tq];rcases hv with⟨v,hv,hvb⟩ | ⟨_,hf⟩
    ·rw[hv];have:v=b:=by simpa using hvb.symm
     subst this;cases v<;>exact By4 hX.gt hc hS _ h
    ·cases hf
  ·rename_i hw
   rcases Av4 hS hw with⟨_,hf⟩ | ⟨j,b,g,hg,hd,hv⟩
   ·cases hf
   ·rw[hg];simp only[Dl5,hd,Tq];have:=Iq hS .undef h;rcases hv with⟨v,hv,hvb⟩ | ⟨hv,_⟩
    ·rw[hv];have hne:v≠b:=by simpa using hvb.symm
     cases v<;>cases b<;>first | exact this | exact(hne rfl).elim
    ·rw[hv];cases b<;>exact this
  ·exact h.elim
 ·exact h.elim
mutual
theorem Cx7 {π:List (Nat×Nat)} {nx:Nat} {ρ2 ρ0:Nat->Option Nat} (hid: ∀k k' r,At4 π nx k k'=true->ρ2 k'=some r->ρ0 k=some r): ∀ {v w d:DVal},eqP π nx v w=true->RV ρ2 w d->RV ρ0 v d
 | .raw _,w,d,h,hr=>by
  cases w<;>first | (cases (show false=true from h);done) | skip
 | .bool a,w,d,h,hr=>by
  cases w<;>first | (cases (show false=true from h);done) | skip
  rename_i c;have h:(a==c)=true:=h;rw[eq_of_beq h];simpa only[RV] using hr
 | .int k n,w,d,h,hr=>by
  cases w<;>first | (cases (show false=true from h);done) | skip
  rename_i k' n';have h:(decide (k=k')&&decide (n=n'))=true:=h;simp only[jF,decide_eq_true_eq] at h;rw[h.1,h.2];simpa only[RV] using hr
 | .str l,w,d,h,hr=>by
  cases w<;>first | (cases (show false=true from h);done) | skip
  rename_i c;have h:Cv9 l c=true:=h;rw[Av1] at h;rw[of_decide_eq_true h];simpa only[RV] using hr
 | .nilPtr,w,d,h,hr=>by
  cases w<;>first | (cases (show false=true from h);done) | skip
  simpa only[RV] using hr
 | .nilSlice,w,d,h,hr=>by
  cases w<;>first | (cases (show false=true from h);done) | skip
  simpa only[RV] using hr
 | .nilMap,w,d,h,hr=>by
  cases w<;>first | (cases (show false=true from h);done) | skip
  simpa only[RV] using hr
 | .nilFunc,w,d,h,hr=>by
  cases w<;>first | (cases (show false=true from h);done) | skip
  simpa only[RV] using hr
 | .nilIface,w,d,h,hr=>by
  cases w<;>first | (cases (show false=true from h);done) | skip
  simpa only[RV] using hr
 | .optr r o,w,d,h,hr=>by
  cases w<;>first | (cases (show false=true from h);done) | skip
  rename_i r' o';have h:(At4 π nx r r'&&Nat.beq o o')=true:=h;simp only[jF] at h;simp only[RV] at hr⊢;obtain⟨a,rfl,e⟩:=hr;exact⟨a,by rw[Eo h.2],hid _ _ _ h.1 e⟩
 | .omap r,w,d,h,hr=>by
  cases w<;>first | (cases (show false=true from h);done) | skip
  rename_i r';have h:At4 π nx r r'=true:=h;simp only[RV] at hr⊢;obtain⟨a,rfl,e⟩:=hr;exact⟨a,rfl,hid _ _ _ h e⟩
 | .oslice x y z u v,w,d,h,hr=>by
  cases w<;>first | (cases (show false=true from h);done) | skip
  rename_i x' y' z' u' v';have h:(Nat.beq x x'&&At4 π nx y y'&&Nat.beq z z'&&Nat.beq u u'&&Nat.beq v v')=true:=h;simp only[jF] at h;simp only[RV] at hr⊢;obtain⟨a,rfl,e⟩:=hr;exact⟨a,by rw[Eo h.1.1.1.1,Eo h.1.1.2,Eo h.1.2,Eo h.2],hid _ _ _ h.1.1.1.2 e⟩
 | .vptr cs o,w,d,h,hr=>by
  cases w<;>first | (cases (show false=true from h);done) | skip
  rename_i cs' o';have h:(Nat.beq o o'&&Yx π nx cs cs')=true:=h;simp only[jF] at h;simp only[RV] at hr⊢;obtain⟨a,rfl,e⟩:=hr;exact⟨a,by rw[Eo h.1],Tb hid h.2 e⟩
 | .vslice cs o,w,d,h,hr=>by
  cases w<;>first | (cases (show false=true from h);done) | skip
  rename_i cs' o';have h:(Nat.beq o o'&&Yx π nx cs cs')=true:=h;simp only[jF] at h;simp only[RV] at hr⊢;obtain⟨a,rfl,e⟩:=hr;exact⟨a,by rw[Eo h.1],Tb hid h.2 e⟩
 | .iface t v,w,d,h,hr=>by
  cases w<;>first | (cases (show false=true from h);done) | skip
  rename_i t' v';have h:(Nat.beq t t'&&eqP π nx v v')=true:=h;simp only[jF] at h;simp only[RV] at hr⊢;obtain⟨a,rfl,e⟩:=hr;exact⟨a,by rw[Eo h.1],Cx7 hid h.2 e⟩
 | .agg cs,w,d,h,hr=>by
  cases w<;>first | (cases (show false=true from h);done) | skip
  rename_i cs';have h:Yx π nx cs cs'=true:=h;simp only[RV] at hr⊢;obtain⟨a,rfl,e⟩:=hr;exact⟨a,rfl,Tb hid h e⟩
 | .tuple cs,w,d,h,hr=>by
  cases w<;>first | (cases (show false=true from h);done) | skip
  rename_i cs';have h:Yx π nx cs cs'=true:=h;simp only[RV] at hr⊢;obtain⟨a,rfl,e⟩:=hr;exact⟨a,rfl,Tb hid h e⟩
 | .func f x y,w,d,h,hr=>by
  cases f<;>cases w<;>first | (cases (show false=true from h);done) | skip
  rename_i f g x' y'
  cases g<;>first | (cases (show false=true from h);done) | skip
  rename_i g
  have h:(Nat.beq f g&&Yx π nx x x'&&Yx π nx y y')=true:=h
  simp only[jF] at h
  simp only[RV] at hr⊢
  obtain⟨a,b,rfl,e1,e2⟩:=hr
  exact⟨a,b,by rw[Eo h.1.1],Tb hid h.1.2 e1,Tb hid h.2 e2⟩
theorem Tb {π:List (Nat×Nat)} {nx:Nat} {ρ2 ρ0:Nat->Option Nat} (hid: ∀k k' r,At4 π nx k k'=true->ρ2 k'=some r->ρ0 k=some r): ∀ {v w d:List DVal},Yx π nx v w=true->RVL ρ2 w d->RVL ρ0 v d
 | [],[],_,_,hr=>by simpa only[RVL] using hr
 | [],_::_,_,h,_=>by cases (show false=true from h)
 | _::_,[],_,h,_=>by cases (show false=true from h)
 | a::al,b::bl,_,h,hr=>by
  have h:(eqP π nx a b&&Yx π nx al bl)=true:=h
  simp only[jF] at h
  obtain⟨x,xs,rfl,h1,h2⟩:=hr.inv
  exact .cons (Cx7 hid h.1 h1) (Tb hid h.2 h2)
end
theorem Cl4 {k:DVal} {c d r:Bool} (h:Rp k (.agg [.bool c, .bool d])=some r): ∃a b,k= .agg [.bool a, .bool b]:=by
 unfold Rp at h;split at h;all_goals first | (cases h;done) | skip
 all_goals first | (rename_i heq;cases heq;done) | skip
 exact⟨_,_,rfl⟩
theorem By7 {es es':List (DVal×DVal)} {k:DVal} {r:Option Nat} (h:lkB es es' k=true) (hr:Ga k es 0=some r): ∃r',Ga k es' 0=some r'/\
  ((r=none/\r'=none)\/ ∃i j p p',r=some i/\r'=some j/\es[i]? =some p/\es'[j]? =some p'/\p.2=p'.2/\Jt p.2=true):=by
 unfold lkB at h;rw[hr] at h;split at h
 ·rename_i h1 h2;cases h1;exact⟨none,h2, .inl ⟨rfl,rfl⟩⟩
 ·rename_i i j h1 h2
  cases h1;split at h
  ·rename_i p p' e1 e2
   simp only[jF] at h;exact⟨some j,h2, .inr ⟨i,j,p,p',rfl,rfl,e1,e2,Av3 h.1,h.2⟩⟩
  ·cases h
 ·cases h
theorem Ei0 {es es':List (DVal×DVal)} (h:lkA es es'=true):LK es es'/\Bx3 es'=true:=by
 unfold lkA at h;simp only[jF] at h;obtain⟨⟨⟨⟨⟨h0,hp⟩,h1⟩,h2⟩,h3⟩,h4⟩:=h;refine⟨fun k r hr=> ?_,hp⟩;have hk: ∃a b,k= .agg [.bool a, .bool b]:=by
  unfold Ey8 at h0;split at h0
  ·simp only[Ga] at hr;unfold Uq at hr;split at hr
   ·rename_i e;exact Cl4 e
   ·rename_i e;exact Cl4 e
   ·cases hr
  ·cases h0
 obtain⟨a,b,rfl⟩:=hk;cases a<;>cases b
 ·exact By7 h4 hr
 ·exact By7 h3 hr
 ·exact By7 h2 hr
 ·exact By7 h1 hr
theorem Bo1 {ρ:Nat->Option Nat}: ∀ {es c:List (DVal×DVal)},Bx3 es=true->RVM ρ es c->c=es
 | [],c,_,h=>by simp only[RVM] at h;exact h
 | p::es,c,hp,h=>by
  obtain⟨q,qs,rfl,h1,h2,h3⟩:=h;simp only[Bx3,List.all_cons,jF] at hp;have e1:=h1.fn (Uk hp.1.1);have e2:=h2.fn (Uk hp.1.2);have:q=p:=by obtain⟨a,b⟩:=q;obtain⟨c,d⟩:=p;simp only at e1 e2;rw[e1,e2]
  rw[this,Bo1 hp.2 h3]
theorem Ow {α:Type} {x y:α} {b:Bool} (h:Bool.rec (motive:=fun _=>Option α) none (some x) b=some y):b=true/\x=y:=by
 cases b with
 | false=>cases h
 | true=>cases h;exact⟨rfl,rfl⟩
theorem By8 {ρ:Nat->Option Nat} {env:Nat->DVal} {n:Nat} {l:Loop} {es:List (DVal×DVal)} {o:DObj} (h:lkA (Bh6 env n) es=true) (ho:RO ρ (.map es) o) {ρ':Nat->Option Nat}:RO ρ' (.loop env n l) o:=by
 obtain⟨c,rfl,hc⟩:=ho;obtain⟨h1,h2⟩:=Ei0 h;obtain rfl:=Bo1 h2 hc;exact⟨_,rfl,h1⟩
theorem Be7 {π:List (Nat×Nat)} {nx:Nat} {ρ1 ρ2 ρ0:Nat->Option Nat} (hid: ∀k k' r,At4 π nx k k'=true->ρ2 k'=some r->ρ0 k=some r) {a b y:Option DObj} (h:Ah7 π nx a b=some y):
  ∃x z o,a=some x/\b=some z/\y=some o/\(∀c,RO ρ1 x c->RO ρ1 o c)/\(∀c,RO ρ2 z c->RO ρ0 o c):=by
 unfold Ah7 at h;split at h
 ·obtain⟨hb,rfl⟩:=Ow h;simp only[jF] at hb;refine⟨_,_,_,rfl,rfl,rfl,fun c hc=>hc,fun c hc=> ?_⟩;obtain⟨cs',rfl,hl⟩:=hc;exact⟨cs',by rw[Eo hb.1],Tb hid hb.2 hl⟩
 ·obtain⟨hb,rfl⟩:=Ow h;simp only[jF] at hb;refine⟨_,_,_,rfl,rfl,rfl,fun c hc=>hc,fun c hc=> ?_⟩;have h1:=hb.1;rw[Av1] at h1;simp only[RO] at hc⊢
  rw[hc,of_decide_eq_true h1,Eo hb.2]
 ·obtain⟨hb,rfl⟩:=Ow h;simp only[jF] at hb;exact⟨_,_,_,rfl,rfl,rfl,fun c hc=>By8 hb.1 hc,fun c hc=>By8 hb.2 hc⟩
 ·obtain⟨hb,rfl⟩:=Ow h;exact⟨_,_,_,rfl,rfl,rfl,fun c hc=>hc,fun c hc=>By8 hb hc⟩
 ·obtain⟨hb,rfl⟩:=Ow h;exact⟨_,_,_,rfl,rfl,rfl,fun c hc=>By8 hb hc,fun c hc=>hc⟩
 ·obtain⟨hb,rfl⟩:=Ow h;refine⟨_,_,_,rfl,rfl,rfl,fun c hc=>hc,fun c hc=> ?_⟩;obtain⟨es',rfl,h2⟩:=hc;exact⟨es',rfl,(Ei0 hb).1.trans h2⟩
 ·cases h
theorem Dr6 {A:XH} {k:Nat} {o:DObj} (h:Aw A k=some o):A.tr.get k=some (some o):=by
 unfold Aw at h;split at h
 ·rename_i heq;cases h;exact heq
 ·cases h
theorem By9 {A:XH} {k:Nat} {o:DObj} (h:A.tr.get k=some (some o)):Aw A k=some o:=by
 unfold Aw;rw[h]
theorem Yv {π:List (Nat×Nat)} {nx:Nat} {A A':XH}: ∀(ks:List (Nat×Nat)) (t:Tr (Option DObj)) (κ:Tr (Option DObj)->Out),Vx π nx A A' ks t κ= .bad\/
  ∃t',Vx π nx A A' ks t κ=κ t'/\ ∀k o,t'.get k=some (some o)->t.get k=some (some o)\/ ∃j,Tf π k=some j/\Ah7 π nx (Aw A k) (Aw A' j)=some (some o)
 | [],t,κ=> .inr ⟨t,rfl,fun k o hk=> .inl hk⟩
 | x::ks,t,κ=>by
  have e0:Vx π nx A A' (x::ks) t κ=(match Tf π x.1 with
   | some j=>match Ah7 π nx (Aw A x.1) (Aw A' j) with
    | some (some o)=>Tr.setK Out.bad (some o) 24 t x.1 fun t=>Vx π nx A A' ks t κ
    | _=>Vx π nx A A' ks t κ
   | none=>Vx π nx A A' ks t κ):=rfl
  rw[e0]
  split
  ·rename_i j hj
   split
   ·rename_i o ho
    rcases Ou (z:=Out.bad) (x:=some o) 24 t x.1 (fun t=>Vx π nx A A' ks t κ) with e | ⟨t1,h1,e⟩
    ·exact .inl e
    ·rw[e]
     rcases Yv ks t1 κ with e | ⟨t',h2,h3⟩
     ·exact .inl e
     ·refine .inr ⟨t',h2,fun k o' hk=> ?_⟩
      rcases h3 k o' hk with h4 | h4
      ·rw[h1] at h4
       by_cases c:k=x.1
       ·rw[if_pos c] at h4
        cases h4
        rw[c]
        exact .inr ⟨j,hj,ho⟩
       ·rw[if_neg c] at h4;exact .inl h4
      ·exact .inr h4
   ·exact Yv ks t κ
  ·exact Yv ks t κ
theorem Ro {k j:Nat}: ∀ {π:List (Nat×Nat)},Tf π k=some j->(k,j)∈π
 | [],h=>by cases h
 | x::π,h=>by
  have h:Bool.rec (motive:=fun _=>Option Nat) (Tf π k) (some x.2) (Nat.beq x.1 k)=some j:=h;cases hb:Nat.beq x.1 k with
  | false=>rw[hb] at h;exact List.mem_cons_of_mem _ (Ro h)
  | true=>
   rw[hb] at h;cases h;have:=Eo hb;obtain⟨a,b⟩:=x;simp only at this;subst this;exact List.mem_cons_self
theorem Bo2: ∀ {π:List (Nat×Nat)},Bx5 π=true-> ∀ {k k' j:Nat},(k,j)∈π->(k',j)∈π->k=k'
 | [],_,_,_,_,h,_=>by cases h
 | x::π,hn,k,k',j,h,h'=>by
  simp only[Bx5,jF,List.all_eq_true,Bool.not_eq_true'] at hn;rcases List.mem_cons.1 h with e | e<;>rcases List.mem_cons.1 h' with e' | e'
  ·rw[<-e] at e';cases e';rfl
  ·have:=hn.1 _ e';rw[<-e] at this;simp only[Nat.beq_refl] at this;cases this
  ·have:=hn.1 _ e;rw[<-e'] at this;simp only[Nat.beq_refl] at this;cases this
  ·exact Bo2 hn.2 e e'
theorem Ew4 (hS:RS B ρ E A s) {o1 o2:Out} (h:Bx B ρ Q (Cj3 (Eg6 E A o1 o2))):Bx B ρ Q (Cj3 o1)/\Bx B ρ Q (Cj3 o2):=by
 cases o1<;>try (exact h.elim)
 cases o2<;>try (exact h.elim)
 rename_i E1 A1 E2 A2
 unfold Eg6 at h;simp only[Ai0,Pa] at h;generalize hmx:max A.nx (max A1.nx A2.nx)=mx at h;generalize (Ev0 A.nx A1 A2 _ _)=π at h;have hb:Ev1 π A.nx mx=true:=by
  cases hb:Ev1 π A.nx mx with
  | true=>rfl
  | false=>rw[hb] at h;exact h.elim
 rw[hb] at h;have h:Bx B ρ Q (Cj3 (Vx π A.nx A1 A2 π (Ah1 Bx4 (Ah7 π A.nx) A.tr A1.tr A2.tr) fun t=> .norm (Zg (fun v w=>Bool.rec (motive:=fun _=>Option DVal) none (some v) (eqP π A.nx v w)) E1 E2) ⟨t,mx⟩)):=h;rcases Yv (π:=π) (nx:=A.nx) (A:=A1) (A':=A2) π (Ah1 Bx4 (Ah7 π A.nx) A.tr A1.tr A2.tr) (fun t=>Out.norm (Zg (fun v w=>Bool.rec (motive:=fun _=>Option DVal) none (some v) (eqP π A.nx v w)) E1 E2) ⟨t,mx⟩) with e | ⟨t',e,ht⟩
 ·rw[e] at h;exact h.elim
 rw[e] at h;have h:Bx B ρ Q (.norm (Zg (fun v w=>Bool.rec (motive:=fun _=>Option DVal) none (some v) (eqP π A.nx v w)) E1 E2) ⟨t',mx⟩):=h;simp only[Ev1,jF,List.all_eq_true] at hb;obtain⟨hb1,hb2⟩:=hb;have hn0:A.nx<=mx:=by omega
 have hn1:A1.nx<=mx:=by omega
 have hn2:A2.nx<=mx:=by omega
 have henv: ∀i v,(Zg (fun v w=>Bool.rec (motive:=fun _=>Option DVal) none (some v) (eqP π A.nx v w)) E1 E2).get i=some v->E1.get i=some v/\ ∃w,E2.get i=some w/\eqP π A.nx v w=true:=fun i v hi=>by
  obtain⟨a,b,h1,h2,h3⟩:=Eg9 hi;obtain⟨hq,rfl⟩:=Ow h3;exact⟨h1,b,h2,hq⟩
 have hblk: ∀k o,Aw ⟨t',mx⟩ k=some o-> ∃j,((k<A.nx/\j=k)\/(A.nx<=k/\Tf π k=some j))/\Ah7 π A.nx (Aw A1 k) (Aw A2 j)=some (some o):=fun k o hk=>by
  rcases ht k o (Dr6 hk) with h1 | ⟨j,h1,h2⟩
  ·obtain⟨z,a,b,g1,g2,g3,g4,g5⟩:=Dq0 h1;cases z with
   | none=>cases g2
   | some z=>
    refine⟨k, .inl ⟨hS.heap.live (By9 g1),rfl⟩, ?_⟩;obtain⟨x,y,o',rfl,rfl,_⟩:=Be7 (ρ1:=ρ) (ρ2:=ρ) (ρ0:=fun k=>if k<A.nx then ρ k else(Tf π k).bind ρ) (by
     intro k k' r hid e;unfold At4 at hid;cases hlt:Nat.blt k A.nx with
     | true=>
      rw[hlt] at hid;have e1:=Eo hid;have:k<A.nx:=by simpa [Nat.blt_eq] using hlt
      simp only[this,if_true];rw[e1];exact e
     | false=>
      rw[hlt] at hid;have: ¬k<A.nx:=fun c=>by
       have h9:Nat.blt k A.nx=true:=by rw[Nat.blt_eq];exact c
       rw[h9] at hlt;cases hlt
      simp only[this,if_false];cases hp:Tf π k with
      | none=>rw[hp] at hid;cases hid
      | some j=>rw[hp] at hid;rw[Eo hid];exact e) g5
    rw[By9 g3,By9 g4];exact g5
  ·have:=hb1 _ (Ro h1);exact⟨j, .inr ⟨Nat.le_of_ble_eq_true this.1.1,h1⟩,h2⟩
 constructor
 ·intro ρ1 s1 hl hS1;refine h ρ1 s1 hl ⟨fun i v hi=>hS1.env i v (henv i v hi).1, ?_⟩;have hlive: ∀k o,Aw ⟨t',mx⟩ k=some o-> ∃x,Aw A1 k=some x/\ ∀c,RO ρ1 x c->RO ρ1 o c:=fun k o hk=>by
   obtain⟨j,_,hm⟩:=hblk k o hk;obtain⟨x,z,o',e1,_,e3,e4,_⟩:=Be7 (ρ1:=ρ1) (ρ2:=fun _=>none) (ρ0:=fun _=>none) (fun _ _ _ _ e=>by cases e) hm;cases e3;exact⟨x,e1,e4⟩
  exact⟨fun k o hk=>by
    obtain⟨x,h1,h2⟩:=hlive k o hk;obtain⟨r,o',g1,g2,g3⟩:=hS1.heap.obj k x h1;exact⟨r,o',g1,g2,h2 _ g3⟩,
   fun k k' r o o' hk hk' e e'=>by
    obtain⟨x,h1,_⟩:=hlive k o hk;obtain⟨x',h1',_⟩:=hlive k' o' hk';exact hS1.heap.inj k k' r x x' h1 h1' e e',
   fun k hk=>hS1.heap.nx k (Nat.le_trans hn1 hk),hS1.heap.base,hS1.heap.low⟩
 ·intro ρ2 s2 hl hS2;have hid: ∀k k' r,At4 π A.nx k k'=true->ρ2 k'=some r->(if k<A.nx then ρ2 k else(Tf π k).bind ρ2)=some r:=by
   intro k k' r hid e;unfold At4 at hid;cases hlt:Nat.blt k A.nx with
   | true=>
    rw[hlt] at hid;have e1:=Eo hid;have:k<A.nx:=by simpa [Nat.blt_eq] using hlt
    simp only[this,if_true];rw[e1];exact e
   | false=>
    rw[hlt] at hid;have: ¬k<A.nx:=fun c=>by
       have h9:Nat.blt k A.nx=true:=by rw[Nat.blt_eq];exact c
       rw[h9] at hlt;cases hlt
    simp only[this,if_false];cases hp:Tf π k with
    | none=>rw[hp] at hid;cases hid
    | some j=>rw[hp] at hid;rw[Eo hid];exact e
  have hle:Ble ρ (fun k=>if k<A.nx then ρ2 k else(Tf π k).bind ρ2):=fun k r e=>by
   have:k<A.nx:=by
    rcases Nat.lt_or_ge k A.nx with c | c
    ·exact c
    ·rw[hS.heap.nx k c] at e;cases e
   simp only[this,if_true];exact hl k r e
  refine h (fun k=>if k<A.nx then ρ2 k else(Tf π k).bind ρ2) s2 hle ⟨fun i v hi=> ?_, ?_⟩
  ·obtain⟨_,w,h2,h3⟩:=henv i v hi;exact Cx7 hid h3 (hS2.env i w h2)
  have hlive: ∀k o,Aw ⟨t',mx⟩ k=some o-> ∃j z,((k<A.nx/\j=k)\/(A.nx<=k/\Tf π k=some j))/\Aw A2 j=some z/\(if k<A.nx then ρ2 k else(Tf π k).bind ρ2)=ρ2 j/\ ∀c,RO ρ2 z c->RO (fun k=>if k<A.nx then ρ2 k else(Tf π k).bind ρ2) o c:=fun k o hk=>by
   obtain⟨j,hj,hm⟩:=hblk k o hk;obtain⟨x,z,o',e1,e2,e3,_,e5⟩:=Be7 (ρ1:=ρ2) (ρ2:=ρ2) (ρ0:=fun k=>if k<A.nx then ρ2 k else(Tf π k).bind ρ2) hid hm;cases e3;refine⟨j,z,hj,e2, ?_,e5⟩;rcases hj with⟨c,rfl⟩ | ⟨c,hp⟩
   ·simp only[c,if_true]
   ·have: ¬k<A.nx:=by omega
    simp only[this,if_false,hp,Option.bind_some]
  refine⟨fun k o hk=> ?_,fun k k' r o o' hk hk' e e'=> ?_,fun k hk=> ?_,hS2.heap.base,fun k r e=> ?_⟩
  ·obtain⟨j,z,_,h1,h2,h3⟩:=hlive k o hk;obtain⟨r,o',g1,g2,g3⟩:=hS2.heap.obj j z h1;exact⟨r,o',by rw[h2];exact g1,g2,h3 _ g3⟩
  ·obtain⟨j,z,c,h1,h2,_⟩:=hlive k o hk;obtain⟨j',z',c',h1',h2',_⟩:=hlive k' o' hk';have e:=h2.symm.trans e;have e':=h2'.symm.trans e';have hjj:=hS2.heap.inj j j' r z z' h1 h1' e e';subst hjj;rcases c with⟨c1,c2⟩ | ⟨c1,c2⟩<;>rcases c' with⟨d1,d2⟩ | ⟨d1,d2⟩
   ·rw[<-c2,<-d2]
   ·have:=(hb1 _ (Ro d2)).1.2;have:=Nat.le_of_ble_eq_true this;simp only at this;omega
   ·have:=(hb1 _ (Ro c2)).1.2;have:=Nat.le_of_ble_eq_true this;simp only at this;omega
   ·exact Bo2 hb2 (Ro c2) (Ro d2)
  ·have hk':mx<=k:=hk;have: ¬k<A.nx:=by omega
   simp only[this,if_false];cases hp:Tf π k with
   | none=>rfl
   | some j=>
    have:=(hb1 _ (Ro hp)).2;have:k<mx:=by simpa [Nat.blt_eq] using this
    omega
  ·have e:(if k<A.nx then ρ2 k else(Tf π k).bind ρ2)=some r:=e;split at e
   ·exact hS2.heap.low k r e
   ·cases hp:Tf π k with
    | none=>rw[hp] at e;cases e
    | some j=>rw[hp] at e;exact hS2.heap.low j r e
theorem Yd (hX:XOk X G) (hc:Am9 X.P G call) (all:List Oper): ∀(p:Plan) (E:Tr DVal) (A:XH) (s:DS) (ρ:Nat->Option Nat),RS B ρ E A s->Bx B ρ Q (Cj3 (Ah8 X.P X.gt call all p E A))->Lo X.P G all (QP Q) p s
 | .done,E,A,s,ρ,hS,h=>h ρ s (Ble.refl _) hS
 | .take i p,E,A,s,ρ,hS,h=>by
  simp only[Ah8] at h;simp only[Lo];exact Eh9 hX hc hS (Eh7 (W:=Lo X.P G all (QP Q) p) h fun ρ' E' A' s' _ hS' h'=>Yd hX hc all p E' A' s' ρ' hS' h')
 | .go i ls p,E,A,s,ρ,hS,h=>by
  simp only[Ah8] at h;simp only[Lo];refine Eh9 hX hc hS (Eh7 (W:=Da3 G all ls s (Lo X.P G all (QP Q) p)) h fun ρ' E' A' s' hl hS' h'=> ?_);cases hb:Bd2 X.gt all E A A' ls with
  | false=>rw[hb] at h';exact h'.elim
  | true=>
   rw[hb] at h';exact⟨Cl3 hX hS hS' hl all hb,Yd hX hc all p E' A' s' ρ' hS' h'⟩
 | .alt p q,E,A,s,ρ,hS,h=>by
  simp only[Ah8] at h;obtain⟨h1,h2⟩:=Ew4 hS h;exact⟨Yd hX hc all p E A s ρ hS h1,Yd hX hc all q E A s ρ hS h2⟩
def Be8 (body:Tr DVal->XH->Out):Nat->Tr DVal->XH->Out
 | 0,_,_=> .bad
 | n+1,E,A=>Xx (body E A) (Be8 body n)
theorem Be9 {body:Tr DVal->XH->Out}: ∀(k:Nat),(∀E A E' A',Bd5 body k E A= .more E' A'-> ∃m,∀j,Be8 body (m+j) E A=Be8 body j E' A')/\(∀E A o,Bd5 body k E A= .stop o-> ∃m,Be8 body m E A=o)
 | 0=>by
  constructor
  ·intro E A E' A' h;have h:Cj4 body E A= .more E' A':=h;refine⟨1,fun j=> ?_⟩;rw[Nat.add_comm];show Xx (body E A) (Be8 body j)=_;unfold Cj4 at h;split at h
   ·rename_i heq;cases h;rw[heq];rfl
   ·cases h
  ·intro E A o h;have h:Cj4 body E A= .stop o:=h;refine⟨1, ?_⟩;show Xx (body E A) (Be8 body 0)=_;unfold Cj4 at h;split at h
   ·cases h
   ·rename_i hne
    cases h;unfold Xx;split
    ·rename_i heq;exact(hne _ _ heq).elim
    ·rfl
 | k+1=>by
  obtain⟨h1,h2⟩:=Be9 (body:=body) k;constructor
  ·intro E A E' A' h;have h:Bd4 (Bd5 body k) E A= .more E' A':=h;unfold Bd4 at h;split at h
   ·rename_i E1 A1 heq
    obtain⟨m,hm⟩:=h1 _ _ _ _ heq;obtain⟨m',hm'⟩:=h1 _ _ _ _ h;exact⟨m+m',fun j=>by rw[Nat.add_assoc,hm,hm']⟩
   ·cases h
  ·intro E A o h;have h:Bd4 (Bd5 body k) E A= .stop o:=h;unfold Bd4 at h;split at h
   ·rename_i E1 A1 heq
    obtain⟨m,hm⟩:=h1 _ _ _ _ heq;obtain⟨m',hm'⟩:=h2 _ _ _ h;exact⟨m+m',by rw[hm,hm']⟩
   ·rename_i heq
    cases h;exact h2 _ _ _ heq
theorem Cl5 {ρ:Nat->Option Nat}: ∀ {args args':List DVal} (k:Nat) (E:Tr DVal) (κ:Tr DVal->COut),RVL ρ args args'->(∀i,k<=i->E.get i=none)->
  Ah9 args k E κ= .bad\/ ∃E',(∀i v,k<=i->E'.get i=some v->RV ρ v (Mo args' k i))/\(∀i,i<k->E'.get i=E.get i)/\Ah9 args k E κ=κ E'
 | [],_,k,E,κ,ha,hE=>by
  simp only[RVL] at ha;subst ha;exact .inr ⟨E,(fun i v hi hv=>by rw[hE i hi] at hv;cases hv),fun _ _=>rfl,rfl⟩
 | x::xs,_,k,E,κ,ha,hE=>by
  obtain⟨y,ys,rfl,h1,h2⟩:=ha.inv;have e0:Ah9 (x::xs) k E κ=Tr.setK .bad x 10 E k fun E=>Nu (k+1) fun k=>Ah9 xs k E κ:=rfl;rw[e0];rcases Ou (z:=COut.bad) (x:=x) 10 E k (fun E=>Nu (k+1) fun k=>Ah9 xs k E κ) with e | ⟨E1,hE1,e⟩
  ·exact .inl e
  ·rw[e,Pa];rcases Cl5 (k+1) E1 κ h2 (fun i hi=>by rw[hE1,if_neg (by omega)];exact hE i (by omega)) with e | ⟨E',g1,g2,g3⟩
   ·exact .inl e
   ·refine .inr ⟨E',fun i v hi hv=> ?_,fun i hi=> ?_,g3⟩
    ·by_cases hik:i=k
     ·subst hik;simp only[Mo,upd,if_true];rw[g2 i (by omega),hE1,if_pos rfl] at hv;cases hv;exact h1
     ·simp only[Mo,upd,hik,if_false];exact g1 i v (by omega) hv
    ·rw[g2 i (by omega),hE1,if_neg (by omega)]
theorem Ew5 (hS:RS B ρ E A s) {P:Program} {r:ResultVar} {v:DVal} (h:De1 P E A r=some v): ∃v',Ay1 P s r=some v'/\RV ρ v v':=by
 unfold De1 at h;split at h
 ·exact⟨_,rfl,hS.env _ _ h⟩
 ·rename_i x t
  split at h
  ·rename_i r off he
   have hx:=hS.env x _ he;simp only[RV] at hx;obtain⟨r',hx,hr⟩:=hx;unfold Bw2 at h;split at h
   ·rename_i cs e heq
    obtain⟨r2,cs',h1,h2,h3⟩:=Ov hS.heap heq;rw[hr] at h1;cases h1;rw[Am6] at h;simp only[Ay1,hx,Cq3,h2,Yk];unfold Xa at h⊢
    split at h
    ·split at h<;>cases h
     rename_i hle
     rw[if_pos (by rw[h3.length];exact hle)];exact⟨_,rfl, .agg ((h3.drop _).take _)⟩
    ·exact h3.get h
    ·cases h
   ·cases h
  ·cases h
theorem De5 (hS:RS B ρ E A s) {P:Program}: ∀ {rs:List ResultVar} {vs:List DVal},Ar3 P E A rs=some vs-> ∃vs',Lm P s rs=some vs'/\RVL ρ vs vs'
 | [],vs,h=>by simp only[Ar3] at h;cases h;exact⟨[],rfl, .nil⟩
 | r::rs,vs,h=>by
  simp only[Ar3] at h;cases h1:De1 P E A r with
  | none=>rw[h1] at h;cases h2:Ar3 P E A rs<;>rw[h2] at h<;>cases h
  | some v=>cases h2:Ar3 P E A rs with
   | none=>rw[h1,h2] at h;cases h
   | some ws=>
    rw[h1,h2] at h;simp only[Cc5] at h;cases h;obtain⟨v',k1,k2⟩:=Ew5 hS h1;obtain⟨ws',k3,k4⟩:=De5 hS h2;exact⟨v'::ws',by simp only[Lm,k1,k3,Cc5], .cons k2 k4⟩
theorem Ei1 {vs vs':List DVal} {v:DVal} (h:RVL ρ vs vs') (hv:Ih (some vs)=some v): ∃v',Ih (some vs')=some v'/\RV ρ v v':=by
 cases vs with
 | nil=>simp only[RVL] at h;subst h;cases hv;exact⟨_,rfl, .tuple .nil⟩
 | cons a vs=>
  obtain⟨a',ys,rfl,h1,h2⟩:=h.inv;cases vs with
  | nil=>simp only[RVL] at h2;subst h2;cases hv;exact⟨a',rfl,h1⟩
  | cons b vs=>
   obtain⟨b',ys,rfl,h3,h4⟩:=h2.inv;cases hv;exact⟨_,rfl, .tuple (.cons h1 (.cons h3 h4))⟩
theorem Cx8 {α:Type} {o:Option α} {f:α->COut} {R:DEnd->Ab->Prop} (h:Mg B ρ R (Wl .bad f o)): ∃v,o=some v/\Mg B ρ R (f v):=by
 cases o with
 | none=>exact h.elim
 | some v=>exact⟨v,rfl,h⟩
theorem Av5 (hS:RS B ρ E A s) {P:Program} {rs:List ResultVar} {R:DEnd->Ab->Prop} (h:Mg B ρ R (Dp9 P rs E A)):Ao1 R s.heap (Ih (Lm P s rs)):=by
 unfold Dp9 at h;obtain⟨v,hv,h⟩:=Cx8 h;rw[Bx8] at h;cases hl:Ar3 P E A rs with
 | none=>rw[hl] at hv;cases hv
 | some vs=>
  rw[hl] at hv;obtain⟨vs',h1,h2⟩:=De5 hS hl;obtain⟨v',h3,h4⟩:=Ei1 h2 hv;rw[h1,h3];exact Wj.refl (h ρ s.heap v' (Ble.refl _) hS.heap h4)
theorem Ew6 {P:Program} {rs:List ResultVar} {R:DEnd->Ab->Prop} {o:Out} (h:Mg B ρ R (Fr1 P rs o)):Bx B ρ (Da0 P rs R) o:=by
 cases o with
 | bad=>exact h
 | norm E A=>exact fun ρ' s' hl hS=>Av5 hS (Mg.le hl h)
 | exit id E A=>exact h.elim
 | ret E A=>exact fun ρ' s' hl hS=>Av5 hS (Mg.le hl h)
 | panic v E A=>exact fun ρ' s' v' hl hS hv=>Ex4.refl (h ρ' s'.heap v' hl hS.heap hv)
 | panicX v A=>exact fun ρ' s' v' hl hH hv=>Ex4.refl (h ρ' s'.heap v' hl hH hv)
theorem An0 {P:Program} {k:FuncId} {fn:Func} {c:Code} (hf:P.funcs[k]? =some fn) (hn:(fn.name== "runtime.NumGoroutine")=false) (hb:fn.body=some c) (vs:Array Value) (w:World):(callFunc k vs).run P w= .ok (.enter k vs) w:=by
 have hn': ¬fn.name= "runtime.NumGoroutine" :=fun e=>by rw[e] at hn;simp at hn
 simp [callFunc,go_sem,hf,hn',hb]
end
end Go.Dl

-- AN INTERPRETER OF THE DATA LEVEL, PART 8: calls, all code; a closed call.
namespace Go.Dl
open Go
theorem Cl6 {c:Code} {l:Late} (h:Bd6 c=some l): ∃id y1 y2 p1 p2 af1 af2,c= .seq l.A1 (.seq l.A2 (.seq (.region id #[Ch1 l.d l.g l.caps.toArray y1 p1 af1,Do4 l.d y2 p2 af2] false) l.C)):=by
 unfold Bd6 at h;split at h
 ·split at h<;>cases h
  rename_i hd
  subst hd;exact⟨_,_,_,_,_,_,_,rfl⟩
 ·cases h
theorem Cx9 {c cc:Code} {t1 t2:Nat} (h:Bn1 c=some (t1,t2,cc)): ∃id y3 y4 p3 p4 af3 af4,c= .seq (.region id #[Xi t1 y3 p3 af3,Af0 t1 t2 y4 p4 af4] false) cc:=by
 unfold Bn1 at h;split at h
 ·split at h<;>cases h
  rename_i hd
  subst hd;exact⟨_,_,_,_,_,_,_,rfl⟩
 ·cases h
section
variable {X:XP} {G:Nat->DVal}
variable {B:Ab} {ρ:Nat->Option Nat} {E:Tr DVal} {A:XH} {s:DS} {Q:DExit->DS->Prop}
theorem De6 {R:Type} {z:R} (hX:XOk X G) (hS:RS B ρ E A s): ∀(os:List Operand) (κ:List DVal->R),Ah2 X.gt z E os κ=z\/ ∃vs,RVL ρ vs (Fy G s.env os)/\Ah2 X.gt z E os κ=κ vs
 | [],κ=> .inr ⟨[],rfl,rfl⟩
 | o::os,κ=>by
  have e0:Ah2 X.gt z E (o::os) κ=evK X.gt z E o fun v=>Ah2 X.gt z E os fun vs=>κ (v::vs):=rfl;rw[e0];rcases Cw7 hX.gt hS o (fun v=>Ah2 X.gt z E os fun vs=>κ (v::vs)) with e | ⟨v,h1,e⟩
  ·exact .inl e
  ·rw[e];rcases De6 hX hS os (fun vs=>κ (v::vs)) with e | ⟨vs,h2,e⟩
   ·exact .inl e
   ·exact .inr ⟨v::vs, .cons h1 h2,e⟩
def Snd (X:XP) (G:Nat->DVal) (ih:FuncId->Code->Tr DVal->XH->Out):Prop:=
 ∀(f:FuncId) (c:Code) (N:Nat) (B:Ab) (ρ:Nat->Option Nat) (E:Tr DVal) (A:XH) (s:DS) (Q:DExit->DS->Prop),Gm X.plans f N c=true->RS B ρ E A s->Bx B ρ Q (ih f c E A)->dwp X.P G N c Q s
variable {ih:FuncId->Code->Tr DVal->XH->Out}
theorem Bz0 {args args':List DVal} {H:Ab} {κ:Tr DVal->COut} {R:DEnd->Ab->Prop} (ha:RVL ρ args args') (hH:RH B ρ A H) (h:Mg B ρ R (Ah9 args 0 .leaf κ)): ∃E,RS B ρ E A ⟨Mo args' 0,H⟩/\Mg B ρ R (κ E):=by
 rcases Cl5 0 .leaf κ ha (fun i _=>rfl) with e | ⟨E',g1,_,g3⟩
 ·rw[e] at h;exact h.elim
 ·rw[g3] at h;exact⟨E',⟨fun i v hi=>g1 i v (Nat.zero_le _) hi,hH⟩,h⟩
theorem Cy0 {d:Nat} {v v':DVal} {κ:Tr DVal->COut} {R:DEnd->Ab->Prop} (hS:RS B ρ E A s) (hv:RV ρ v v') (h:Mg B ρ R (Tr.setK .bad v 10 E d κ)): ∃E',RS B ρ E' A ⟨upd s.env d v',s.heap⟩/\Mg B ρ R (κ E'):=by
 rcases Ou (z:=COut.bad) (x:=v) 10 E d κ with e | ⟨t',h1,e⟩
 ·rw[e] at h;exact h.elim
 ·rw[e] at h;exact⟨t',hS.put h1 hv,h⟩
theorem Ac0 (hih:Snd X G ih) {rs:List ResultVar} {g:FuncId} {fg:Func} {c cc:Code} {t1 t2:Nat} {caps caps':List DVal} {x x':DVal} {R:DEnd->Ab->Prop}
  (hg:X.P.funcs[g]? =some fg) (hb:fg.body=some c) (hr:Bn1 c=some (t1,t2,cc)) (hp:Gm X.plans g fg.ntmps cc=true)
  (hS:RS B ρ E A s) (hc:RVL ρ caps caps') (hx:RV ρ x x') (h:Mg B ρ R (Yc X ih rs g caps x E A)):
  dwp X.P G fg.ntmps cc (Al4 fun H'=>Ao1 R H' (Ih (Lm X.P ⟨s.env,H'⟩ rs))) ⟨upd (upd (Mo caps' 0) t1 x') t2 x',s.heap⟩:=by
 unfold Yc at h;simp only[hg,hb,hr] at h;obtain⟨F,h1,h⟩:=Bz0 hc hS.heap h;obtain⟨F1,h2,h⟩:=Cy0 h1 hx h;obtain⟨F2,h3,h⟩:=Cy0 h2 hx h;refine hih g cc fg.ntmps B ρ F2 A _ _ hp h3 ?_;cases ho:ih g cc F2 A<;>rw[ho] at h<;>try (exact h.elim)
 ·exact fun ρ' s' hl hS'=>Av5 (s:=⟨s.env,s'.heap⟩) ⟨fun i v hi=>(hS.env i v hi).mono hl,hS'.heap⟩ (Mg.le hl h)
 ·exact fun ρ' s' hl hS'=>Av5 (s:=⟨s.env,s'.heap⟩) ⟨fun i v hi=>(hS.env i v hi).mono hl,hS'.heap⟩ (Mg.le hl h)
theorem Ei2 (hX:XOk X G) (hih:Snd X G ih) {k:FuncId} {args args':List DVal} {H:Ab} {R:DEnd->Ab->Prop} (hk:Cl2 X.P X.plans k args.length=true) (ha:RVL ρ args args') (hH:RH B ρ A H) (h:Mg B ρ R (Cx6 X ih k args A)):Ae X.P G k args' H R:=by
 unfold Cx6 at h;unfold Cl2 at hk;cases hf:X.P.funcs[k]? with
 | none=>rw[hf] at h;exact h.elim
 | some fn=>
  rw[hf] at h hk;simp only at h hk;simp only[jF,Bool.not_eq_true'] at hk;obtain⟨hname,hk⟩:=hk;cases hb:fn.body with
  | none=>rw[hb] at h;exact h.elim
  | some c=>
   rw[hb] at h hk;simp only at h hk;cases hl:Bd6 c with
   | none=>
    rw[hl] at h hk;simp only[jF] at h hk;obtain⟨E,h1,h⟩:=Bz0 ha hH h;exact Aa hf (fun vs w=>An0 hf hname hb vs w) hb (by rw[ha.length];exact hk.1) (hih k c fn.ntmps B ρ E A _ _ hk.2 h1 (Ew6 h))
   | some l=>
    rw[hl] at h hk;simp only at h hk;unfold De3 at hk;cases hg:X.P.funcs[l.g]? with
    | none=>rw[hg] at hk;cases hk
    | some fg=>
     rw[hg] at hk;simp only at hk;cases hbg:fg.body with
     | none=>rw[hbg] at hk;cases hk
     | some c2=>
      rw[hbg] at hk;simp only at hk;cases hr:Bn1 c2 with
      | none=>rw[hr] at hk;cases hk
      | some q=>
       obtain⟨t1,t2,cc⟩:=q;rw[hr] at hk;simp only[jF,Bool.not_eq_true'] at hk;obtain⟨⟨⟨⟨⟨g1,g2⟩,g3⟩,g4⟩,⟨⟨g5,g6⟩,g7⟩⟩,g8⟩:=hk;obtain⟨id,y1,y2,p1,p2,af1,af2,rfl⟩:=Cl6 hl;obtain⟨id2,y3,y4,p3,p4,af3,af4,rfl⟩:=Cx9 hr;have hres:fg.results= #[]:=by
        have:fg.results.toList= []:=List.isEmpty_iff.1 g2;exact Array.ext' (by rw[this])
       have hA:l.caps.toArray.toList=l.caps:=by simp
       refine Ch2 hf hg (fun vs w=>An0 hf hname hb vs w) (fun vs w=>An0 hg g1 hbg vs w) hb hbg ?_ ?_ hres ?_
       ·rw[hA,ha.length];simp only[jF];exact g8
       ·rw[hA];simp only[jF];exact g4
       ·rw[hA];unfold Ez1 at h;obtain⟨E0,h1,h⟩:=Bz0 ha hH h;refine hih k l.A1 fn.ntmps B ρ E0 A _ _ g5 h1 ?_;cases ho:ih k l.A1 E0 A<;>rw[ho] at h<;>simp only at h<;>try (exact h.elim)
        rename_i E1 A1
        intro ρ1 s1 hl1 hS1;have h:=Mg.le hl1 h;refine hih k l.A2 fn.ntmps B ρ1 E1 A1 _ _ g6 hS1 ?_;cases ho2:ih k l.A2 E1 A1<;>rw[ho2] at h<;>simp only at h<;>try (exact h.elim)
        rename_i E2 A2
        intro ρ2 s2 hl2 hS2;have h:=Mg.le hl2 h;rcases De6 (z:=COut.bad) hX hS2 l.caps (fun caps=>Tr.setK .bad (.func (.func l.g) [] caps) 10 E2 l.d fun E3=>Be6 X ih fn.results.toList l.g caps (ih k l.C E3 A2)) with e | ⟨caps,hcaps,e⟩
        ·rw[e] at h;exact h.elim
        rw[e] at h;obtain⟨E3,hS3,h⟩:=Cy0 hS2 (.func (.func l.g) .nil hcaps) h;refine hih k l.C fn.ntmps B ρ2 E3 A2 _ _ g7 hS3 ?_;cases ho3:ih k l.C E3 A2<;>rw[ho3] at h<;>simp only[Be6] at h<;>try (exact h.elim)
        ·exact fun ρ3 s3 hl3 hS4=>Ac0 hih hg hbg hr g3 hS4 (hcaps.mono hl3) (by simp only[RV]) (Mg.le hl3 h)
        ·exact fun ρ3 s3 hl3 hS4=>Ac0 hih hg hbg hr g3 hS4 (hcaps.mono hl3) (by simp only[RV]) (Mg.le hl3 h)
        ·exact fun ρ3 s3 v3 hl3 hS4 hv=>Ac0 hih hg hbg hr g3 hS4 (hcaps.mono hl3) hv (Mg.le hl3 h)
theorem Cl7 (hX:XOk X G) (hih:Snd X G ih):Am9 X.P G (Cl1 X ih):=by
 intro B ρ k args args' A H R ha hH h;unfold Cl1 at h;split at h
 ·rename_i v heq
  obtain⟨x,hx,rfl,hb,rfl⟩:=Ar5 heq;have:=Nw hb;subst this;have hp:=List.all_eq_true.1 hX.plain x hx;simp only[jF] at hp;have:args'=x.2.1:=ha.fn (Jy hp.1);subst this;refine(hX.memo x hx H).mono ?_;rintro _ _ ⟨rfl,rfl⟩;exact h ρ _ _ (Ble.refl _) hH (Uk hp.2)
 ·cases hg:By5 X.good k args.length with
  | false=>rw[hg] at h;exact h.elim
  | true=>
   rw[hg] at h;exact Ei2 hX hih (List.all_eq_true.1 hX.good _ (Ar6 hg)) ha hH h
theorem De7 (hX:XOk X G): ∀n,Snd X G (Bi1 X n)
 | 0=>fun f c N B ρ E A s Q _ _ h=>h.elim
 | n+1=>by
  have hih:=De7 hX n;have hcall:=Cl7 hX hih;intro f c N B ρ E A s Q hp hS h;have h:Bx B ρ Q (Eh6 X (Bi1 X n) f c E A):=h;cases c with
  | skip=>exact h ρ s (Ble.refl _) hS
  | label l=>exact h ρ s (Ble.refl _) hS
  | region id ops draw=>
   cases draw with
   | false=>exact De4 hX hcall _ _ E A s ρ hS h
   | true=>
    simp only[Eh6] at h;simp only[Gm] at hp;cases hpl:Cx4 X.plans f id with
    | none=>rw[hpl] at h;exact h.elim
    | some p=>
     rw[hpl] at h hp;have hp:(ops.toList.all (Jm N)&&Ao4 ops.toList [] p&&Ii ops.toList p [])=true:=hp;exact Da6 (N:=⟨N,⟨0,[],false⟩⟩) hX.mixed p hp (Yd hX hcall _ p E A s ρ hS h)
  | seq a b=>
   simp only[Gm,jF] at hp;exact hih f a N B ρ E A s _ hp.1 hS (By6 h fun ρ' E' A' s' _ hS' h'=>hih f b N B ρ' E' A' s' Q hp.2 hS' h')
  | cond c a b=>
   simp only[Gm,jF] at hp;obtain⟨v,h1,h⟩:=Ey hX.gt hS h;simp only[dwp];unfold Ez0 at h;split at h
   ·simp only[RV] at h1;rw[h1];exact hih f a N B ρ E A s Q hp.1 hS h
   ·simp only[RV] at h1;rw[h1];exact hih f b N B ρ E A s Q hp.2 hS h
   ·exact h.elim
  | block id c=>
   simp only[Gm] at hp;refine hih f c N B ρ E A s _ hp hS ?_;have h:Bx B ρ Q (Bx6 id (Bi1 X n f c E A)):=h;cases ho:Bi1 X n f c E A<;>rw[ho] at h<;>try (exact h)
   rename_i id' E' A'
   intro ρ' s' hl hS';show At7 Q s' id' (decide (id'=id));by_cases hid:id'=id
   ·have hb:Nat.beq id' id=true:=by rw[hid];exact Nat.beq_refl _
    simp only[Bx6,hb] at h;rw[decide_eq_true hid];exact h ρ' s' hl hS'
   ·have hb:Nat.beq id' id=false:=by
     cases hb:Nat.beq id' id with
     | false=>rfl
     | true=>exact(hid (Nat.eq_of_beq_eq_true hb)).elim
    simp only[Bx6,hb] at h;rw[decide_eq_false hid];exact h ρ' s' hl hS'
  | loop c=>
   simp only[Gm] at hp;have h:Bx B ρ Q (Ey9 (Bd5 (fun E H=>Bi1 X n f c E H) 20 E A)):=h;cases ho:Bd5 (fun E H=>Bi1 X n f c E H) 20 E A with
   | more E' A'=>rw[ho] at h;exact h.elim
   | stop o=>
    rw[ho] at h;obtain⟨m,hm⟩:=(Be9 20).2 _ _ _ ho;refine⟨Nat,fun i s=> ∃ρ' E A,RS B ρ' E A s/\Bx B ρ' Q (Be8 (fun E H=>Bi1 X n f c E H) i E A),id,⟨m,s,Ws.refl s,ρ,E,A,hS,by rw[hm];exact h⟩, ?_⟩;rintro i s1 ⟨ρ1,E1,A1,hS1,h1⟩;cases i with
    | zero=>exact h1.elim
    | succ i=>
     exact hih f c N B ρ1 E1 A1 s1 _ hp hS1 (By6 h1 fun ρ' E' A' s' _ hS' h'=>⟨i,s',Ws.refl s',⟨ρ',E',A',hS',h'⟩,Nat.lt_succ_self i⟩)
  | exit id=>exact h ρ s (Ble.refl _) hS
  | ret=>exact h ρ s (Ble.refl _) hS
  | scope c=>
   simp only[Gm] at hp;refine hih f c N B ρ E A s _ hp hS ?_;have h:Bx B ρ Q (Bi1 X n f c E A):=h;cases ho:Bi1 X n f c E A<;>rw[ho] at h<;>exact h
  | rangeFunc=>exact h.elim
  | goto=>exact h.elim
  | refuse=>exact h.elim
def Ai5 (f:DVal->Option DVal):List DVal->Option (List DVal)
 | []=>some []
 | v::vs=>match f v,Ai5 f vs with
  | some d,some ds=>some (d::ds)
  | _,_=>none
noncomputable def frz:Nat->XH->DVal->Option DVal
 | 0,_,_=>none
 | n+1,A,v=>match v with
  | .oslice sz k off len _=>match Aw A k with
   | some (.cells cs _)=>if off+len*sz<=cs.length then(Ai5 (frz n A) ((cs.drop off).take (len*sz))).map (fun cs=> .vslice cs len) else none
   | _=>none
  | .optr k off=>match Aw A k with
   | some (.cells cs _)=>(Ai5 (frz n A) cs).map (fun cs=> .vptr cs off)
   | _=>none
  | .omap _=>none
  | .vptr cs off=>(Ai5 (frz n A) cs).map (fun cs=> .vptr cs off)
  | .vslice cs len=>(Ai5 (frz n A) cs).map (fun cs=> .vslice cs len)
  | .agg cs=>(Ai5 (frz n A) cs).map .agg
  | .tuple cs=>(Ai5 (frz n A) cs).map .tuple
  | .iface t v=>(frz n A v).map (.iface t)
  | .func f a c=>match Ai5 (frz n A) a,Ai5 (frz n A) c with
   | some a,some c=>some (.func f a c)
   | _,_=>none
  | v=>some v
theorem Qn {w:World} {H H':Ab} {f:DVal->Option DVal} (hf: ∀v d u x,f v=some d->RV ρ v u->Rel w H u x->Rel w H' d x): ∀ {vs ds us:List DVal} {xs:List Value},Ai5 f vs=some ds->RVL ρ vs us->Be w H us xs->Be w H' ds xs
 | [],ds,us,xs,h,hr,hx=>by
  simp only[RVL] at hr;subst hr;simp only[Ai5] at h;cases h;simpa only[Be] using hx
 | v::vs,ds,us,xs,h,hr,hx=>by
  obtain⟨u,us',rfl,h1,h2⟩:=hr.inv;simp only[Ai5] at h;split at h<;>cases h
  rename_i d ds' hd hds
  simp only[Be] at hx⊢
  obtain⟨y,ys,rfl,h3,h4⟩:=hx;exact⟨y,ys,rfl,hf v d u y hd h1 h3,Qn hf hds h2 h4⟩
theorem Fk5 {w:World} {H:Ab} (hw:Br w H) (hA:RH B ρ A H): ∀(n:Nat) (v d u:DVal) (x:Value),frz n A v=some d->RV ρ v u->Rel w H u x->Rel w B d x:=by
 have hlast:Lasts H w B w:=Di hA.base w;intro n
 induction n with
 | zero=>intro v d u x h;cases h
 | succ n ih=>
  intro v d u x h hr hx;simp only[frz] at h;split at h
  ·rename_i sz k off len lo
   simp only[RV] at hr;obtain⟨r,rfl,hk⟩:=hr;split at h
   ·rename_i cs e heq
    split at h<;>try (cases h;done)
    rename_i hle
    obtain⟨ds,hds,rfl⟩:=Option.map_eq_some_iff.1 h;obtain⟨r',o',h1,h2,cs',rfl,h3⟩:=hA.obj _ _ heq;rw[hk] at h1;cases h1;simp only[Rel] at hx⊢
    obtain⟨o,cap,rfl,hlo,hlc,ho,_⟩:=hx;refine⟨_,cap,rfl,hlc, ?_⟩;obtain⟨xs,hxs,hholds⟩:=hw.holds h2;rcases ho with hc | ho
    ·have:len=0:=by omega
     subst this;simp only[Nat.zero_mul,jR,Ai5] at hds;cases hds;exact .inl rfl
    ·subst ho;refine .inr ⟨r,o,(xs.drop o).take (len*sz),rfl, ?_,Qn ih hds ((h3.drop _).take _) ((hxs.drop _).take _)⟩;refine .inr ⟨hA.low _ _ hk,fun i y hy=> ?_⟩;have:=(hholds.drop (n:=o)).take (n:=len*sz) i y hy;simpa using this
   ·cases h
  ·rename_i k off
   simp only[RV] at hr;obtain⟨r,rfl,hk⟩:=hr;split at h
   ·rename_i cs e heq
    obtain⟨ds,hds,rfl⟩:=Option.map_eq_some_iff.1 h;obtain⟨r',o',h1,h2,cs',rfl,h3⟩:=hA.obj _ _ heq;rw[hk] at h1;cases h1;simp only[Rel] at hx⊢
    subst hx;obtain⟨xs,hxs,hholds⟩:=hw.holds h2;refine⟨r,0,xs,by simp, .inr ⟨hA.low _ _ hk,fun i y hy=> ?_⟩,Qn ih hds h3 hxs⟩;exact hholds i y hy
   ·cases h
  ·cases h
  ·obtain⟨ds,hds,rfl⟩:=Option.map_eq_some_iff.1 h;simp only[RV] at hr;obtain⟨cs',rfl,hl⟩:=hr;simp only[Rel] at hx⊢
   obtain⟨b,o,xs,rfl,hc,hxs⟩:=hx;exact⟨b,o,xs,rfl,hc.lasts hlast,Qn ih hds hl hxs⟩
  ·rename_i cs len
   obtain⟨ds,hds,rfl⟩:=Option.map_eq_some_iff.1 h;simp only[RV] at hr;obtain⟨cs',rfl,hl⟩:=hr;simp only[Rel] at hx⊢
   obtain⟨a,cap,rfl,hle,hc⟩:=hx;refine⟨a,cap,rfl,hle, ?_⟩;rcases hc with hc | ⟨b,o,xs,rfl,hc,hxs⟩
   ·subst hc;have hlen:=hl.length;left;cases cs with
    | nil=>simp only[Ai5] at hds;cases hds;rfl
    | cons _ _=>simp at hlen
   ·exact .inr ⟨b,o,xs,rfl,hc.lasts hlast,Qn ih hds hl hxs⟩
  ·obtain⟨ds,hds,rfl⟩:=Option.map_eq_some_iff.1 h;simp only[RV] at hr;obtain⟨cs',rfl,hl⟩:=hr;simp only[Rel] at hx⊢
   obtain⟨xs,rfl,hxs⟩:=hx;exact⟨xs,rfl,Qn ih hds hl hxs⟩
  ·obtain⟨ds,hds,rfl⟩:=Option.map_eq_some_iff.1 h;simp only[RV] at hr;obtain⟨cs',rfl,hl⟩:=hr;simp only[Rel] at hx⊢
   obtain⟨xs,rfl,hxs⟩:=hx;exact⟨xs,rfl,Qn ih hds hl hxs⟩
  ·obtain⟨d',hd,rfl⟩:=Option.map_eq_some_iff.1 h;simp only[RV] at hr;obtain⟨v',rfl,hv⟩:=hr;simp only[Rel] at hx⊢
   obtain⟨y,rfl,hy⟩:=hx;exact⟨y,rfl,ih _ _ _ _ hd hv hy⟩
  ·split at h<;>cases h
   rename_i a c ha hc
   simp only[RV] at hr;obtain⟨a',c',rfl,h1,h2⟩:=hr;simp only[Rel] at hx⊢
   obtain⟨xs,ys,rfl,h3,h4⟩:=hx;exact⟨xs,ys,rfl,Qn ih ha h1 h3,Qn ih hc h2 h4⟩
  ·cases h
   rename_i a1 a2 a3 a4 a5 a6 a7 a8 a9
   cases v<;>simp only[RV] at hr;all_goals first
    | (subst hr;exact Rel.lasts hlast _ _ hx)
    | exact(a1 _ _ _ _ _ rfl).elim
    | exact(a2 _ _ rfl).elim
    | exact(a3 _ rfl).elim
    | exact(a4 _ _ rfl).elim
    | exact(a5 _ _ rfl).elim
    | exact(a6 _ rfl).elim
    | exact(a7 _ rfl).elim
    | exact(a8 _ _ rfl).elim
    | exact(a9 _ _ _ rfl).elim
noncomputable def Ei3 (X:XP) (n:Nat) (k:FuncId) (args:List DVal):COut:=Cl1 X (Bi1 X n) k args ⟨.leaf,0⟩
theorem Ei4 (hX:XOk X G) {n m:Nat} {k:FuncId} {args:List DVal} {v d:DVal} (hp:Ka args=true) (h:Ei3 X n k args= .cret v A) (hf:frz m A v=some d) (H:Ab):Ae X.P G k args H (Ba d H):=by
 have hH:RH H (fun _=>none) ⟨.leaf,0⟩ H:=by
  refine⟨fun k o hk=> ?_,fun k k' r o o' hk=> ?_,fun _ _=>rfl,fun _ _ h=>h,fun k r h=>by cases h⟩
  ·unfold Aw at hk;rw[Cj6] at hk;cases hk
  ·unfold Aw at hk;rw[Cj6] at hk;cases hk
 have key:Ae X.P G k args H (fun e H'=> ∃ρ v',e= .ret v'/\RV ρ v v'/\RH H ρ A H'):=by
  refine Cl7 hX (De7 hX n) H _ k args args ⟨.leaf,0⟩ H _ (Jy hp) hH ?_;show Mg H _ _ (Ei3 X n k args);rw[h];exact fun ρ' H' v' _ hH' hv=>⟨ρ',v',rfl,hv,hH'⟩
 refine key.ghost ?_;rintro e H' ⟨ρ,v',rfl,hv,hH'⟩;refine⟨v',d,H,rfl,fun w hw=> ?_,rfl,rfl⟩;have hg:=Ok.sub hH'.base v' w hw;exact⟨hg.1,hg.2.1,fun x hx=>Fk5 hw hH' m v d v' x hf hv hx⟩
noncomputable def Ei5 (X:XP) (n:Nat) (k:FuncId) (args:List DVal) (d:DVal):Bool:=
 match Ei3 X n k args with
 | .cret v A=>match frz 40 A v with
  | some d'=>Cw3 d' d
  | none=>false
 | _=>false
theorem Ei6 (hX:XOk X G) {n:Nat} {k:FuncId} {args:List DVal} {d:DVal} (hp:Ka args=true) (h:Ei5 X n k args d=true) (H:Ab):Ae X.P G k args H (Ba d H):=by
 unfold Ei5 at h;split at h
 ·rename_i v A hv
  split at h
  ·rename_i d' hd
   obtain rfl:=Av3 h;exact Ei4 hX hp hv hd H
  ·cases h
 ·cases h
def XP.more (X:XP) (l:List (FuncId×List DVal×DVal)):XP:= { X with memo:=l++X.memo }
noncomputable def Ev (X:XP) (n:Nat) (l:List (FuncId×List DVal×DVal)):Bool:=l.all fun x=>Ka x.2.1&&Jt x.2.2&&Ei5 X n x.1 x.2.1 x.2.2
theorem XOk.more (hX:XOk X G) {n:Nat} {l:List (FuncId×List DVal×DVal)} (h:Ev X n l=true):XOk (X.more l) G:=by
 unfold Ev at h;rw[List.all_eq_true] at h;refine⟨hX.mixed,hX.gt,hX.good, ?_, ?_⟩
 ·show(l++X.memo).all _=true;rw[List.all_append,hX.plain,Bool.and_true,List.all_eq_true];intro x hx;have:=h x hx;rw[jF] at this;exact this.1
 ·intro x hx H;have hx:x∈l++X.memo:=hx;rcases List.mem_append.1 hx with hx | hx
  ·have:=h x hx;simp only[jF] at this;exact Ei6 hX this.1.1 this.2 H
  ·exact hX.memo x hx H
theorem XOk.at (hX:XOk X G) {k:FuncId} {args:List DVal} {d:DVal} (h:(k,args,d)∈X.memo) (H:Ab):Ae X.P G k args H (Ba d H):=hX.memo _ h H
end
end Go.Dl

-- What the interpreter knows of this seat. MADE BY PROGRAM (gen_x.py).
namespace Go.Dl
open Go Go.Proofs
set_option maxRecDepth 100000
def Cy1:List (FuncId×Nat×Plan):= [
(3,17,(.take 0 (.take 1 (.go 2 [1] (.take 3 (.go 4 [1] (.go 5 [] (.take 6 (.go 7 [] .done))))))))),
(3,18,(.take 0 (.take 1 (.go 2 [1] (.go 3 [1] (.go 4 [1] (.alt (.go 6 [1] (.go 5 [1] (.take 7 (.go 8 [1] (.go 9 [] (.take 10 (.go 11 [] .done))))))) (.go 5 [1] (.go 6 [1] (.take 7 (.go 8 [1] (.go 9 [] (.take 10 (.go 11 [] .done)))))))))))))),
(5,22,(.take 0 (.take 1 (.take 2 (.take 3 (.take 4 (.take 5 (.take 6 (.take 7 (.take 8 (.take 9 (.take 10 (.take 11 (.take 12 (.take 13 (.take 14 (.take 15 (.take 16 (.take 17 (.take 18 (.take 19 (.take 20 (.take 21 (.take 22 (.take 23 (.take 24 (.take 25 (.take 26 (.take 27 (.take 28 (.take 29 .done))))))))))))))))))))))))))))))),
(5,27,pL18),
(14,4,(.take 0 (.take 2 (.go 1 [2] (.go 3 [] (.take 4 .done)))))),
(20,5,(.take 0 (.take 1 (.take 2 (.go 3 [0] (.go 4 [] (.go 5 [] (.take 6 (.take 7 (.take 9 (.go 8 [9] (.go 10 [] (.go 11 [] (.take 12 (.take 13 (.take 14 (.go 15 [] (.take 16 (.take 17 (.go 18 [] (.go 19 [] (.go 20 [] (.go 21 [] (.take 22 (.go 23 [] (.take 24 (.take 25 .done))))))))))))))))))))))))))),
(20,6,(.take 0 (.go 1 [] (.take 2 (.take 3 (.go 4 [] (.take 5 (.take 6 (.take 8 (.go 7 [8] (.go 9 [] (.take 10 (.go 11 [] (.take 12 (.take 13 (.take 14 (.take 15 (.go 16 [] (.go 17 [] (.take 18 (.take 19 (.go 20 [] (.take 21 (.take 22 (.go 23 [] (.take 24 (.take 25 (.go 26 [] (.take 27 (.take 28 .done)))))))))))))))))))))))))))))),
(20,7,(.take 0 (.take 1 (.alt (.go 4 [1,0] (.go 2 [0] (.go 3 [] (.go 5 [] .done)))) (.go 2 [0] (.alt (.go 4 [1,0] (.go 3 [] (.go 5 [] .done))) (.go 3 [] (.go 4 [1,0] (.go 5 [] .done))))))))),
(21,4,(.take 0 (.take 1 (.take 2 (.take 3 (.take 4 (.take 5 (.take 6 (.take 7 (.go 8 [7] (.go 9 [7] (.go 10 [7] (.take 11 (.go 12 [] (.take 13 (.take 14 .done)))))))))))))))),
(21,6,(.take 0 (.take 1 (.take 2 (.take 3 (.take 4 (.take 5 (.take 6 (.take 7 (.take 8 (.take 9 (.take 10 (.go 11 [10] (.go 12 [10] (.go 13 [10] (.take 14 (.go 15 [] (.take 16 (.take 17 .done))))))))))))))))))),
(23,10,pL7),
(23,12,pL38),
(23,14,pL48),
(23,16,pL15),
(23,18,pL48),
(29,10,pL1),
(47,6,(.take 0 (.take 1 (.take 2 (.take 3 (.take 4 (.take 5 (.take 6 (.take 7 (.take 8 (.take 9 (.go 10 [] (.take 11 (.take 12 (.take 13 (.take 14 (.take 15 (.take 16 (.take 17 (.take 18 (.take 19 (.take 20 (.take 21 (.take 22 (.take 23 (.take 24 (.take 25 (.take 26 (.take 27 (.take 28 (.take 29 (.take 30 (.take 31 (.take 32 (.take 33 (.take 34 (.take 35 (.go 36 [] (.take 37 (.take 38 (.take 39 (.take 40 (.take 41 (.take 42 (.take 43 (.take 44 (.take 45 (.take 46 (.take 47 (.take 48 (.take 49 (.go 50 [] (.take 51 (.take 52 .done)))))))))))))))))))))))))))))))))))))))))))))))))))))),
(48,6,pL11),
(49,6,(.take 0 (.take 1 (.take 2 (.take 3 (.take 4 (.take 5 (.take 6 (.take 7 (.take 8 (.take 9 (.go 10 [] (.take 11 (.take 12 (.take 13 (.take 14 (.take 15 (.take 16 (.take 17 (.take 18 (.take 19 (.take 20 (.take 21 (.take 22 (.go 23 [] (.take 24 (.take 25 (.take 26 (.take 27 (.take 28 (.take 29 (.take 30 (.take 31 (.take 32 (.take 33 (.take 34 (.take 35 (.take 36 (.go 37 [] (.take 38 (.take 39 .done))))))))))))))))))))))))))))))))))))))))),
(50,6,(.take 0 (.take 1 (.take 2 (.take 3 (.take 4 (.take 5 (.take 6 (.take 7 (.take 8 (.take 9 (.take 10 (.take 11 (.go 12 [] (.take 13 (.take 14 (.take 15 (.take 16 (.take 17 (.take 18 (.take 19 (.take 20 (.take 21 (.take 22 (.take 23 (.take 24 (.take 25 (.take 26 (.go 27 [] (.take 28 (.take 29 .done))))))))))))))))))))))))))))))),
(55,9,pL14),
(60,6,pL37),
(82,3,pL42),
(82,9,(.take 0 (.take 1 (.go 2 [0] (.go 3 [] (.take 4 .done)))))),
(87,14,(.take 0 (.take 1 (.take 2 (.take 6 (.go 3 [1] (.go 4 [1] (.go 5 [] (.go 7 [] (.take 8 (.go 9 [] .done))))))))))),
(88,4,pL39),
(90,2,pL32),
(104,6,pL12),
(112,6,pL39),
(114,7,pL8),
(116,1,pL43),
(117,3,pL7),
(117,5,pL38),
(119,5,pL0),
(120,0,pL40),
(126,1,pL16),
(135,6,pL37),
(139,6,pL41),
(142,3,(.take 1 (.take 3 (.take 5 (.take 7 (.go 0 [] (.alt (.go 4 [] (.alt (.go 6 [] (.alt (.go 8 [] (.go 2 [] (.take 9 (.take 10 .done)))) (.go 2 [] (.go 8 [] (.take 9 (.take 10 .done)))))) (.alt (.go 8 [] (.alt (.go 6 [] (.go 2 [] (.take 9 (.take 10 .done)))) (.go 2 [] (.go 6 [] (.take 9 (.take 10 .done)))))) (.go 2 [] (.alt (.go 8 [] (.go 6 [] (.take 9 (.take 10 .done)))) (.go 6 [] (.go 8 [] (.take 9 (.take 10 .done))))))))) (.alt (.go 6 [] (.alt (.go 4 [] (.alt (.go 8 [] (.go 2 [] (.take 9 (.take 10 .done)))) (.go 2 [] (.go 8 [] (.take 9 (.take 10 .done)))))) (.alt (.go 8 [] (.alt (.go 4 [] (.go 2 [] (.take 9 (.take 10 .done)))) (.go 2 [] (.go 4 [] (.take 9 (.take 10 .done)))))) (.go 2 [] (.alt (.go 8 [] (.go 4 [] (.take 9 (.take 10 .done)))) (.go 4 [] (.go 8 [] (.take 9 (.take 10 .done))))))))) (.alt (.go 8 [] (.alt (.go 4 [] (.alt (.go 6 [] (.go 2 [] (.take 9 (.take 10 .done)))) (.go 2 [] (.go 6 [] (.take 9 (.take 10 .done)))))) (.alt (.go 6 [] (.alt (.go 4 [] (.go 2 [] (.take 9 (.take 10 .done)))) (.go 2 [] (.go 4 [] (.take 9 (.take 10 .done)))))) (.go 2 [] (.alt (.go 6 [] (.go 4 [] (.take 9 (.take 10 .done)))) (.go 4 [] (.go 6 [] (.take 9 (.take 10 .done))))))))) (.go 2 [] (.alt (.go 6 [] (.alt (.go 8 [] (.go 4 [] (.take 9 (.take 10 .done)))) (.go 4 [] (.go 8 [] (.take 9 (.take 10 .done)))))) (.alt (.go 8 [] (.alt (.go 6 [] (.go 4 [] (.take 9 (.take 10 .done)))) (.go 4 [] (.go 6 [] (.take 9 (.take 10 .done)))))) (.go 4 [] (.alt (.go 8 [] (.go 6 [] (.take 9 (.take 10 .done)))) (.go 6 [] (.go 8 [] (.take 9 (.take 10 .done)))))))))))))))))),
(145,3,pL66),
(148,1,pL55),
(151,6,pL39),
(152,3,pL63),
(153,6,pL39),
(156,2,pL31),
(157,3,pL63),
(159,6,pL41),
(165,6,pL41),
(171,6,pL37),
(172,6,pL11),
(173,3,pL58),
(173,5,pL54),
(174,5,pL51),
(175,13,pL3),
(176,7,pL24),
(177,5,pL2),
(178,7,pL20),
(179,7,pL60),
(179,9,pL57),
(179,11,pL44),
(179,13,pL45),
(179,15,pL44),
(199,3,(.take 0 (.take 1 (.take 2 (.take 3 (.take 5 (.take 6 (.take 7 (.take 8 (.take 9 (.take 11 (.go 4 [8] (.take 10 (.take 12 .done)))))))))))))),
(202,1,(.take 0 (.take 1 (.take 2 (.take 3 (.take 5 (.take 6 (.take 7 (.take 8 (.take 9 (.go 4 [8] (.go 10 [] (.take 11 .done))))))))))))),
(204,6,pL61),
(205,7,pL50),
(210,4,pL42),
(211,1,pL36),
(211,2,pL50),
(213,8,pL62),
(227,5,pL47),
(228,1,pL63),
(230,3,pL34),
(244,2,pL22),
(255,3,pL34),
(256,1,pL31),
(256,2,(.take 0 (.take 1 (.take 2 (.take 3 (.take 4 (.take 5 (.take 6 (.take 7 (.take 8 (.take 9 (.go 10 [] .done)))))))))))),
(258,4,pL19),
(261,3,pL34),
(263,3,(.take 0 (.take 1 (.go 2 [0] (.go 3 [] (.go 4 [] .done)))))),
(264,3,pL34),
(265,4,pL19),
(267,3,(.take 0 (.take 1 (.go 2 [0] (.go 3 [] (.go 4 [] .done)))))),
(269,3,(.take 0 (.take 1 (.take 2 (.take 3 (.take 4 (.take 5 (.take 6 (.take 7 (.take 8 (.take 9 (.alt (.go 15 [8,7,3] (.go 10 [] (.take 11 (.take 12 (.take 13 (.take 14 (.go 16 [] (.take 17 (.take 18 .done))))))))) (.go 10 [] (.take 11 (.take 12 (.take 13 (.take 14 (.go 15 [8,7,3] (.go 16 [] (.take 17 (.take 18 .done))))))))))))))))))))),
(272,1,pL31),
(272,2,pL36),
(275,3,pL34),
(276,4,pL33),
(279,5,pL33),
(280,3,pL34),
(284,1,pL18),
(286,1,pL5),
(288,6,pL56),
(289,6,pL25),
(290,9,pL21),
(290,13,pL21),
(290,15,pL35),
(290,18,pL23),
(290,19,pL27),
(290,21,pL49),
(290,23,pL9),
(290,25,pL46),
(290,27,pL26),
(290,31,pL13),
(290,33,pL29),
(294,1,pL59),
(297,3,pL67),
(299,5,pL28),
(309,0,(.take 0 (.take 1 (.take 2 (.take 3 (.take 6 (.take 9 (.take 10 (.take 11 (.take 12 (.take 13 (.go 4 [12] (.take 5 (.take 7 (.go 8 [12] (.take 14 (.take 15 .done))))))))))))))))),
(313,6,(.take 0 (.take 1 (.take 2 (.take 3 (.take 4 (.take 5 (.take 6 (.take 7 (.take 8 (.take 9 (.take 10 (.take 11 (.take 12 (.take 13 .done))))))))))))))),
(316,6,pL62),
(317,2,(.take 0 (.take 1 (.take 2 (.take 3 (.take 4 (.take 5 (.take 6 (.take 7 (.take 8 (.take 9 (.take 10 (.take 11 (.take 12 (.take 13 (.alt (.go 15 [11,7] (.go 14 [] (.go 16 [] (.take 17 .done)))) (.go 14 [] (.go 15 [11,7] (.go 16 [] (.take 17 .done)))))))))))))))))))),
(324,6,pL8),
(329,4,pL17),
(330,5,pL6),
(330,8,pL17),
(331,4,pL30),
(333,5,(.take 0 (.take 1 (.take 2 (.take 3 (.take 4 (.take 5 (.take 6 (.take 7 (.take 8 (.take 9 (.take 10 (.take 11 (.go 12 [] (.take 13 (.take 14 .done)))))))))))))))),
(341,6,pL30),
(347,1,(.take 0 (.take 1 (.take 2 (.take 3 (.take 4 (.take 5 (.take 6 (.take 7 (.take 8 (.take 9 (.alt (.go 15 [9,8,4] (.go 10 [] (.take 11 (.take 12 (.take 13 (.take 14 (.go 16 [] (.take 17 (.take 18 .done))))))))) (.go 10 [] (.take 11 (.take 12 (.take 13 (.take 14 (.go 15 [9,8,4] (.go 16 [] (.take 17 (.take 18 .done))))))))))))))))))))),
(349,20,pL64),
(349,23,pL64),
(352,3,(.take 0 (.take 1 (.take 2 (.take 3 (.take 4 (.take 5 (.take 6 (.take 7 (.take 8 (.go 9 [] (.take 10 (.take 11 (.take 12 (.take 13 (.take 14 (.take 15 (.take 16 .done)))))))))))))))))),
(358,2,pL53),
(359,3,pL4),
(360,2,pL65),
(370,5,pL68),
(372,4,pL52),
(379,1,(.take 0 (.take 1 (.take 2 (.take 3 (.take 4 (.take 5 (.take 6 (.take 7 (.take 8 (.take 9 (.go 10 [] (.take 11 (.take 12 (.take 13 (.take 14 (.take 15 (.take 16 (.take 17 .done))))))))))))))))))),
(385,4,pL42),
(386,12,pL42),
(387,6,pL42),
(389,4,(.take 0 (.take 1 (.take 2 (.take 3 (.take 4 (.take 5 (.take 6 (.take 7 (.take 8 (.take 9 (.take 10 (.take 11 (.take 12 (.take 13 (.go 14 [] .done)))))))))))))))),
(390,8,pL19),
(390,10,pL19),
(390,14,(.take 0 (.take 1 (.take 4 (.go 2 [0] (.go 3 [] (.take 5 (.go 6 [] .done)))))))),
(390,15,pL19),
(391,4,(.take 0 (.take 1 (.take 2 (.take 3 (.take 4 (.take 5 (.take 6 .done)))))))),
(391,7,(.take 0 (.take 1 (.take 2 (.take 3 (.take 4 (.take 5 (.take 6 (.take 7 .done))))))))),
(392,12,pL10),
(404,4,pL41),
(409,4,(.take 0 (.take 1 (.take 2 (.take 3 (.take 4 (.take 5 (.go 6 [4] (.take 7 (.take 8 (.take 9 (.take 10 (.go 11 [] .done))))))))))))),
(409,5,pL61),
(412,1,pL5),
(414,1,pL31),
(414,2,pL36),
(415,1,pL12),
(418,5,pL33),
(428,2,(.take 0 (.take 1 (.take 2 (.take 3 (.take 4 (.take 5 (.take 6 (.take 7 (.take 8 (.take 9 (.take 10 (.take 11 (.alt (.go 14 [10,7,3] (.go 12 [10,7,3] (.take 13 (.go 15 [] .done)))) (.go 12 [10,7,3] (.take 13 (.go 14 [10,7,3] (.go 15 [] .done)))))))))))))))))),
(428,4,(.take 0 (.take 4 (.alt (.go 5 [0] (.go 1 [] (.take 2 (.go 3 [] (.take 6 (.go 7 [] .done)))))) (.go 1 [] (.take 2 (.alt (.go 5 [0] (.go 3 [] (.take 6 (.go 7 [] .done)))) (.go 3 [] (.go 5 [0] (.take 6 (.go 7 [] .done))))))))))),
(429,5,pL68),
(430,9,pL4),
(430,18,pL4),
(431,9,pL4)]
def Fr3:List (FuncId×Nat):= [(2,0),(3,2),(4,1),(5,1),(6,2),(7,1),(8,1),(9,1),(10,2),(11,1),(12,1),(13,2),(14,1),(15,2),(16,1),(17,1),(18,1),(19,1),(20,0),(21,0),(22,1),(23,2),(24,1),(25,3),(26,1),(27,2),(28,1),(29,1),(30,1),(31,2),(32,1),(33,1),(34,1),(35,2),(36,1),(37,1),(38,1),(39,1),(40,1),(41,1),(42,1),(43,1),(44,1),(45,2),(46,2),(47,2),(48,2),(49,2),(50,2),(51,1),(52,1),(53,1),(54,1),(55,1),(56,1),(57,2),(58,2),(59,2),(60,2),(61,2),(62,1),(63,2),(64,1),(65,1),(66,1),(67,2),(68,1),(69,2),(70,1),(71,2),(72,4),(73,1),(74,1),(75,1),(76,1),(77,1),(78,2),(79,1),(80,1),(81,1),(82,2),(83,1),(84,1),(85,1),(86,1),(87,1),(88,2),(89,3),(90,4),(91,1),(92,2),(93,3),(94,2),(95,1),(96,2),(97,1),(98,2),(99,1),(100,4),(101,3),(102,3),(103,1),(104,2),(105,1),(106,1),(107,1),(108,4),(109,1),(110,1),(111,1),(112,3),(113,1),(114,2),(115,2),(116,3),(117,2),(118,2),(119,3),(120,3),(121,1),(122,2),(123,1),(124,1),(125,1),(126,1),(127,1),(128,1),(129,1),(130,1),(131,0),(132,2),(133,2),(134,1),(135,2),(136,3),(137,2),(138,2),(139,3),(140,1),(141,2),(142,1),(143,2),(144,2),(145,2),(146,3),(147,1),(148,1),(149,3),(150,2),(151,3),(152,1),(153,3),(154,1),(155,1),(156,2),(157,1),(158,1),(159,3),(160,1),(161,2),(162,1),(163,1),(164,1),(165,3),(166,1),(167,1),(168,1),(169,1),(170,2),(171,2),(172,2),(173,1),(174,1),(175,1),(176,1),(177,3),(178,2),(179,2),(180,3),(181,2),(182,1),(183,1),(184,2),(185,1),(186,2),(187,1),(188,1),(189,3),(190,2),(191,1),(192,3),(193,2),(194,1),(195,1),(196,1),(197,2),(198,2),(199,2),(200,2),(201,1),(202,1),(203,1),(204,2),(205,4),(206,3),(207,2),(208,1),(209,1),(210,5),(211,2),(212,2),(213,1),(214,2),(215,1),(216,2),(217,2),(218,1),(219,2),(220,1),(221,1),(222,3),(223,2),(224,3),(225,2),(226,2),(227,2),(228,2),(229,1),(230,2),(231,1),(232,1),(233,1),(234,1),(235,1),(236,1),(237,0),(238,1),(239,2),(240,1),(241,2),(242,1),(243,1),(244,2),(245,3),(246,1),(247,2),(248,1),(249,1),(250,1),(251,2),(252,1),(253,3),(254,2),(255,2),(256,1),(257,1),(258,1),(259,1),(260,2),(261,2),(262,2),(263,1),(264,2),(265,1),(266,2),(267,1),(268,2),(269,2),(270,2),(271,1),(272,1),(273,1),(274,1),(275,2),(276,1),(277,2),(278,1),(279,1),(280,2),(281,2),(282,1),(283,1),(284,1),(285,2),(286,4),(287,1),(288,2),(289,2),(290,1),(291,1),(292,1),(293,1),(294,2),(295,1),(296,1),(297,1),(298,1),(299,2),(300,3),(301,1),(302,1),(303,1),(304,1),(305,2),(306,2),(307,2),(308,1),(309,2),(310,1),(311,1),(312,1),(313,1),(314,0),(315,3),(316,1),(317,1),(318,1),(319,1),(320,1),(321,2),(322,1),(323,1),(324,2),(325,2),(326,3),(327,4),(328,2),(329,2),(330,2),(331,3),(332,1),(333,1),(334,2),(335,2),(336,1),(337,1),(338,2),(339,0),(340,4),(341,2),(342,2),(343,3),(344,1),(345,1),(346,2),(347,2),(348,2),(349,2),(350,3),(351,2),(352,1),(353,1),(354,1),(355,1),(356,1),(357,1),(358,2),(359,2),(360,1),(361,1),(362,1),(363,1),(364,2),(365,0),(366,1),(369,0),(370,1),(371,1),(372,2),(373,2),(374,2),(375,3),(376,1),(377,2),(378,1),(379,2),(380,1),(381,2),(382,1),(383,1),(384,1),(385,2),(386,1),(387,1),(388,1),(389,1),(390,1),(391,1),(392,1),(393,1),(394,1),(395,1),(396,5),(397,1),(398,1),(399,1),(400,1),(401,1),(402,2),(403,1),(404,2),(405,1),(406,1),(407,2),(408,1),(409,2),(410,3),(411,3),(412,4),(413,2),(414,1),(415,3),(416,2),(417,1),(418,1),(419,1),(420,2),(421,1),(422,1),(423,2),(424,3),(425,2),(426,2),(427,1),(428,1),(429,1),(430,2),(431,2),(457,0)]
noncomputable def xgt (g:Nat):Option DVal:=Bool.rec (motive:=fun _=>Option DVal) none (some (.vptr (Lib.asciiSpaceTab.map fun z=> .int .u8 z) 0)) (Nat.beq g 1)
noncomputable def xpM (memo:List (FuncId×List DVal×DVal)):XP:= { P:=Tryz.prog,gt:=xgt,plans:=Cy1,memo:=memo,good:=Fr3 }
end Go.Dl

-- What the interpreter knows of this seat is true.
namespace Go.Dl
open Go Go.Proofs
set_option maxRecDepth 100000
theorem Ai6 {α:Type} {p:α->Bool} {l:List α} (n:Nat) (h:(l.take n).all p=true) (k:(l.drop n).all p=true):l.all p=true:=by
 have e:=congrArg (fun l=>l.all p) (List.take_append_drop n l);try dsimp only at e
 rw[List.all_append,h,k] at e;exact e.symm
noncomputable def Bo3 (x:FuncId×Nat):Bool:=Cl2 Tryz.prog Cy1 x.1 x.2
theorem xg0:(Fr3.take 90).all Bo3=true:=by kernel_rfl
theorem xg1:((Fr3.drop 90).take 90).all Bo3=true:=by kernel_rfl
theorem xg2:(((Fr3.drop 90).drop 90).take 90).all Bo3=true:=by kernel_rfl
theorem xg3:((((Fr3.drop 90).drop 90).drop 90).take 90).all Bo3=true:=by kernel_rfl
theorem xg4:(((((Fr3.drop 90).drop 90).drop 90).drop 90).take 90).all Bo3=true:=by kernel_rfl
theorem xg5:(((((Fr3.drop 90).drop 90).drop 90).drop 90).drop 90).all Bo3=true:=by kernel_rfl
theorem Ei7:Fr3.all (fun x=>Cl2 Tryz.prog Cy1 x.1 x.2)=true:=Ai6 90 xg0 (Ai6 90 xg1 (Ai6 90 xg2 (Ai6 90 xg3 (Ai6 90 xg4 (xg5)))))
theorem Cl8:Ka (Lib.asciiSpaceTab.map fun z=> .int .u8 z)=true:=by decide+kernel
theorem Fx5 {G:Nat->DVal} (hG:GX G):XOk (xpM []) G:=by
 refine⟨by kernel_rfl,fun g d h ρ=> ?_,Ei7,rfl,fun x hx=>by cases hx⟩;have h:Bool.rec (motive:=fun _=>Option DVal) none (some (.vptr (Lib.asciiSpaceTab.map fun z=> .int .u8 z) 0)) (Nat.beq g 1)=some d:=h;cases hb:Nat.beq g 1 with
 | false=>rw[hb] at h;cases h
 | true=>
  rw[hb] at h;cases h;rw[Nat.eq_of_beq_eq_true hb,hG.space];exact .vptr 0 (Jy Cl8)
end Go.Dl
