/- The data level and the contracts of the functions that are reached (part 6). -/
import Derived.Test.YtpkdkhoeaibpaaaGreatDoorRows
import Derived.LaidLaws
import Derived.Test.YtpkdkhoeaibpaaaGreatDoorPme
set_option linter.unusedSimpArgs false
set_option linter.unusedVariables false
set_option linter.unusedSectionVars false
-- THE READING, PART 4: an argument, as the data level sees it; a law's contract.
namespace Go.Dl
open Go Go.RowKit
section
variable {P:Program} {H:Type} {w:World}
theorem Vn {r:Reach} {base:Nat} {t:TypeId} {v:Value} {d:TypeDesc} (hu:P.underlying t=some d) (hd:(∃e,d= .slice e)\/(∃k,d= .int k)\/d= .bool\/d= .string) (h:Value.okWide P w r base t v):v.cells= #[v]:=by
 unfold Value.okWide at h;rw[hu] at h;cases v<;>first | rfl | skip
 rename_i xs
 rcases hd with⟨e,rfl⟩ | ⟨k,rfl⟩ | rfl | rfl<;>(unfold Cell.okWide at h;rw[hu] at h;simp [Cell.ok,hu] at h)
theorem Ix {r:Reach} {base:Nat} {t:TypeId} {v:Value} (hu:P.underlying t=some .bool) (h:Value.okWide P w r base t v):v.cells= #[v]:=Vn hu (.inr (.inr (.inl rfl))) h
theorem Ae0 {t:TypeId} {α:Type} {f:α->DVal} {g:α->DataW H->Prop} (hr:Bi1 P H w t α (fun x=> [f x]) g) {enc:TypeId×Value->H} {base:Nat} {sp:Nat->Bool} {held:Bool} {v:Value} {d:DataW H} {ps:List MemPlace}
  (h:DataW.Trod enc P w base sp held t v d ps) (hv:v.cells= #[v]): ∃x,g x d/\Rel w (fun _=>none) (f x) v:=by
 obtain⟨fuel,h⟩:=h;rw[hv] at h;obtain⟨x,hg,hx⟩:=hr _ _ _ _ _ _ _ _ h;exact⟨x,hg,hx.one⟩
end
end Go.Dl

-- THE READING, PART 5: the bound on what is read, at plain data.
namespace Go.Dl
open Go Go.RowKit Go.Proofs.YtpkdkhoeaibpaaaGreatDoor
section
variable {H:Type}
theorem Ae1 {l:List (DataW H)} (h:Rows.uptoSmall H l=true):Rows.uptoBulkAll l<=1048576:=of_decide_eq_true h
end
section
end
end Go.Dl

-- That no place of laid variables stands twice, found in one pass.
namespace Go.Dl
open Go Go.RowKit
def Gq:List MemPlace->Nat->Bool
 | [],_=>true
 | .cell b off::l,m=>decide (off<1024)&&!(m.testBit (b*1024+off))&&Gq l (m ||| 1<<<(b*1024+off))
 | .map _::_,_=>false
theorem Ai6 {m k n:Nat} (h:(m ||| 1<<<k).testBit n=false):m.testBit n=false/\n≠k:=by
 rw[Nat.testBit_or,Bool.or_eq_false_iff] at h;refine⟨h.1,fun e=> ?_⟩;subst e;have:=h.2;rw[Nat.testBit_shiftLeft] at this;simp at this
theorem Lz: ∀(l:List MemPlace) (m:Nat),Gq l m=true->l.Nodup/\ ∀p∈l,∃b off,p= .cell b off/\off<1024/\m.testBit (b*1024+off)=false
 | [],_,_=>⟨List.nodup_nil,fun p hp=>by cases hp⟩
 | .map _::_,_,h=>by simp [Gq] at h
 | .cell b off::l,m,h=>by
  simp only[Gq,Bool.and_eq_true,decide_eq_true_eq,Bool.not_eq_true'] at h;obtain⟨⟨h1,h2⟩,h3⟩:=h;obtain⟨k1,k2⟩:=Lz l _ h3;refine⟨List.nodup_cons.2 ⟨fun hm=> ?_,k1⟩,fun p hp=> ?_⟩
  ·obtain⟨b',off',e,_,h5⟩:=k2 _ hm;cases e;exact(Ai6 h5).2 rfl
  ·rcases List.mem_cons.1 hp with rfl | hp
   ·exact⟨b,off,rfl,h1,h2⟩
   ·obtain⟨b',off',e,h4,h5⟩:=k2 _ hp;exact⟨b',off',e,h4,(Ai6 h5).1⟩
theorem Vo {P:Program} {w:World} {l:List (String×DataW Unit)} (fuel:Nat) (h:(DataW.laidRun P w fuel (l.map (·.1))).map (·.1)=some l)
  (hr:(DataW.laidRun P w fuel (l.map (·.1))).map (fun x=>Gq x.2 0&&laidRowsB P w x.2)=some true):laidMet P l w:=by
 cases hx:DataW.laidRun P w fuel (l.map (·.1)) with
 | none=>simp [hx] at h
 | some x=>
  obtain⟨l',ps⟩:=x;simp only[hx,Option.map_some,Option.some.injEq] at h hr;subst h;simp only[Bool.and_eq_true] at hr;exact laidMet_of_run fuel hx (decide_eq_true (Lz _ _ hr.1).1) hr.2
end Go.Dl

-- Chapter 4, FormModes: the reading of the package's variables; a world in which they hold what their text lays (as W2, without the texts of chapter 3).
namespace Go.Dl
open Go Go.RowKit Go.Proofs Go.Proofs.YtpkdkhoeaibpaaaGreatDoor
set_option maxRecDepth 100000
theorem Ai7:laidOutB Tryz.prog=true:=by kernel_rfl
theorem Ae2 {P:Program} {w:World} {laid:List (String×DataW Unit)} {n:String} {d:DataW Unit} {g:Nat} (hl:laidOutB P=true) (h:laidMet P laid w) (hm:(n,d)∈laid) (hd:Jq d=true) (hg:P.globalNamed n=some g)
  (hgt:isVar P (((P.globals[g]?).map (·.type)).getD 0)=true):Ec w.heap[g]? =some (At d).length:=by
 obtain⟨g',t,cs,fuel,p,h1,h2,h3,h4,_⟩:=Vm h hm;rw[hg] at h1;cases h1;rw[h2] at hgt;have hc:=Na hl fuel t cs.toList d p hgt hd h4;unfold World.var? at h3;rw[hg] at h3;simp only[Option.bind_some] at h3;split at h3
 ·rename_i c t' fz ho
  cases h3;rw[ho];simp only[Ec,Option.some.injEq];rw[<-hc,Array.length_toList]
 ·cases h3
theorem Jr: ∀l:List Value,(Bk l).length=l.length
 | []=>rfl
 | _::l=>by simp [Bk,Jr l]
theorem Be9:Bk (At Rows.laid_strings_asciiSpace)=Lib.asciiSpaceTab.map fun z=>DVal.int .u8 z:=by kernel_rfl
section
end
noncomputable def Bt7 (h:Array Obj) (g:Nat) (cs:Array Value):Array Obj:=h.modify g fun
 | .cells _ t frozen=> .cells cs t frozen
 | o=>o
theorem Bt8 {laid:List (String×DataW Unit)} {W:World} (hL:laidMetH Tryz.prog laid W) (hs:W.ShapedOpen Tryz.prog) (hh:(laid.filter fun x=>x.2.handleName?.isSome)= [])
  (m5:("strings.asciiSpace",Rows.laid_strings_asciiSpace)∈laid): ∃G,GX G/\GOk G W (fun _=>none):=by
 have hL':laidMet Tryz.prog laid W:=by
  unfold laidMetH at hL;rw[hh] at hL;exact hL
 have r5:=Az9 Ai7 hL' m5 (by kernel_rfl) (show Tryz.prog.globalNamed "strings.asciiSpace" =some 0 by kernel_rfl) (by kernel_rfl);have x5:=Ae2 Ai7 hL' m5 (by kernel_rfl) (show Tryz.prog.globalNamed "strings.asciiSpace" =some 0 by kernel_rfl) (by kernel_rfl);refine⟨fun g=>if g=0 then .vptr (Bk (At Rows.laid_strings_asciiSpace)) 0 else .optr g 0,⟨by simp [Be9]⟩,⟨fun g=> ?_,fun g cs e=> ?_⟩⟩
 ·show Rel W _ (if g=_ then _ else _) _;split
  ·rename_i e;subst e;exact r5
  ·simp [Rel]
 ·change (if g=_ then _ else _)=_ at e;split at e
  ·rename_i e';subst e';cases e;rw[x5,Jr]
  ·cases e
noncomputable def Vp (os:Os):World:=
 let N:=(World.settled Tryz.prog os).heap.size
 let w0:=World.holding Tryz.prog os ⟨#[.cells #[.slice (some ⟨N+1,0,none⟩) 7 7, .slice none 0 0, .int .i64 2] 323,
  .cells (#[9,13,1,32,133,101,160,5760,5600,8192,8202,1,8232,8233,1,8239,8287,48,12288,12288,1].map (Value.int .u16)) 326], #[],[]⟩
 let h9:=Bt7 w0.heap 0 (At Rows.laid_strings_asciiSpace).toArray
 let ha:=Bt7 h9 1 #[.pointer (some ⟨N,0,none⟩)]
 { w0 with heap:=ha }
end Go.Dl
