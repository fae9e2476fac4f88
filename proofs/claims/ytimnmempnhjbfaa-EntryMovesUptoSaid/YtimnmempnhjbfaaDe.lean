/-
  THE DATA LEVEL, PART E: the equations by which a piece of code is worked out.
-/
import Derived.Test.YtimnmempnhjbfaaDb
set_option linter.unusedSimpArgs false
set_option linter.unusedVariables false
namespace Go.Dl
open Go

section
variable {P : Program} {G : Nat → DVal} {N : Nat} {all : List Oper} {Q : DExit → DS → Prop} {s : DS} {rest : List Oper}

theorem dwps_nil : dwps P G all Q [] s = Q .normal s := rfl
theorem dwps_cons {dst : Option Nat} {op : Op} {t : TypeId} {p : String} {a : Array Edge} : dwps P G all Q (⟨dst, op, t, p, a, none⟩ :: rest) s = dop P G dst (dwps P G all Q rest) Q s op := rfl

theorem dGuard_eq (dst : Option Nat) (op : Op) (b : Bool) (g : DVal) : dGuard P G all Q dst op rest s b g = (match g with
    | .bool v => (v = b → dop P G dst (dwps P G all Q rest) Q s op) ∧ (v ≠ b → dput dst dundef (dwps P G all Q rest) s)
    | .tuple [] => dput dst dundef (dwps P G all Q rest) s
    | _ => False) := by
  cases g with
  | bool v => cases b <;> cases v <;> simp [dGuard]
  | tuple l => cases l <;> cases b <;> rfl
  | _ => cases b <;> rfl

theorem dwps_guard {dst : Option Nat} {op : Op} {t : TypeId} {p : String} {a : Array Edge} {j : Nat} {b : Bool} :
    dwps P G all Q (⟨dst, op, t, p, a, some (j, b)⟩ :: rest) s = dGuardO P G all Q dst op rest s b (dstOf all j) := by
  rw [dwps]
  cases h : dstOf all j with
  | none => simp [dGuardO, h]
  | some g =>
    simp only [dGuardO, h, dGuard_eq]
    rfl

theorem dGuard_cases {dst : Option Nat} {op : Op} {b v : Bool} (ht : v = true → dGuard P G all Q dst op rest s b (.bool true)) (hf : v = false → dGuard P G all Q dst op rest s b (.bool false)) :
    dGuard P G all Q dst op rest s b (.bool v) := by
  cases v
  · exact hf rfl
  · exact ht rfl

theorem dCond_cases {X Y : DK} {v : Bool} (ht : v = true → dCond X Y s (.bool true)) (hf : v = false → dCond X Y s (.bool false)) : dCond X Y s (.bool v) := by
  cases v
  · exact hf rfl
  · exact ht rfl

theorem dwp_skip : dwp P G N .skip Q s = Q .normal s := rfl
theorem dwp_label {l : Nat} : dwp P G N (.label l) Q s = Q .normal s := rfl
theorem dwp_region {id : Nat} {ops : List Oper} : dwp P G N (.region id ops.toArray false) Q s = dwps P G ops Q ops s := rfl
theorem dwp_seq {a b : Code} : dwp P G N (.seq a b) Q s = dwp P G N a (DSeqQ (dwp P G N b Q) Q) s := rfl
theorem dwp_cond {c : Operand} {a b : Code} : dwp P G N (.cond c a b) Q s = dCond (dwp P G N a Q) (dwp P G N b Q) s (dev G s.env c) := rfl
theorem dwp_block {id : Nat} {c : Code} : dwp P G N (.block id c) Q s = dwp P G N c (DBlockQ id Q) s := rfl
theorem dwp_loop {c : Code} : dwp P G N (.loop c) Q s = DLoop G (dwp P G N c) Q s := rfl
theorem dwp_scope {c : Code} : dwp P G N (.scope c) Q s = dwp P G N c (DScopeQ Q) s := rfl
theorem dwp_exit {id : Nat} : dwp P G N (.exit id) Q s = Q (.exit id) s := rfl
theorem dwp_ret : dwp P G N .ret Q s = Q .ret s := rfl

theorem upd_same {α : Type} (f : Nat → α) (i : Nat) (v : α) : upd f i v i = v := by simp [upd]
theorem upd_other {α : Type} (f : Nat → α) (i j : Nat) (v : α) : upd f i v j = if j = i then v else f j := rfl

theorem repl_one (n : Nat) (z : DVal) : repl n [z] = List.replicate n z := by
  unfold repl
  induction n with
  | zero => rfl
  | succ n ih => simp [List.replicate_succ, ih]
end

section
variable {P : Program} {s : DS}
theorem isSl_slice (e : TypeId) : isSl (some (.slice e)) = true := rfl
theorem dBinX_v {t : TypeId} {c : Bool} {op : BinOp} {dst : Option Nat} {cs : List DVal} {n : Nat} {y : DVal} {K : DK} : dBinX P t c op dst true (.vslice cs n) y K s = (isSl (P.underlying t) = true ∧ dNilS cs op dst K s) := rfl
theorem dBinX_nil {t : TypeId} {c : Bool} {op : BinOp} {dst : Option Nat} {y : DVal} {K : DK} : dBinX P t c op dst true .nilSlice y K s = dBin P t c op dst .nilSlice y K s := rfl
theorem dBinX_o {t : TypeId} {c : Bool} {op : BinOp} {dst : Option Nat} {z r o n l : Nat} {y : DVal} {K : DK} : dBinX P t c op dst true (.oslice z r o n l) y K s = dBin P t c op dst (.oslice z r o n l) y K s := rfl
theorem isNilS_tmp (t : Nat) : isNilS (.tmp t) = false := rfl
theorem isNilS_global (t : Nat) : isNilS (.global t) = false := rfl
theorem isNilS_func (t : Nat) : isNilS (.func t) = false := rfl
theorem isNilS_int (k : IntKind) (n : Int) : isNilS (.const (.int k n)) = false := rfl
theorem isNilS_bool (b : Bool) : isNilS (.const (.bool b)) = false := rfl
theorem isNilS_str (b : ByteArray) : isNilS (.const (.string b)) = false := rfl
theorem isNilS_ptr (b : Option Addr) : isNilS (.const (.pointer b)) = false := rfl
theorem isNilS_map (b : Option Nat) : isNilS (.const (.map b)) = false := rfl
theorem isNilS_nf : isNilS (.const .nilFunc) = false := rfl
theorem isNilS_ni : isNilS (.const .nilIface) = false := rfl
theorem isNilS_agg (a : Array Value) : isNilS (.const (.agg a)) = false := rfl
theorem isNilS_nil : isNilS (.const (.slice none 0 0)) = true := rfl
theorem dNilS_nil {op : BinOp} {dst : Option Nat} {K : DK} : dNilS [] op dst K s = ∀ b, dEqP dst (eqOp op) (some b) K s := by simp [dNilS]
theorem dNilS_cons {op : BinOp} {dst : Option Nat} {K : DK} {c : DVal} {cs : List DVal} : dNilS (c :: cs) op dst K s = dEqP dst (eqOp op) (some false) K s := by simp [dNilS]
end
attribute [go_sem] isSl_slice dBinX_false dBinX_v dBinX_nil dBinX_o isNilS_tmp isNilS_global isNilS_func isNilS_int isNilS_bool isNilS_str isNilS_ptr isNilS_map isNilS_nf isNilS_ni isNilS_agg isNilS_nil dNilS_nil dNilS_cons
-- EQNS
theorem dBin_bool_a_bool_b {P : Program} {t : TypeId} {c : Bool} {op : BinOp} {dst : Option Nat} {K : DK} {s : DS} {a : Bool} {b : Bool} : dBin P t c op dst (.bool a) (.bool b) K s = dEqP dst (eqOp op) (dEql c (P.underlying t) (.bool a) (.bool b)) K s := rfl
theorem dBin_nilPtr_nilPtr {P : Program} {t : TypeId} {c : Bool} {op : BinOp} {dst : Option Nat} {K : DK} {s : DS} : dBin P t c op dst (.nilPtr) (.nilPtr) K s = dEqP dst (eqOp op) (dEql c (P.underlying t) (.nilPtr) (.nilPtr)) K s := rfl
theorem dBin_nilPtr_optr_r_o {P : Program} {t : TypeId} {c : Bool} {op : BinOp} {dst : Option Nat} {K : DK} {s : DS} {r : Nat} {o : Nat} : dBin P t c op dst (.nilPtr) (.optr r o) K s = dEqP dst (eqOp op) (dEql c (P.underlying t) (.nilPtr) (.optr r o)) K s := rfl
theorem dBin_nilPtr_vptr_cs_o {P : Program} {t : TypeId} {c : Bool} {op : BinOp} {dst : Option Nat} {K : DK} {s : DS} {o : Nat} {cs : List DVal} : dBin P t c op dst (.nilPtr) (.vptr cs o) K s = dEqP dst (eqOp op) (dEql c (P.underlying t) (.nilPtr) (.vptr cs o)) K s := rfl
theorem dBin_optr_r_o_nilPtr {P : Program} {t : TypeId} {c : Bool} {op : BinOp} {dst : Option Nat} {K : DK} {s : DS} {r : Nat} {o : Nat} : dBin P t c op dst (.optr r o) (.nilPtr) K s = dEqP dst (eqOp op) (dEql c (P.underlying t) (.optr r o) (.nilPtr)) K s := rfl
theorem dBin_vptr_cs_o_nilPtr {P : Program} {t : TypeId} {c : Bool} {op : BinOp} {dst : Option Nat} {K : DK} {s : DS} {o : Nat} {cs : List DVal} : dBin P t c op dst (.vptr cs o) (.nilPtr) K s = dEqP dst (eqOp op) (dEql c (P.underlying t) (.vptr cs o) (.nilPtr)) K s := rfl
theorem dBin_nilIface_iface_i_v {P : Program} {t : TypeId} {c : Bool} {op : BinOp} {dst : Option Nat} {K : DK} {s : DS} {i : TypeId} {v : DVal} : dBin P t c op dst (.nilIface) (.iface i v) K s = dEqP dst (eqOp op) (dEql c (P.underlying t) (.nilIface) (.iface i v)) K s := rfl
theorem dBin_iface_i_v_nilIface {P : Program} {t : TypeId} {c : Bool} {op : BinOp} {dst : Option Nat} {K : DK} {s : DS} {i : TypeId} {v : DVal} : dBin P t c op dst (.iface i v) (.nilIface) K s = dEqP dst (eqOp op) (dEql c (P.underlying t) (.iface i v) (.nilIface)) K s := rfl
theorem dBin_nilIface_nilIface {P : Program} {t : TypeId} {c : Bool} {op : BinOp} {dst : Option Nat} {K : DK} {s : DS} : dBin P t c op dst (.nilIface) (.nilIface) K s = dEqP dst (eqOp op) (dEql c (P.underlying t) (.nilIface) (.nilIface)) K s := rfl
theorem dBin_nilFunc_nilFunc {P : Program} {t : TypeId} {c : Bool} {op : BinOp} {dst : Option Nat} {K : DK} {s : DS} : dBin P t c op dst (.nilFunc) (.nilFunc) K s = dEqP dst (eqOp op) (dEql c (P.underlying t) (.nilFunc) (.nilFunc)) K s := rfl
theorem dBin_func_f_x_y_nilFunc {P : Program} {t : TypeId} {c : Bool} {op : BinOp} {dst : Option Nat} {K : DK} {s : DS} {f : Fn} {x : List DVal} {y : List DVal} : dBin P t c op dst (.func f x y) (.nilFunc) K s = dEqP dst (eqOp op) (dEql c (P.underlying t) (.func f x y) (.nilFunc)) K s := rfl
theorem dBin_nilFunc_func_f_x_y {P : Program} {t : TypeId} {c : Bool} {op : BinOp} {dst : Option Nat} {K : DK} {s : DS} {f : Fn} {x : List DVal} {y : List DVal} : dBin P t c op dst (.nilFunc) (.func f x y) K s = dEqP dst (eqOp op) (dEql c (P.underlying t) (.nilFunc) (.func f x y)) K s := rfl
theorem dBin_nilSlice_nilSlice {P : Program} {t : TypeId} {c : Bool} {op : BinOp} {dst : Option Nat} {K : DK} {s : DS} : dBin P t c op dst (.nilSlice) (.nilSlice) K s = dEqP dst (eqOp op) (dEql c (P.underlying t) (.nilSlice) (.nilSlice)) K s := rfl
theorem dBin_oslice_z_r_o_n_l_nilSlice {P : Program} {t : TypeId} {c : Bool} {op : BinOp} {dst : Option Nat} {K : DK} {s : DS} {r : Nat} {o : Nat} {n : Nat} {l : Nat} {z : Nat} : dBin P t c op dst (.oslice z r o n l) (.nilSlice) K s = dEqP dst (eqOp op) (dEql c (P.underlying t) (.oslice z r o n l) (.nilSlice)) K s := rfl
theorem dBin_nilSlice_oslice_z_r_o_n_l {P : Program} {t : TypeId} {c : Bool} {op : BinOp} {dst : Option Nat} {K : DK} {s : DS} {r : Nat} {o : Nat} {n : Nat} {l : Nat} {z : Nat} : dBin P t c op dst (.nilSlice) (.oslice z r o n l) K s = dEqP dst (eqOp op) (dEql c (P.underlying t) (.nilSlice) (.oslice z r o n l)) K s := rfl
theorem isConst_t (t : Nat) : isConst (.tmp t) = false := rfl
theorem isConst_g (t : Nat) : isConst (.global t) = false := rfl
theorem isConst_f (t : Nat) : isConst (.func t) = false := rfl
theorem dEqT_eq (P : Program) (n : Nat) (t : TypeId) (xs ys : List DVal) : dEqT P (n + 1) t xs ys = dEqTu P (dEqT P n) t xs ys (P.underlying t) := rfl
theorem cells_raw (v : Value) : (DVal.raw v).cells = [.raw v] := rfl
theorem cells_bool (b : Bool) : (DVal.bool b).cells = [.bool b] := rfl
theorem one_bool (b : Bool) : (DVal.bool b).one = true := rfl
theorem cells_int (k : IntKind) (n : Int) : (DVal.int k n).cells = [.int k n] := rfl
theorem one_int (k : IntKind) (n : Int) : (DVal.int k n).one = true := rfl
theorem cells_str (s : List UInt8) : (DVal.str s).cells = [.str s] := rfl
theorem one_str (s : List UInt8) : (DVal.str s).one = true := rfl
theorem cells_nilPtr  : (DVal.nilPtr ).cells = [.nilPtr ] := rfl
theorem one_nilPtr  : (DVal.nilPtr ).one = true := rfl
theorem cells_vptr (c : List DVal) (o : Nat) : (DVal.vptr c o).cells = [.vptr c o] := rfl
theorem one_vptr (c : List DVal) (o : Nat) : (DVal.vptr c o).one = true := rfl
theorem cells_optr (r o : Nat) : (DVal.optr r o).cells = [.optr r o] := rfl
theorem one_optr (r o : Nat) : (DVal.optr r o).one = true := rfl
theorem cells_nilSlice  : (DVal.nilSlice ).cells = [.nilSlice ] := rfl
theorem one_nilSlice  : (DVal.nilSlice ).one = true := rfl
theorem cells_vslice (c : List DVal) (n : Nat) : (DVal.vslice c n).cells = [.vslice c n] := rfl
theorem one_vslice (c : List DVal) (n : Nat) : (DVal.vslice c n).one = true := rfl
theorem cells_oslice (z r o n l : Nat) : (DVal.oslice z r o n l).cells = [.oslice z r o n l] := rfl
theorem one_oslice (z r o n l : Nat) : (DVal.oslice z r o n l).one = true := rfl
theorem cells_nilMap  : (DVal.nilMap ).cells = [.nilMap ] := rfl
theorem one_nilMap  : (DVal.nilMap ).one = true := rfl
theorem cells_omap (r : Nat) : (DVal.omap r).cells = [.omap r] := rfl
theorem one_omap (r : Nat) : (DVal.omap r).one = true := rfl
theorem cells_func (f : Fn) (a c : List DVal) : (DVal.func f a c).cells = [.func f a c] := rfl
theorem one_func (f : Fn) (a c : List DVal) : (DVal.func f a c).one = true := rfl
theorem cells_nilFunc  : (DVal.nilFunc ).cells = [.nilFunc ] := rfl
theorem one_nilFunc  : (DVal.nilFunc ).one = true := rfl
theorem cells_iface (t : TypeId) (v : DVal) : (DVal.iface t v).cells = [.iface t v] := rfl
theorem one_iface (t : TypeId) (v : DVal) : (DVal.iface t v).one = true := rfl
theorem cells_nilIface  : (DVal.nilIface ).cells = [.nilIface ] := rfl
theorem one_nilIface  : (DVal.nilIface ).one = true := rfl
theorem cells_tuple (v : List DVal) : (DVal.tuple v).cells = [.tuple v] := rfl
theorem one_tuple (v : List DVal) : (DVal.tuple v).one = false := rfl
theorem cells_agg (c : List DVal) : (DVal.agg c).cells = c := rfl
theorem one_agg (c : List DVal) : (DVal.agg c).one = false := rfl
theorem shift_add : isShift .add = false := rfl
theorem shift_sub : isShift .sub = false := rfl
theorem shift_mul : isShift .mul = false := rfl
theorem shift_quo : isShift .quo = false := rfl
theorem shift_rem : isShift .rem = false := rfl
theorem shift_and : isShift .and = false := rfl
theorem shift_or : isShift .or = false := rfl
theorem shift_xor : isShift .xor = false := rfl
theorem shift_andNot : isShift .andNot = false := rfl
theorem shift_eql : isShift .eql = false := rfl
theorem shift_neq : isShift .neq = false := rfl
theorem shift_lss : isShift .lss = false := rfl
theorem shift_leq : isShift .leq = false := rfl
theorem shift_gtr : isShift .gtr = false := rfl
theorem shift_geq : isShift .geq = false := rfl
theorem shift_shl : isShift .shl = true := rfl
theorem shift_shr : isShift .shr = true := rfl
theorem notIface_bool  : notIface (some (.bool )) = true := rfl
theorem isIntT_bool  : isIntT (some (.bool )) = false := rfl
theorem notIface_int (k : IntKind) : notIface (some (.int k)) = true := rfl
theorem notIface_string  : notIface (some (.string )) = true := rfl
theorem isIntT_string  : isIntT (some (.string )) = false := rfl
theorem notInt_string  : notInt (some (.string )) = true := rfl
theorem notIface_pointer (e : TypeId) : notIface (some (.pointer e)) = true := rfl
theorem isIntT_pointer (e : TypeId) : isIntT (some (.pointer e)) = false := rfl
theorem notIface_slice (e : TypeId) : notIface (some (.slice e)) = true := rfl
theorem isIntT_slice (e : TypeId) : isIntT (some (.slice e)) = false := rfl
theorem notInt_slice (e : TypeId) : notInt (some (.slice e)) = true := rfl
theorem notIface_array (n : Nat) (e : TypeId) : notIface (some (.array n e)) = true := rfl
theorem isIntT_array (n : Nat) (e : TypeId) : isIntT (some (.array n e)) = false := rfl
theorem notIface_map (k e : TypeId) : notIface (some (.map k e)) = true := rfl
theorem isIntT_map (k e : TypeId) : isIntT (some (.map k e)) = false := rfl
theorem notIface_struct (f : Array Field) : notIface (some (.struct f)) = true := rfl
theorem isIntT_struct (f : Array Field) : isIntT (some (.struct f)) = false := rfl
theorem notIface_func (p r : Array TypeId) (v : Bool) : notIface (some (.func p r v)) = true := rfl
theorem isIntT_func (p r : Array TypeId) (v : Bool) : isIntT (some (.func p r v)) = false := rfl
theorem notIface_tuple (e : Array TypeId) : notIface (some (.tuple e)) = true := rfl
theorem isIntT_tuple (e : Array TypeId) : isIntT (some (.tuple e)) = false := rfl
theorem notIface_interface (m : Array (String × TypeId)) : notIface (some (.interface m)) = false := rfl
theorem ofVal_bool (b : Bool) : ofVal (.bool b) = .bool b := rfl
theorem ofVal_int (k : IntKind) (n : Int) : ofVal (.int k n) = .int k n := rfl
theorem ofVal_string (l : List UInt8) : ofVal (.string (ByteArray.mk l.toArray)) = .str l := rfl
theorem ofVal_nilptr  : ofVal (.pointer none) = .nilPtr := rfl
theorem ofVal_nilslice  : ofVal (.slice none 0 0) = .nilSlice := rfl
theorem ofVal_nilmap  : ofVal (.map none) = .nilMap := rfl
theorem ofVal_nilfunc  : ofVal (.nilFunc) = .nilFunc := rfl
theorem ofVal_niliface  : ofVal (.nilIface) = .nilIface := rfl
theorem ofVal_agg (l : List Value) : ofVal (.agg l.toArray) = .agg (ofVals l) := rfl
theorem ofVal_tuple (l : List Value) : ofVal (.tuple l.toArray) = .tuple (ofVals l) := rfl
theorem ofVal_func (f : Fn) (a c : List Value) : ofVal (.func f a.toArray c.toArray) = .func f (ofVals a) (ofVals c) := rfl
attribute [go_sem] dwps_nil dwps_cons dwps_guard dwp_skip dwp_label dwp_region dwp_seq dwp_cond dwp_block dwp_loop dwp_scope dwp_exit dwp_ret upd_same upd_other repl_one List.toList_toArray List.cons_append List.nil_append List.getElem?_cons_zero List.getElem?_cons_succ List.getElem?_nil true_and and_true eq_self
attribute [go_sem] dop.eq_1 dop.eq_2 dop.eq_3 dop.eq_4 dop.eq_5 dop.eq_6 dop.eq_7 dop.eq_8 dop.eq_9 dop.eq_10 dop.eq_11 dop.eq_12
attribute [go_sem] dop.eq_13 dop.eq_14 dop.eq_15 dop.eq_16 dop.eq_17 dop.eq_18 dop.eq_19 dop.eq_20 dop.eq_21 dop.eq_22 dop.eq_23 dop.eq_24
attribute [go_sem] dop.eq_25 dop.eq_26 dop.eq_27 dop.eq_28 dput.eq_1 dputO.eq_1 dputO.eq_2 dev.eq_1 dev.eq_2 dev.eq_3 dev.eq_4 devs.eq_1
attribute [go_sem] devs.eq_2 devO.eq_1 devO.eq_2 dparts.eq_1 dparts.eq_2 updO.eq_1 updO.eq_2 dPick.eq_1 dAlloc.eq_1 dAlloc.eq_2 dBuild.eq_1 dBuild.eq_2
attribute [go_sem] dfill.eq_1 dfill.eq_2 placeS.eq_1 placeA.eq_1 dNewSO.eq_1 dNewSO.eq_2 dBuildSliceZ.eq_1 dBuildSliceZ.eq_2 dBuildSlice.eq_1 dLoadC.eq_1 dLoadC.eq_2 dLoadC.eq_3
attribute [go_sem] dLoadH.eq_1 dLoad.eq_1 dLoad.eq_2 dStoreH.eq_1 dStore.eq_1 dNilCheck.eq_1 dNilCheck.eq_2 dNilCheck.eq_3 dNilCheck.eq_4 dNilCheck.eq_5 dEql.eq_1 dEql.eq_2
attribute [go_sem] dEql.eq_3 dEql.eq_4 dEql.eq_5 dEql.eq_6 dEql.eq_7 dEql.eq_8 dEql.eq_9 dEql.eq_10 dEql.eq_11 dEql.eq_12 dEql.eq_13 dEql.eq_14
attribute [go_sem] dEql.eq_15 andO.eq_1 andO.eq_2 partCells.eq_1 partCells.eq_2 partCells.eq_3 dEqFs.eq_1 dEqFs.eq_2 dEqIs.eq_1 dEqIs.eq_2 dEqTb.eq_1 dEqTi.eq_1
attribute [go_sem] dEqTs.eq_1 dEqTr.eq_1 dEqTr.eq_2 dEqTu.eq_1 dEqTu.eq_2 dEqTu.eq_3 dEqTu.eq_4 dEqTu.eq_5 dEqP.eq_1 dEqP.eq_2 eqOp.eq_1 eqOp.eq_2
attribute [go_sem] isConst.eq_1 dIntBin.eq_1 dIntBin.eq_2 dIntBin.eq_3 dIntBin.eq_4 dIntBin.eq_5 dIntBin.eq_6 dIntBin.eq_7 dIntBin.eq_8 dIntBin.eq_9 dIntBin.eq_10 dIntBin.eq_11
attribute [go_sem] dIntBin.eq_12 dIntBin.eq_13 dIntBin.eq_14 dIntBin.eq_15 dShift.eq_1 dShift.eq_2 dStrBin.eq_1 dStrBin.eq_2 dStrBin.eq_3 dStrBin.eq_4 dStrBin.eq_5 dStrBin.eq_6
attribute [go_sem] dStrBin.eq_7 dBinI.eq_1 dBinI.eq_2 dBin.eq_1 dBin.eq_2 dBin.eq_3 dUn.eq_1 dUn.eq_2 dConvert.eq_1 dConvert.eq_2 dMakeIface.eq_1 dMakeIface.eq_2
attribute [go_sem] dMakeSliceZ.eq_1 dMakeSliceZ.eq_2 dMakeSlice.eq_1 dLo.eq_1 dLo.eq_2 dHi.eq_1 dHi.eq_2 dSliceStr.eq_1 dSliceV.eq_1 dSliceO.eq_1 dSliceN.eq_1 dRoom.eq_1
attribute [go_sem] dSlice.eq_1 dSlice.eq_2 dSlice.eq_3 dSlice.eq_4 dSlice.eq_5 dSlice.eq_6 dSlice.eq_7 dPtrAdd.eq_1 dPtrAdd.eq_2 dFieldAddrF.eq_1 dFieldAddrF.eq_2 dFieldAddr.eq_1
attribute [go_sem] dPart.eq_1 dPart.eq_2 dPart.eq_3 dFieldF.eq_1 dFieldF.eq_2 dField.eq_1 dIndexAddr.eq_1 dIndexAddr.eq_2 dIndexAddr.eq_3 dIndex.eq_1 dIndex.eq_2 dExtract.eq_1
attribute [go_sem] dAssertZ.eq_1 dAssertZ.eq_2 dAssertIs.eq_1 dAssertIs.eq_2 dAssertIs.eq_3 dAssertIs.eq_4 dTypeAssert.eq_1 dTypeAssert.eq_2 dLen.eq_1 dLen.eq_2 dLen.eq_3 dLen.eq_4
attribute [go_sem] dLen.eq_5 dLenTs.eq_1 srcCellsO.eq_1 srcCells.eq_1 srcCells.eq_2 srcCells.eq_3 srcCells.eq_4 dAppendTo.eq_1 dAppendTo.eq_2 dAppendN.eq_1 dAppendN.eq_2 dAppend.eq_1
attribute [go_sem] dAppendTs.eq_1 dCap.eq_1 dCap.eq_2 dCap.eq_3 dCapTs.eq_1 dAppendI.eq_1 dClearO.eq_1 dClearS.eq_1 dClearS.eq_2 dClear.eq_1 dClearTs.eq_1 isIntT.eq_1
attribute [go_sem] dAppendX.eq_1 dAppendU.eq_1 dAppendU.eq_2 dKey.eq_1 dKey.eq_2 dKey.eq_3 dFindS.eq_1 dFindS.eq_2 dFindS.eq_3 dFind.eq_1 dFind.eq_2 dKeyT.eq_1
attribute [go_sem] dKeyT.eq_2 dKeyT.eq_3 dMapSet.eq_1 dMapSet.eq_2 dMapUpdF.eq_1 dMapUpdO.eq_1 dMapUpd.eq_1 dLookR.eq_1 dLookF.eq_1 dLookF.eq_2 dLookO.eq_1 dLookup.eq_1
attribute [go_sem] dLookup.eq_2 dMapDelS.eq_1 dMapDelS.eq_2 dMapDelF.eq_1 dMapDelO.eq_1 dMapDel.eq_1 dMapDelTs.eq_1 dMakeMap.eq_1 dMakeMap.eq_2 dMM.eq_1 dMinMaxL.eq_1 dMinMaxL.eq_2
attribute [go_sem] dMinMaxL.eq_3 dMinMax.eq_1 dMinMax.eq_2 DAfter.eq_1 DAfter.eq_2 dCallV.eq_1 dCallV.eq_2 dPanic.eq_1 dBuiltin.eq_1 dBuiltin.eq_2 dBuiltin.eq_3 dBuiltin.eq_4
attribute [go_sem] dBuiltin.eq_5 dBuiltin.eq_6 dBuiltin.eq_7 dBuiltin.eq_8 dCallee.eq_1 dCallee.eq_2 dCallee.eq_3 dstOf.eq_1 dstOf.eq_2 dstOf.eq_3 dGuard.eq_1 dGuard.eq_2
attribute [go_sem] dGuard.eq_3 dGuard.eq_4 dGuard.eq_5 dGuard.eq_6 dGuardO.eq_1 dGuardO.eq_2 DSeqQ.eq_1 DSeqQ.eq_2 DSeqQ.eq_3 DSeqQ.eq_4 DSeqQ.eq_5 dBlockE.eq_1
attribute [go_sem] dBlockE.eq_2 DBlockQ.eq_1 DBlockQ.eq_2 DBlockQ.eq_3 DBlockQ.eq_4 DBlockQ.eq_5 DScopeQ.eq_1 DScopeQ.eq_2 DScopeQ.eq_3 DScopeQ.eq_4 DScopeQ.eq_5 dCond.eq_1
attribute [go_sem] dCond.eq_2 dundef.eq_1 ofVals.eq_1 ofVals.eq_2 dBin_bool_a_bool_b dBin_nilPtr_nilPtr dBin_nilPtr_optr_r_o dBin_nilPtr_vptr_cs_o dBin_optr_r_o_nilPtr dBin_vptr_cs_o_nilPtr dBin_nilIface_iface_i_v dBin_iface_i_v_nilIface
attribute [go_sem] dBin_nilIface_nilIface dBin_nilFunc_nilFunc dBin_func_f_x_y_nilFunc dBin_nilFunc_func_f_x_y dBin_nilSlice_nilSlice dBin_oslice_z_r_o_n_l_nilSlice dBin_nilSlice_oslice_z_r_o_n_l isConst_t isConst_g isConst_f dEqT_eq cells_raw
attribute [go_sem] cells_bool one_bool cells_int one_int cells_str one_str cells_nilPtr one_nilPtr cells_vptr one_vptr cells_optr one_optr
attribute [go_sem] cells_nilSlice one_nilSlice cells_vslice one_vslice cells_oslice one_oslice cells_nilMap one_nilMap cells_omap one_omap cells_func one_func
attribute [go_sem] cells_nilFunc one_nilFunc cells_iface one_iface cells_nilIface one_nilIface cells_tuple one_tuple cells_agg one_agg shift_add shift_sub
attribute [go_sem] shift_mul shift_quo shift_rem shift_and shift_or shift_xor shift_andNot shift_eql shift_neq shift_lss shift_leq shift_gtr
attribute [go_sem] shift_geq shift_shl shift_shr notIface_bool isIntT_bool notIface_int notIface_string isIntT_string notInt_string notIface_pointer isIntT_pointer notIface_slice
attribute [go_sem] isIntT_slice notInt_slice notIface_array isIntT_array notIface_map isIntT_map notIface_struct isIntT_struct notIface_func isIntT_func notIface_tuple isIntT_tuple
attribute [go_sem] notIface_interface ofVal_bool ofVal_int ofVal_string ofVal_nilptr ofVal_nilslice ofVal_nilmap ofVal_nilfunc ofVal_niliface ofVal_agg ofVal_tuple ofVal_func
end Go.Dl
