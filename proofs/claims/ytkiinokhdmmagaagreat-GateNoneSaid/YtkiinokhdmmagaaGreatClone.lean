/- 'slices.Clone' and 'ownCode' of lists of nothing. -/
import Derived.Test.YtkiinokhdmmagaaGreatFits
import Derived.Deep.Upon
import Derived.Lib.SliceRun
namespace Go.Proofs.YtkiinokhdmmagaaGreat
open Go.RowKit
set_option linter.unusedSimpArgs false
set_option linter.unusedVariables false
set_option linter.unusedSectionVars false

/-- A list of nothing handed back. -/
def Empty_ (w : World) (e : Ending) (w' : World) : Prop := ∃ A c, e = .returned (.slice A 0 c) ∧ Fr none_ w w'
set_option maxRecDepth 100000 in
set_option maxHeartbeats 2000000 in
theorem clone_Value (a0 : Option Addr) (c : Nat) (w : World) : Calls Tryz.prog 96 #[.slice a0 0 c] w (Empty_ w) := by
  have hq : ∀ w, (binOp .eql 26 (.slice a0 0 c) (.slice none 0 0)).run Tryz.prog w = .ok (.bool a0.isNone) w := fun w => Lib.run_eql_slice_nil w _ _ a0 0 c 0 0 Tryz.underlying26
  have hbs : ∀ W : World, (Instr.buildSlice 26 0 #[]).run Tryz.prog W = .ok (.slice (some ⟨W.heap.size, 0, none⟩) 0 0) (W.alloc (.cells #[] 28)) := fun W => by kernel_rfl
  cases a0 with
  | none =>
    go_enter Tryz.func96, Tryz.ntmps96
    go_wp2
    go_ret
    exact ⟨none, 0, rfl, Fr.refl _ _⟩
  | some a =>
    have hap : ∀ W : World, (Builtin.append_ #[26, 26] 26 #[.slice (some ⟨w.heap.size, 0, none⟩) 0 0, .slice (some a) 0 c]).run Tryz.prog W = .ok (.slice (some ⟨w.heap.size, 0, none⟩) 0 0) W := fun W =>
      run_append_nothing W _ _ _ _ _ Tryz.underlying26 rfl _ 0 0 (Nat.le_refl _) _ (Src.ofSlice W Tryz.underlying26 a 0 c [] (by simp) (by simp) (by simp))
    go_enter Tryz.func96, Tryz.ntmps96
    go_wp2
    go_ret
    exact ⟨_, _, rfl, (Fr.refl _ _).alloc _⟩
set_option maxRecDepth 100000 in
set_option maxHeartbeats 2000000 in
theorem clone_Name (a0 : Option Addr) (c : Nat) (w : World) : Calls Tryz.prog 97 #[.slice a0 0 c] w (Empty_ w) := by
  have hq : ∀ w, (binOp .eql 78 (.slice a0 0 c) (.slice none 0 0)).run Tryz.prog w = .ok (.bool a0.isNone) w := fun w => Lib.run_eql_slice_nil w _ _ a0 0 c 0 0 Tryz.underlying78
  have hbs : ∀ W : World, (Instr.buildSlice 78 0 #[]).run Tryz.prog W = .ok (.slice (some ⟨W.heap.size, 0, none⟩) 0 0) (W.alloc (.cells #[] 147)) := fun W => by kernel_rfl
  cases a0 with
  | none =>
    go_enter Tryz.func97, Tryz.ntmps97
    go_wp2
    go_ret
    exact ⟨none, 0, rfl, Fr.refl _ _⟩
  | some a =>
    have hap : ∀ W : World, (Builtin.append_ #[78, 78] 78 #[.slice (some ⟨w.heap.size, 0, none⟩) 0 0, .slice (some a) 0 c]).run Tryz.prog W = .ok (.slice (some ⟨w.heap.size, 0, none⟩) 0 0) W := fun W =>
      run_append_nothing W _ _ _ _ _ Tryz.underlying78 rfl _ 0 0 (Nat.le_refl _) _ (Src.ofSlice W Tryz.underlying78 a 0 c [] (by simp) (by simp) (by simp))
    go_enter Tryz.func97, Tryz.ntmps97
    go_wp2
    go_ret
    exact ⟨_, _, rfl, (Fr.refl _ _).alloc _⟩
set_option maxRecDepth 100000 in
set_option maxHeartbeats 2000000 in
theorem clone_Stmt (a0 : Option Addr) (c : Nat) (w : World) : Calls Tryz.prog 119 #[.slice a0 0 c] w (Empty_ w) := by
  have hq : ∀ w, (binOp .eql 77 (.slice a0 0 c) (.slice none 0 0)).run Tryz.prog w = .ok (.bool a0.isNone) w := fun w => Lib.run_eql_slice_nil w _ _ a0 0 c 0 0 Tryz.underlying77
  have hbs : ∀ W : World, (Instr.buildSlice 77 0 #[]).run Tryz.prog W = .ok (.slice (some ⟨W.heap.size, 0, none⟩) 0 0) (W.alloc (.cells #[] 195)) := fun W => by kernel_rfl
  cases a0 with
  | none =>
    go_enter Tryz.func119, Tryz.ntmps119
    go_wp2
    go_ret
    exact ⟨none, 0, rfl, Fr.refl _ _⟩
  | some a =>
    have hap : ∀ W : World, (Builtin.append_ #[77, 77] 77 #[.slice (some ⟨w.heap.size, 0, none⟩) 0 0, .slice (some a) 0 c]).run Tryz.prog W = .ok (.slice (some ⟨w.heap.size, 0, none⟩) 0 0) W := fun W =>
      run_append_nothing W _ _ _ _ _ Tryz.underlying77 rfl _ 0 0 (Nat.le_refl _) _ (Src.ofSlice W Tryz.underlying77 a 0 c [] (by simp) (by simp) (by simp))
    go_enter Tryz.func119, Tryz.ntmps119
    go_wp2
    go_ret
    exact ⟨_, _, rfl, (Fr.refl _ _).alloc _⟩
end Go.Proofs.YtkiinokhdmmagaaGreat
