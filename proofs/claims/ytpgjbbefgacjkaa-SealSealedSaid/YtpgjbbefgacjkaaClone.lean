/- 'slices.Clone' and 'ownCode' of lists of nothing. -/
import Derived.Test.YtpgjbbefgacjkaaFits
import Derived.Deep.Upon
import Derived.Lib.SliceRun
namespace Go.Proofs.Ytpgjbbefgacjkaa
open Go.RowKit
set_option linter.unusedSimpArgs false
set_option linter.unusedVariables false
set_option linter.unusedSectionVars false

/-- A list of nothing handed back. -/
def Empty_ (w : World) (e : Ending) (w' : World) : Prop := ∃ A c, e = .returned (.slice A 0 c) ∧ Fr none_ w w'
set_option maxRecDepth 100000 in
set_option maxHeartbeats 2000000 in
theorem clone_Value (a0 : Option Addr) (c : Nat) (w : World) : Calls Try.prog 78 #[.slice a0 0 c] w (Empty_ w) := by
  have hq : ∀ w, (binOp .eql 35 (.slice a0 0 c) (.slice none 0 0)).run Try.prog w = .ok (.bool a0.isNone) w := fun w => Lib.run_eql_slice_nil w _ _ a0 0 c 0 0 Try.underlying35
  have hbs : ∀ W : World, (Instr.buildSlice 35 0 #[]).run Try.prog W = .ok (.slice (some ⟨W.heap.size, 0, none⟩) 0 0) (W.alloc (.cells #[] 37)) := fun W => by kernel_rfl
  cases a0 with
  | none =>
    go_enter Try.func78, Try.ntmps78
    go_wp2
    go_ret
    exact ⟨none, 0, rfl, Fr.refl _ _⟩
  | some a =>
    have hap : ∀ W : World, (Builtin.append_ #[35, 35] 35 #[.slice (some ⟨w.heap.size, 0, none⟩) 0 0, .slice (some a) 0 c]).run Try.prog W = .ok (.slice (some ⟨w.heap.size, 0, none⟩) 0 0) W := fun W =>
      run_append_nothing W _ _ _ _ _ Try.underlying35 rfl _ 0 0 (Nat.le_refl _) _ (Src.ofSlice W Try.underlying35 a 0 c [] (by simp) (by simp) (by simp))
    go_enter Try.func78, Try.ntmps78
    go_wp2
    go_ret
    exact ⟨_, _, rfl, (Fr.refl _ _).alloc _⟩
set_option maxRecDepth 100000 in
set_option maxHeartbeats 2000000 in
theorem clone_Name (a0 : Option Addr) (c : Nat) (w : World) : Calls Try.prog 79 #[.slice a0 0 c] w (Empty_ w) := by
  have hq : ∀ w, (binOp .eql 67 (.slice a0 0 c) (.slice none 0 0)).run Try.prog w = .ok (.bool a0.isNone) w := fun w => Lib.run_eql_slice_nil w _ _ a0 0 c 0 0 Try.underlying67
  have hbs : ∀ W : World, (Instr.buildSlice 67 0 #[]).run Try.prog W = .ok (.slice (some ⟨W.heap.size, 0, none⟩) 0 0) (W.alloc (.cells #[] 111)) := fun W => by kernel_rfl
  cases a0 with
  | none =>
    go_enter Try.func79, Try.ntmps79
    go_wp2
    go_ret
    exact ⟨none, 0, rfl, Fr.refl _ _⟩
  | some a =>
    have hap : ∀ W : World, (Builtin.append_ #[67, 67] 67 #[.slice (some ⟨w.heap.size, 0, none⟩) 0 0, .slice (some a) 0 c]).run Try.prog W = .ok (.slice (some ⟨w.heap.size, 0, none⟩) 0 0) W := fun W =>
      run_append_nothing W _ _ _ _ _ Try.underlying67 rfl _ 0 0 (Nat.le_refl _) _ (Src.ofSlice W Try.underlying67 a 0 c [] (by simp) (by simp) (by simp))
    go_enter Try.func79, Try.ntmps79
    go_wp2
    go_ret
    exact ⟨_, _, rfl, (Fr.refl _ _).alloc _⟩
set_option maxRecDepth 100000 in
set_option maxHeartbeats 2000000 in
theorem clone_Stmt (a0 : Option Addr) (c : Nat) (w : World) : Calls Try.prog 95 #[.slice a0 0 c] w (Empty_ w) := by
  have hq : ∀ w, (binOp .eql 66 (.slice a0 0 c) (.slice none 0 0)).run Try.prog w = .ok (.bool a0.isNone) w := fun w => Lib.run_eql_slice_nil w _ _ a0 0 c 0 0 Try.underlying66
  have hbs : ∀ W : World, (Instr.buildSlice 66 0 #[]).run Try.prog W = .ok (.slice (some ⟨W.heap.size, 0, none⟩) 0 0) (W.alloc (.cells #[] 142)) := fun W => by kernel_rfl
  cases a0 with
  | none =>
    go_enter Try.func95, Try.ntmps95
    go_wp2
    go_ret
    exact ⟨none, 0, rfl, Fr.refl _ _⟩
  | some a =>
    have hap : ∀ W : World, (Builtin.append_ #[66, 66] 66 #[.slice (some ⟨w.heap.size, 0, none⟩) 0 0, .slice (some a) 0 c]).run Try.prog W = .ok (.slice (some ⟨w.heap.size, 0, none⟩) 0 0) W := fun W =>
      run_append_nothing W _ _ _ _ _ Try.underlying66 rfl _ 0 0 (Nat.le_refl _) _ (Src.ofSlice W Try.underlying66 a 0 c [] (by simp) (by simp) (by simp))
    go_enter Try.func95, Try.ntmps95
    go_wp2
    go_ret
    exact ⟨_, _, rfl, (Fr.refl _ _).alloc _⟩
end Go.Proofs.Ytpgjbbefgacjkaa
