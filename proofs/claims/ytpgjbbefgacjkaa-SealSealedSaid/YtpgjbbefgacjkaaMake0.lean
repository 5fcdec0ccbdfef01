/- 'asksOf', 'asksBy', 'What', 'Make' of package world. -/
import Derived.Test.YtpgjbbefgacjkaaLay
namespace Go.Proofs.Ytpgjbbefgacjkaa
open Go.RowKit
set_option linter.unusedSimpArgs false
set_option linter.unusedVariables false
set_option linter.unusedSectionVars false

def asksOfB (k : Int) : Bool := k == 6 || k == 7 || k == 9 || k == 11 || k == 14 || k == 15 || k == 16
def asksByB (k : Int) : Bool := k == 15 || k == 16
set_option maxHeartbeats 1000000 in
theorem wraps_any (k : Int) (w : World) : Calls Try.prog 72 #[.int .u8 k] w (Same (.bool (k == 14 || k == 15 || k == 16)) w) := by
  by_cases e14 : k = 14
  · subst e14
    go_enter Try.func72, Try.ntmps72
    go_wp2
    go_ret
    exact ⟨rfl, rfl⟩
  by_cases e15 : k = 15
  · subst e15
    go_enter Try.func72, Try.ntmps72
    go_wp2
    go_ret
    exact ⟨rfl, rfl⟩
  by_cases e16 : k = 16
  · subst e16
    go_enter Try.func72, Try.ntmps72
    go_wp2
    go_ret
    exact ⟨rfl, rfl⟩
  have d14 : (k == 14) = false := by simpa using e14
  have d15 : (k == 15) = false := by simpa using e15
  have d16 : (k == 16) = false := by simpa using e16
  clear e14 e15 e16
  go_enter Try.func72, Try.ntmps72
  go_wp2
  go_ret
  exact ⟨ret_bool (by simp [d14, d15, d16]), rfl⟩
set_option maxHeartbeats 1000000 in
theorem asksOf_any (k : Int) (w : World) : Calls Try.prog 48 #[.int .u8 k] w (Same (.bool (asksOfB k)) w) := by
  by_cases e6 : k = 6
  · subst e6
    go_enter Try.func48, Try.ntmps48
    go_wp2
    go_ret
    exact ⟨rfl, rfl⟩
  by_cases e7 : k = 7
  · subst e7
    go_enter Try.func48, Try.ntmps48
    go_wp2
    go_ret
    exact ⟨rfl, rfl⟩
  by_cases e9 : k = 9
  · subst e9
    go_enter Try.func48, Try.ntmps48
    go_wp2
    go_ret
    exact ⟨rfl, rfl⟩
  by_cases e11 : k = 11
  · subst e11
    go_enter Try.func48, Try.ntmps48
    go_wp2
    go_ret
    exact ⟨rfl, rfl⟩
  have d6 : (k == 6) = false := by simpa using e6
  have d7 : (k == 7) = false := by simpa using e7
  have d9 : (k == 9) = false := by simpa using e9
  have d11 : (k == 11) = false := by simpa using e11
  clear e6 e7 e9 e11
  go_enter Try.func48, Try.ntmps48
  go_wp2_with (refine (wraps_any k _).mono ?_; rintro e w' ⟨rfl, rfl⟩)
  go_ret
  exact ⟨ret_bool (by unfold asksOfB; simp [d6, d7, d9, d11]), rfl⟩
set_option maxHeartbeats 1000000 in
theorem asksBy_any (k : Int) (w : World) : Calls Try.prog 49 #[.int .u8 k] w (Same (.bool (asksByB k)) w) := by
  by_cases e15 : k = 15
  · subst e15
    go_enter Try.func49, Try.ntmps49
    go_wp2
    go_ret
    exact ⟨rfl, rfl⟩
  by_cases e16 : k = 16
  · subst e16
    go_enter Try.func49, Try.ntmps49
    go_wp2
    go_ret
    exact ⟨rfl, rfl⟩
  have d15 : (k == 15) = false := by simpa using e15
  have d16 : (k == 16) = false := by simpa using e16
  clear e15 e16
  go_enter Try.func49, Try.ntmps49
  go_wp2
  go_ret
  exact ⟨ret_bool (by unfold asksByB; simp [d15, d16]), rfl⟩
section
variable {w : World} {p : Nat} {W : AW} {M D : Nat → Prop} {pa : Option Addr} {pc bc bt bf bm ck fk : Nat} {L : List (Int × Nat × Nat)} {FL : List ((Int × Int) × Int × Nat)}
/-- A thing was made. -/
def MakeOut (w : World) (p : Nat) (W : AW) (M D : Nat → Prop) (pa : Option Addr) (pc bc bt bf bm fk : Nat) (FL : List ((Int × Int) × Int × Nat)) (x : X) (e : Ending) (w' : World) : Prop :=
  ∃ M' D' ck' L', e = .returned (.tuple #[.int .i64 (W.last + 1), .int .i64 0]) ∧ RepW w' p (W.lay x) M' D' pa pc bc bt bf bm ck' fk L' FL ∧ (∀ i, M' i → M i ∨ w.heap.size ≤ i) ∧ (∀ i, D' i → D i ∨ w.heap.size ≤ i) ∧ Fr (fun i => i = p ∨ i = bt ∨ i = bm) w w'
/-- No thing was made, for this reason. -/
def MakeNo (w : World) (n : Int) (e : Ending) (w' : World) : Prop := e = .returned (.tuple #[.int .i64 0, .int .i64 n]) ∧ Fr none_ w w'
end
end Go.Proofs.Ytpgjbbefgacjkaa
