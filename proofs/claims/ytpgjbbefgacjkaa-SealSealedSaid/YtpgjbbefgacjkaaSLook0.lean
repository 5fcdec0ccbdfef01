/- 'look' and 'may' of the law of layer 9: may a value be? It is what package value says. -/
import Derived.Test.YtpgjbbefgacjkaaRoom
namespace Go.Proofs.Ytpgjbbefgacjkaa
open Go.RowKit
set_option linter.unusedSimpArgs false
set_option linter.unusedVariables false
set_option linter.unusedSectionVars false
def zeroB (k n : Int) (s : ByteArray) (ln : Nat) (r : Int) : Bool := (k == 1 || n == 0) && (k == 2 || s.size == 0) && (k == 3 || ln == 0) && (k == 4 || r == 0)
def headB (k n : Int) (s : ByteArray) (ln : Nat) (r left deep : Int) : Bool :=
  decide (1 ≤ left) && zeroB k n s ln r && decide (k ≤ 4) && (k != 4 || decide (1 ≤ r)) && decide (s.size ≤ 256) && (k != 3 || decide (1 ≤ deep))
mutual
def lookV : V → Int → Int → Int
  | .mk k n s l r, left, deep => if headB k n s l.length r left deep then lookL l (left - 1) (deep - 1) else -1
def lookL : List V → Int → Int → Int
  | [], left, _ => left
  | v :: l, left, deep => if lookV v left deep < 0 then -1 else lookL l (lookV v left deep) deep
end
theorem lookL_drop (l : List V) (j : Nat) (h : j < l.length) (left deep : Int) : lookL (l.drop j) left deep = if lookV l[j] left deep < 0 then -1 else lookL (l.drop (j + 1)) (lookV l[j] left deep) deep := by
  rw [List.drop_eq_getElem_cons h]
  conv => lhs; unfold lookL
set_option maxRecDepth 100000 in
set_option maxHeartbeats 4000000 in
theorem look_bad (k n r : Int) (s : ByteArray) (ln : Nat) (A : Option Addr) (c : Nat) (left deep : Int) (w : World) (hb : headB k n s ln r left deep = false) :
    Calls Try.prog 42 #[.agg #[.int .u8 k, .int .i64 n, .string s, .slice A ln c, .int .i64 r], .int .i64 left, .int .i64 deep] w fun e w' => e = .returned (.int .i64 (-1)) ∧ Fr none_ w w' := by
  have HB := Lib.hid hb; clear hb
  have ES := Lib.hid (size_toList s)
  go_enter Try.func42, Try.ntmps42
  go_wp2
  all_goals first
    | (go_ret; exact ⟨rfl, (Fr.refl _ _).alloc _⟩)
    | (exfalso
       have h := HB.out
       have e := ES.out
       simp [headB, zeroB, *] at h
       try omega)
end Go.Proofs.Ytpgjbbefgacjkaa
