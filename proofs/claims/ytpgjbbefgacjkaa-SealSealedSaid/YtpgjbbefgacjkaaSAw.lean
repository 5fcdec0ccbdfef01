/- The world of SealSealed: six pairs, then boxes. -/
import Derived.Test.YtpgjbbefgacjkaaSDo
namespace Go.Proofs.Ytpgjbbefgacjkaa
open Go.RowKit
set_option linter.unusedSimpArgs false
set_option linter.unusedVariables false
set_option linter.unusedSectionVars false
def prs : Nat → AW
  | 0 => AW.new0
  | n + 1 => (prs n).pair 0
theorem prs_ok : ∀ n, (prs n).Ok ∧ 0 ≤ (prs n).last
  | 0 => ⟨new0_Ok, by decide⟩
  | n + 1 => by
    obtain ⟨h1, h2⟩ := prs_ok n
    refine ⟨h1.pair h2 0, ?_⟩
    show 0 ≤ (prs n).last + 1 + 1
    omega
theorem prs_last : ∀ n, (prs n).last = 2 * (n : Int)
  | 0 => rfl
  | n + 1 => by
    have := prs_last n
    show (prs n).last + 1 + 1 = _
    omega
theorem prs_made : ∀ n, (prs n).made = [2 * (n : Int)]
  | 0 => rfl
  | n + 1 => by
    have h := prs_made n
    show ((prs n).made.set 0 ((prs n).made.getD 0 0 + 1)).set 0 (((prs n).made.set 0 ((prs n).made.getD 0 0 + 1)).getD 0 0 + 1) = _
    rw [h]
    simp
    omega
/-- What stands in the world: six pairs of side 0, and these boxes. -/
structure Sld (W : AW) (E : List (Nat × V)) : Prop where
  ok : W.Ok
  last : W.last = 12 + (E.length : Int)
  made : W.made = [12 + (E.length : Int)]
  low : ∀ t, t ∈ W.things → t.1 ≤ W.last
  s : ∀ k : Nat, k < 6 → W.at_ (2 * (k : Int) + 1) = some (xOf 5 0 0 V.zero)
  o : ∀ k : Nat, k < 6 → W.at_ (2 * (k : Int) + 2) = some (xOf 6 0 (2 * (k : Int) + 1) V.zero)
  box : ∀ i (h : i < E.length), W.at_ (13 + (i : Int)) = some (xOf 7 0 (2 * (E[i].1 : Int) + 1) E[i].2)
theorem Sld.side {W : AW} {E : List (Nat × V)} (h : Sld W E) : sideB W 0 = true := by unfold sideB; rw [h.made]; rfl
theorem Sld.start : Sld (prs 6) [] := by
  refine ⟨(prs_ok 6).1, by rw [prs_last]; rfl, by rw [prs_made]; rfl, ?_, ?_, ?_, fun i h => absurd h (by simp)⟩
  · decide
  · intro k hk
    rcases (show k = 0 ∨ k = 1 ∨ k = 2 ∨ k = 3 ∨ k = 4 ∨ k = 5 by omega) with rfl | rfl | rfl | rfl | rfl | rfl <;> rfl
  · intro k hk
    rcases (show k = 0 ∨ k = 1 ∨ k = 2 ∨ k = 3 ∨ k = 4 ∨ k = 5 by omega) with rfl | rfl | rfl | rfl | rfl | rfl <;> rfl
theorem Sld.next {W : AW} {E : List (Nat × V)} (h : Sld W E) (k : Nat) (hk6 : k < 6) (v : V) (hm : v.may = true) : Sld (W.lay (xOf 7 0 (2 * (k : Int) + 1) v)) (E ++ [(k, v)]) := by
  have hl := h.last
  refine ⟨h.ok.lay (xOf_plain _ _ _ _) hm (by show 2 * (k : Int) + 1 ≤ _; rw [hl]; omega), ?_, ?_, ?_, fun k hk => ?_, fun k hk => ?_, fun i hi => ?_⟩
  · show W.last + 1 = _
    rw [hl]; simp; omega
  · show W.made.set 0 (W.made.getD 0 0 + 1) = _
    rw [h.made]
    simp
    omega
  · intro t ht
    show t.1 ≤ W.last + 1
    rcases List.mem_append.1 (show t ∈ W.things ++ [(W.last + 1, _)] from ht) with ht | ht
    · have := h.low t ht; omega
    · rw [List.mem_singleton.1 ht]; exact Int.le_refl _
  · rw [at_lay _ h.low, if_neg (by omega)]; exact h.s k hk
  · rw [at_lay _ h.low, if_neg (by omega)]; exact h.o k hk
  · by_cases hlt : i < E.length
    · rw [List.getElem_append_left hlt]
      rw [at_lay _ h.low, if_neg (by omega)]
      exact h.box i hlt
    · have hi' : i = E.length := by simp at hi; omega
      subst hi'
      rw [at_lay _ h.low, if_pos (by omega)]
      simp
theorem Sld.all {W : AW} {E : List (Nat × V)} (h : Sld W E) (r : Int) (h1 : 1 ≤ r) (h2 : r ≤ 12 + (E.length : Int)) : (W.at_ r).isSome = true := by
  by_cases hr : r ≤ 12
  · obtain ⟨k, hk, hc⟩ : ∃ k : Nat, k < 6 ∧ (r = 2 * (k : Int) + 1 ∨ r = 2 * (k : Int) + 2) := ⟨((r - 1) / 2).toNat, by omega, by omega⟩
    rcases hc with rfl | rfl
    · rw [h.s k hk]; rfl
    · rw [h.o k hk]; rfl
  · obtain ⟨i, hi⟩ : ∃ i : Nat, r = 13 + (i : Int) := ⟨(r - 13).toNat, by omega⟩
    subst hi
    rw [h.box i (by omega)]
    rfl
theorem prs_side (k : Nat) : sideB (prs k) 0 = true := by
  have h := prs_made k
  unfold sideB
  rw [h]
  simp
theorem prs_mof (k : Nat) : madeOf (prs k) 0 = 2 * (k : Int) := by
  have h := prs_made k
  have h2 := prs_side k
  unfold madeOf
  rw [if_pos h2, h]
  simp
theorem prs_succ (k : Nat) : prs (k + 1) = (prs k).pair 0 := rfl
theorem prs_zero : prs 0 = AW.new0 := rfl
attribute [irreducible] prs
end Go.Proofs.Ytpgjbbefgacjkaa
