/- A frame given back: behind a region walked by an invariant, all slots but those that it writes are as they were. -/
import Derived.Test.YtpgjbbefgacjkaaAny
namespace Go.Proofs.Ytpgjbbefgacjkaa
open Go.RowKit
theorem foldl_sets (a1 : Array Value) : ∀ (S : List Nat) (acc : Array Value) (t : Nat), (S.foldl (fun acc t => acc.setIfInBounds t (a1.getD t undef)) acc).size = acc.size ∧ ((S.foldl (fun acc t => acc.setIfInBounds t (a1.getD t undef)) acc)[t]? = if t ∈ S ∧ t < acc.size then some (a1.getD t undef) else acc[t]?)
  | [], acc, t => by simp
  | s :: S, acc, t => by
    have ih := foldl_sets a1 S (acc.setIfInBounds s (a1.getD s undef)) t
    simp only [List.foldl_cons]
    refine ⟨by rw [ih.1]; simp, ?_⟩
    rw [ih.2]
    simp only [Array.size_setIfInBounds, List.mem_cons]
    by_cases hS : t ∈ S ∧ t < acc.size
    · rw [if_pos hS, if_pos ⟨.inr hS.1, hS.2⟩]
    · rw [if_neg hS]
      by_cases hts : t = s
      · subst hts
        by_cases hlt : t < acc.size
        · rw [if_pos ⟨.inl rfl, hlt⟩, Array.getElem?_setIfInBounds]
          simp [hlt]
        · rw [if_neg (fun h => hlt h.2), Array.getElem?_setIfInBounds]
          simp [hlt]
      · rw [if_neg (fun h => by rcases h.1 with h1 | h1; exact hts h1; exact hS ⟨h1, h.2⟩), Array.getElem?_setIfInBounds, if_neg (fun e => hts e.symm)]
theorem frame_back (S : List Nat) (a0 a1 : Array Value) (hs : a1.size = a0.size) (h : ∀ t, t ∉ S → a1[t]? = a0[t]?) : a1 = S.foldl (fun acc t => acc.setIfInBounds t (a1.getD t undef)) a0 := by
  apply Array.ext_getElem?
  intro t
  rw [(foldl_sets a1 S a0 t).2]
  by_cases hS : t ∈ S
  · by_cases hlt : t < a0.size
    · rw [if_pos ⟨hS, hlt⟩, Array.getD_eq_getD_getElem?, Array.getElem?_eq_getElem (by omega)]
      rfl
    · rw [if_neg (fun h => hlt h.2), Array.getElem?_eq_none (by omega), Array.getElem?_eq_none (by omega)]
  · rw [if_neg (fun h => hS h.1)]
    exact h t hS
end Go.Proofs.Ytpgjbbefgacjkaa
