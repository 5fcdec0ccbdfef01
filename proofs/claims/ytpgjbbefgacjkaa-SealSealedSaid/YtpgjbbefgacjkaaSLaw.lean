/- The plain law of SealSealed: what 'within' leaves of a value; that 'look' says what 'May' says. -/
import Derived.Test.YtpgjbbefgacjkaaSLook
import Derived.Test.YtpgjbbefgacjkaaSWithin
import Derived.Test.YtpgjbbefgacjkaaNames
namespace Go.Proofs.Ytpgjbbefgacjkaa
open Go.RowKit
set_option linter.unusedSimpArgs false
set_option linter.unusedVariables false
set_option linter.unusedSectionVars false
theorem roomL_in (last : Int) (l : List V) (hx : ∀ x, x ∈ l → ∀ left, roomV (inV last x) left = roomV x left) : ∀ left, roomL (inL last l) left = roomL l left := by
  induction l with
  | nil => intro left; unfold inL; rfl
  | cons v l ih =>
    intro left
    unfold inL roomL
    rw [hx v (List.mem_cons_self ..)]
    split
    · exact ih (fun x hx' => hx x (List.mem_cons_of_mem _ hx')) _
    · rfl
theorem roomV_in (last : Int) (v : V) : ∀ left, roomV (inV last v) left = roomV v left := by
  induction v using V.ind with
  | h k n s l r ih =>
    intro left
    unfold inV roomV
    rw [roomL_in last l ih]
theorem great_in (last : Int) (v : V) : greatB (inV last v) = greatB v := by unfold greatB; rw [roomV_in]
theorem takeVs_len (l : List V) : ∀ p m q, takeVs l p m = some q → q + l.length ≤ p := by
  induction l with
  | nil => intro p m q h; unfold takeVs at h; injection h with h; simp; omega
  | cons v l ih =>
    intro p m q h
    unfold takeVs at h
    obtain ⟨p1, h1, h2⟩ := Option.bind_eq_some_iff.1 h
    have := takeV_lt v p m p1 h1
    have := ih p1 m q h2
    simp
    omega
def lk : Option Nat → Int
  | some q => q
  | none => -1
theorem lookL_take (l : List V) (hx : ∀ x, x ∈ l → ∀ (p m : Nat), lookV x p m = lk (takeV x p m)) : ∀ (p m : Nat), lookL l p m = lk (takeVs l p m) := by
  induction l with
  | nil => intro p m; unfold lookL takeVs; rfl
  | cons v l ih =>
    intro p m
    unfold lookL takeVs
    rw [hx v (List.mem_cons_self ..) p m]
    cases h : takeV v p m with
    | none => simp [lk]
    | some q =>
      rw [show lk (some q) = (q : Int) from rfl, if_neg (by omega)]
      exact ih (fun x hx' => hx x (List.mem_cons_of_mem _ hx')) q m
/-- Every kind below is no negative one. -/
def posK : Nat → V → Prop
  | 0, _ => True
  | n + 1, v => 0 ≤ v.k ∧ ∀ x, x ∈ v.l → posK n x
theorem headB_iff (k n : Int) (s : ByteArray) (ln : Nat) (r left deep : Int) : headB k n s ln r left deep = true ↔ 1 ≤ left ∧ (k = 1 ∨ n = 0) ∧ (k = 2 ∨ s.size = 0) ∧ (k = 3 ∨ ln = 0) ∧ (k = 4 ∨ r = 0) ∧ k ≤ 4 ∧ (k ≠ 4 ∨ 1 ≤ r) ∧ s.size ≤ 256 ∧ (k ≠ 3 ∨ 1 ≤ deep) := by
  unfold headB zeroB
  simp only [Bool.and_eq_true, Bool.or_eq_true, decide_eq_true_eq, beq_iff_eq, bne_iff_ne, ne_eq]
  constructor
  · rintro ⟨⟨⟨⟨⟨h1, ⟨⟨f1, f2⟩, f3⟩, f4⟩, h2⟩, h3⟩, h4⟩, h5⟩
    exact ⟨h1, f1, f2, f3, f4, h2, h3, h4, h5⟩
  · rintro ⟨h1, f1, f2, f3, f4, h2, h3, h4, h5⟩
    exact ⟨⟨⟨⟨⟨h1, ⟨⟨f1, f2⟩, f3⟩, f4⟩, h2⟩, h3⟩, h4⟩, h5⟩
theorem look_leaf {k n : Int} {s : ByteArray} {l : List V} {r : Int} {p : Nat} {m : Int} {P : Prop} [Decidable P] (hi : headB k n s l.length r ((p + 1 : Nat) : Int) m = true ↔ P) (hn : P → l.length = 0) :
    (if headB k n s l.length r ((p + 1 : Nat) : Int) m = true then lookL l (((p + 1 : Nat) : Int) - 1) (m - 1) else -1) = lk (if P then some p else none) := by
  by_cases h : P
  · obtain rfl := List.eq_nil_of_length_eq_zero (hn h)
    rw [if_pos (hi.2 h), if_pos h]
    unfold lookL lk
    simp
  · rw [if_neg (fun e => h (hi.1 e)), if_neg h]
    rfl
theorem lookV_take (v : V) : (∀ n, posK n v) → ∀ (p m : Nat), lookV v p m = lk (takeV v p m) := by
  induction v using V.ind with
  | h k n s l r ih =>
    intro hp p m
    have hk : 0 ≤ k := (hp 1).1
    have hl : ∀ x, x ∈ l → ∀ (p m : Nat), lookV x p m = lk (takeV x p m) := fun x hx => ih x hx (fun i => (hp (i + 1)).2 x hx)
    unfold lookV
    cases p with
    | zero =>
      rw [take_zero, if_neg (fun h => by have := (headB_iff _ _ _ _ _ _ _).1 h; omega)]
      rfl
    | succ p =>
      by_cases h0 : k = 0
      · subst h0
        rw [take_k0]
        refine look_leaf ((headB_iff _ _ _ _ _ _ _).trans ?_) (fun h => h.2.2.2)
        constructor
        · intro h; refine ⟨?_, ?_, ?_, ?_⟩ <;> omega
        · rintro ⟨h1, h2, h3, h4⟩; refine ⟨?_, ?_, ?_, ?_, ?_, ?_, ?_, ?_, ?_⟩ <;> omega
      by_cases h1 : k = 1
      · subst h1
        rw [take_k1]
        refine look_leaf ((headB_iff _ _ _ _ _ _ _).trans ?_) (fun h => h.2.2)
        constructor
        · intro h; refine ⟨?_, ?_, ?_⟩ <;> omega
        · rintro ⟨h1, h2, h3⟩; refine ⟨?_, ?_, ?_, ?_, ?_, ?_, ?_, ?_, ?_⟩ <;> omega
      by_cases h2 : k = 2
      · subst h2
        rw [take_k2]
        refine look_leaf ((headB_iff _ _ _ _ _ _ _).trans ?_) (fun h => h.2.2.2)
        constructor
        · intro h; refine ⟨?_, ?_, ?_, ?_⟩ <;> omega
        · rintro ⟨h1, h2, h3, h4⟩; refine ⟨?_, ?_, ?_, ?_, ?_, ?_, ?_, ?_, ?_⟩ <;> omega
      by_cases h4 : k = 4
      · subst h4
        rw [take_k4]
        refine look_leaf ((headB_iff _ _ _ _ _ _ _).trans ?_) (fun h => h.2.2.2)
        constructor
        · intro h; refine ⟨?_, ?_, ?_, ?_⟩ <;> omega
        · rintro ⟨h1, h2, h3, h4⟩; refine ⟨?_, ?_, ?_, ?_, ?_, ?_, ?_, ?_, ?_⟩ <;> omega
      by_cases h3 : k = 3
      · subst h3
        cases m with
        | zero =>
          rw [take_k3z, if_neg (fun h => by have := (headB_iff _ _ _ _ _ _ _).1 h; omega)]
          rfl
        | succ m =>
          rw [take_k3]
          have hL := lookL_take l hl p m
          by_cases hc : n = 0 ∧ s.size = 0 ∧ r = 0
          · rw [if_pos ((headB_iff _ _ _ _ _ _ _).2 (by obtain ⟨h1, h2, h3⟩ := hc; refine ⟨?_, ?_, ?_, ?_, ?_, ?_, ?_, ?_, ?_⟩ <;> omega))]
            rw [show (((p + 1 : Nat) : Int) - 1) = (p : Int) by omega, show (((m + 1 : Nat) : Int) - 1) = (m : Int) by omega, hL]
            cases ht : takeVs l p m with
            | none =>
              simp [lk]
            | some q =>
              have := takeVs_len l p m q ht
              rw [if_pos (by omega)]
              simp [hc, lk]
          · rw [if_neg (fun h => hc (by have := (headB_iff _ _ _ _ _ _ _).1 h; refine ⟨?_, ?_, ?_⟩ <;> omega))]
            have : (if l.length ≤ p then (takeVs l p m).bind fun q => if n = 0 ∧ s.size = 0 ∧ r = 0 then some q else none else none) = none := by
              split
              · cases takeVs l p m with
                | none => rfl
                | some q => simp [hc]
              · rfl
            rw [this]
            rfl
      rw [take_kx k n s l r p m h0 h1 h2 h3 h4, if_neg (fun h => by have := (headB_iff _ _ _ _ _ _ _).1 h; omega)]
      rfl
theorem posK_of {w : World} {D : Nat → Prop} {z : Prop} : ∀ (n : Nat) (v : V) (cs : List Value), RV w D z v cs → posK n v
  | 0, _, _, _ => trivial
  | n + 1, v, cs, h => by
    refine ⟨h.bounds.1.1, fun x hx => ?_⟩
    obtain ⟨A, c, _, _, hs⟩ := h.form
    obtain ⟨i, hi, rfl⟩ := List.mem_iff_getElem.1 hx
    obtain ⟨b, o, cs', _, _, _, _, hv'⟩ := RVs.at_ v.l A i hi hs
    exact posK_of n _ cs' hv'
theorem look_may {w : World} {D : Nat → Prop} {z : Prop} {v : V} {cs : List Value} (h : RV w D z v cs) : decide (lookV v 512 16 ≥ 0) = v.may := by
  have := lookV_take v (fun n => posK_of n v cs h) 512 16
  rw [show (512 : Int) = ((512 : Nat) : Int) from rfl, show (16 : Int) = ((16 : Nat) : Int) from rfl, this]
  unfold V.may
  cases takeV v 512 16 with
  | none => rfl
  | some q => simp [lk]
end Go.Proofs.Ytpgjbbefgacjkaa
