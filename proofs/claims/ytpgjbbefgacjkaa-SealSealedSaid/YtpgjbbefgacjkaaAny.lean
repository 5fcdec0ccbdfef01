/- A region that draws its order, walked by a condition that holds whatever has been done: no order is branched over. -/
import Derived.Test.YtpgjbbefgacjkaaBase
namespace Go.Proofs.Ytpgjbbefgacjkaa
open Go.RowKit
set_option linter.unusedSimpArgs false
set_option linter.unusedVariables false

theorem filter_less {α : Type} (p q : α → Bool) : ∀ (l : List α) (i : α), (∀ j, q j = true → p j = true) → i ∈ l → p i = true → q i = false → (l.filter q).length < (l.filter p).length
  | [], i, _, h, _, _ => by cases h
  | a :: l, i, hpq, hi, hp, hq => by
    have hle : ∀ l : List α, (l.filter q).length ≤ (l.filter p).length := by
      intro l
      induction l with
      | nil => simp
      | cons b l ih =>
        rw [List.filter_cons, List.filter_cons]
        cases hb : q b with
        | true => simp [hpq b hb, ih]
        | false => cases p b <;> simp <;> omega
    have h1 := hle l
    rw [List.filter_cons, List.filter_cons]
    rcases List.mem_cons.1 hi with rfl | hi
    · simp [hp, hq]; omega
    · have h2 := filter_less p q l i hpq hi hp hq
      cases hb : q a with
      | true => simp [hpq a hb, h2]
      | false => cases p a <;> simp <;> omega
def leftN (ops : Array Oper) (listed : Array Bool) : Nat := ((List.range ops.size).filter fun j => !listed.getD j true).length
theorem getD_set_true' (listed : Array Bool) (i j : Nat) (h : (listed.setIfInBounds i true).getD j true = false) : listed.getD j true = false := by
  by_cases e : i = j
  · subst e
    rw [Array.getD_eq_getD_getElem?, Array.getElem?_setIfInBounds] at h
    simp at h
    split at h <;> simp at h
  · rwa [getD_set_ne true e] at h
/-- **The rule.** 'Inv' speaks of what has been done, of the frame and of the world. -/
theorem wpAny_inv {P : Program} {ops : Array Oper} {Q : Exit → Act → World → Prop} {md : Region.Mode} (Inv : Array Bool → Act → World → Prop)
    (hstep : ∀ listed a w i, Inv listed a w → i ∈ Region.ready md ops listed → wpOp P ops Q i (fun a' w' => Inv (listed.setIfInBounds i true) a' w') a w)
    (hdone : ∀ listed a w, Inv listed a w → Region.ready md ops listed = [] → Q .normal a w) :
    ∀ fuel listed a w, Inv listed a w → leftN ops listed ≤ fuel → wpAny P md ops Q fuel listed a w := by
  intro fuel
  induction fuel with
  | zero =>
    intro listed a w hi hl
    have hr : Region.ready md ops listed = [] := by
      rw [List.eq_nil_iff_forall_not_mem]
      intro j hj
      obtain ⟨h0, o, ho, _⟩ := mem_ready.1 hj
      have hlt : j < ops.size := (Array.getElem?_eq_some_iff.1 ho).1
      have hm : j ∈ (List.range ops.size).filter (fun j => !listed.getD j true) := List.mem_filter.2 ⟨List.mem_range.2 hlt, by rw [h0]; rfl⟩
      have : (List.range ops.size).filter (fun j => !listed.getD j true) = [] := List.eq_nil_of_length_eq_zero (by unfold leftN at hl; omega)
      rw [this] at hm
      cases hm
    exact ⟨hr, hdone listed a w hi hr⟩
  | succ fuel ih =>
    intro listed a w hi hl
    refine ⟨fun hr => hdone listed a w hi hr, fun j hj => wpOp_mono (fun a' w' h => ih _ a' w' h ?_) (hstep listed a w j hi hj)⟩
    obtain ⟨h0, o, ho, _⟩ := mem_ready.1 hj
    have hlt : j < ops.size := (Array.getElem?_eq_some_iff.1 ho).1
    have := filter_less (fun k => !listed.getD k true) (fun k => !(listed.setIfInBounds j true).getD k true) (List.range ops.size) j
      (fun k hk => by
        simp only [Bool.not_eq_true'] at hk ⊢
        exact getD_set_true' listed j k hk) (List.mem_range.2 hlt) (by simp only [Bool.not_eq_true']; exact h0)
      (by
        simp only [Bool.not_eq_false']
        by_cases hs : j < listed.size
        · rw [Array.getD_eq_getD_getElem?, Array.getElem?_setIfInBounds]; simp [hs]
        · rw [Array.getD_eq_getD_getElem?, Array.getElem?_eq_none (by simp; omega)]; rfl)
    unfold leftN at hl ⊢
    omega
theorem wp_region_inv {P : Program} {ops : Array Oper} {Q : Exit → Act → World → Prop} {id : Nat} {a : Act} {w : World} (hm : P.follows .mixedOrders = true) (Inv : Array Bool → Act → World → Prop)
    (h0 : Inv (Array.replicate ops.size false) a w.drew)
    (hstep : ∀ listed a w i, Inv listed a w → i ∈ Region.ready .any ops listed → wpOp P ops Q i (fun a' w' => Inv (listed.setIfInBounds i true) a' w') a w)
    (hdone : ∀ listed a w, Inv listed a w → Region.ready .any ops listed = [] → Q .normal a w) : (Code.region id ops true).wp P Q a w := by
  refine wp_region_any hm (wpAny_inv Inv hstep hdone _ _ _ _ h0 ?_)
  unfold leftN
  exact Nat.le_trans (List.length_filter_le _ _) (by simp)
/-- Every operation waits for earlier ones alone. -/
def downB (ops : Array Oper) : Bool := (List.range ops.size).all fun i => ((ops[i]?).map fun o => o.after.all fun e => decide (e.on < i)).getD true
theorem all_listed {ops : Array Oper} {md : Region.Mode} {listed : Array Bool} (hb : downB ops = true) (hs : listed.size = ops.size) (hr : Region.ready md ops listed = []) : ∀ n i, i < n → i < ops.size → listed.getD i false = true := by
  intro n
  induction n with
  | zero => intro i h; omega
  | succ n ih =>
    intro i hi hlt
    cases h0 : listed.getD i true with
    | true =>
      rw [Array.getD_eq_getD_getElem?, Array.getElem?_eq_getElem (show i < listed.size by omega)] at h0 ⊢
      exact h0
    | false =>
      have hm : i ∈ Region.ready md ops listed := by
        refine mem_ready.2 ⟨h0, ops[i], Array.getElem?_eq_getElem hlt, fun e he _ => ?_⟩
        have h1 := List.all_eq_true.1 hb i (List.mem_range.2 hlt)
        rw [Array.getElem?_eq_getElem hlt] at h1
        simp only [Option.map_some, Option.getD_some] at h1
        have h2 := Array.all_eq_true_iff_forall_mem.1 h1 e he
        have h3 : e.on < i := by simpa using h2
        exact ih e.on (by omega) (by omega)
      rw [hr] at hm
      cases hm
end Go.Proofs.Ytpgjbbefgacjkaa
