/- 'New' of package world, with no parents. -/
import Derived.Test.YtpgjbbefgacjkaaLay
import Derived.Test.YtpgjbbefgacjkaaAny
import Derived.Deep.CutBlock
namespace Go.Proofs.Ytpgjbbefgacjkaa
open Go.RowKit
set_option linter.unusedSimpArgs false
set_option linter.unusedVariables false
set_option linter.unusedSectionVars false
def AW.new0 : AW := { parents := [], cut := [false], things := [], last := 0, made := [0] }
set_option maxRecDepth 100000 in
set_option maxHeartbeats 1000000 in
theorem clone_side_nil (c : Nat) (w : World) : Calls Try.prog 25 #[.slice none 0 c] w (Same (.slice none 0 0) w) := by
  have hq : ∀ w, (binOp .eql 56 (.slice none 0 c) (.slice none 0 0)).run Try.prog w = .ok (.bool true) w := fun w => Lib.run_eql_slice_nil w _ _ none 0 c 0 0 Try.underlying56
  go_enter Try.func25, Try.ntmps25
  go_wp2
  go_ret
  exact ⟨rfl, rfl⟩
theorem new_rep {W : World} {p bc bt bf bm : Nat} (h1 : Blk W p [.slice none 0 0, .slice (some ⟨bc, 0, none⟩) 1 1, .map (some bt), .map (some bf), .int .i64 0, .slice (some ⟨bm, 0, none⟩) 1 1] 62)
    (h2 : Blk W bc [.bool false] 4) (h3 : Blk W bm [.int .i64 0] 3) (h4 : W.heap[bt]? = some (.map #[] 0)) (h5 : W.heap[bf]? = some (.map #[] 0)) (h6 : bt ≠ bf) :
    RepW W p AW.new0 (fun b => b = p ∨ b = bc ∨ b = bt ∨ b = bf ∨ b = bm) none_ none 0 bc bt bf bm 0 0 [] [] := by
  have hpar : ∀ i (hi : i < AW.new0.parents.length), ∃ b o, (none : Option Addr) = some ⟨b, o, none⟩ ∧ none_ b ∧ W.cell? ⟨b, o + i, none⟩ = some (.int .i64 AW.new0.parents[i]) := fun i hi => absurd hi (Nat.not_lt_zero i)
  refine { str := h1, par := hpar, cutB := h2, madeB := h3, mapB := h4, facB := h5, m := ⟨.inl rfl, .inr (.inl rfl), .inr (.inr (.inl rfl)), .inr (.inr (.inr (.inl rfl))), .inr (.inr (.inr (.inr rfl)))⟩, btf := h6, md := fun b h => h.elim, mlt := ?_, dlt := fun b h => h.elim, rise := List.Pairwise.nil, low := fun t ht => absurd ht (List.not_mem_nil), perm := List.Perm.refl _, born := ⟨by simp, fun e he => absurd he (List.not_mem_nil)⟩, blks := by simp, thing := fun r b s h => absurd h (List.not_mem_nil), facs := ?_, facn := by simp, sides := ?_, mades := ?_, last := ?_ }
  · rintro b (rfl | rfl | rfl | rfl | rfl)
    · exact h1.lt
    · exact h2.lt
    · exact heap_lt h4
    · exact heap_lt h5
    · exact h3.lt
  · intro t s r
    constructor
    · rintro ⟨k, h⟩; cases h
    · rintro ⟨x, h, _⟩; cases h
  · simp [AW.new0]
  · intro i hi
    have : i = 0 := by simp [AW.new0] at hi; omega
    subst this
    simp [AW.new0]
  · simp [AW.new0]
def NewOut (w : World) (e : Ending) (w' : World) : Prop := ∃ M D p bc bt bf bm, e = .returned (.tuple #[.pointer (some ⟨p, 0, none⟩), .int .i64 0]) ∧ RepW w' p AW.new0 M D none 0 bc bt bf bm 0 0 [] [] ∧ Fr none_ w w' ∧ (∀ i, M i → w.heap.size ≤ i)
theorem op_value {P : Program} {ops : Array Oper} {o : Oper} {a : Act} {w w' : World} {v : Value} {K : Act → World → Prop} {Q : Exit → Act → World → Prop} {E : Prop} (hg : o.guard = none) (hr : (execOp a.eval o).run P w = .ok (.value v) w') (hK : K (a.put o.dst v) w') :
    if Region.wanted o (yielded ops a.tmps) = true then Oper.wp P o a w K Q else E := by
  have hw : Region.wanted o (yielded ops a.tmps) = true := by simp [Region.wanted, hg]
  rw [if_pos hw]
  unfold Oper.wp
  rw [hr]
  exact hK
/-- What each operation of New's own statement has brought about. -/
def NF (n i : Nat) (v : Value) (w : World) : Prop :=
  (i < 2 → v = .slice none 0 0) ∧ (i = 2 ∨ i = 4 → v = .int .i64 1) ∧
  (i = 3 → ∃ b, v = .slice (some ⟨b, 0, none⟩) 1 1 ∧ Blk w b [.bool false] 4 ∧ n ≤ b) ∧
  (i = 5 → ∃ b, v = .slice (some ⟨b, 0, none⟩) 1 1 ∧ Blk w b [.int .i64 0] 3 ∧ n ≤ b) ∧
  (i = 6 ∨ i = 7 → ∃ b, v = .map (some b) ∧ w.heap[b]? = some (.map #[] 0) ∧ n ≤ b) ∧
  (i = 8 → ∃ bc bm bt bf, v = .agg #[.slice none 0 0, .slice (some ⟨bc, 0, none⟩) 1 1, .map (some bt), .map (some bf), .int .i64 0, .slice (some ⟨bm, 0, none⟩) 1 1] ∧ Blk w bc [.bool false] 4 ∧ Blk w bm [.int .i64 0] 3 ∧ w.heap[bt]? = some (.map #[] 0) ∧ w.heap[bf]? = some (.map #[] 0) ∧ bt ≠ bf ∧ n ≤ bc ∧ n ≤ bm ∧ n ≤ bt ∧ n ≤ bf) ∧
  (i = 9 ∨ i = 10 → ∃ p bc bm bt bf, v = .pointer (some ⟨p, 0, none⟩) ∧ Blk w p [.slice none 0 0, .slice (some ⟨bc, 0, none⟩) 1 1, .map (some bt), .map (some bf), .int .i64 0, .slice (some ⟨bm, 0, none⟩) 1 1] 62 ∧ Blk w bc [.bool false] 4 ∧ Blk w bm [.int .i64 0] 3 ∧ w.heap[bt]? = some (.map #[] 0) ∧ w.heap[bf]? = some (.map #[] 0) ∧ bt ≠ bf ∧ n ≤ bc ∧ n ≤ bm ∧ n ≤ bt ∧ n ≤ bf ∧ n ≤ p) ∧
  (i = 11 → v = .int .i64 0)
theorem NF.keep {n i : Nat} {v : Value} {w w' : World} (k : Fr none_ w w') (h : NF n i v w) : NF n i v w' := by
  have hm : ∀ b : Nat, w.heap[b]? = some (Obj.map #[] 0) → w'.heap[b]? = some (Obj.map #[] 0) := fun b hb => (k.block b (heap_lt hb) (fun h => h)).trans hb
  obtain ⟨g1, g2, g3, g4, g5, g6, g7, g8⟩ := h
  refine ⟨g1, g2, fun e => ?_, fun e => ?_, fun e => ?_, fun e => ?_, fun e => ?_, g8⟩
  · obtain ⟨b, h1, h2, h3⟩ := g3 e; exact ⟨b, h1, h2.keep k (fun h => h), h3⟩
  · obtain ⟨b, h1, h2, h3⟩ := g4 e; exact ⟨b, h1, h2.keep k (fun h => h), h3⟩
  · obtain ⟨b, h1, h2, h3⟩ := g5 e; exact ⟨b, h1, hm b h2, h3⟩
  · obtain ⟨bc, bm, bt, bf, h1, h2, h3, h4, h5, h6⟩ := g6 e; exact ⟨bc, bm, bt, bf, h1, h2.keep k (fun h => h), h3.keep k (fun h => h), hm _ h4, hm _ h5, h6⟩
  · obtain ⟨p, bc, bm, bt, bf, h0, h1, h2, h3, h4, h5, h6⟩ := g7 e; exact ⟨p, bc, bm, bt, bf, h0, h1.keep k (fun h => h), h2.keep k (fun h => h), h3.keep k (fun h => h), hm _ h4, hm _ h5, h6⟩
def nslot (i : Nat) : Nat := if i < 10 then 28 + i else i - 8
structure NI (w0 : World) (listed : Array Bool) (a : Act) (w : World) : Prop where
  sz : a.tmps.size = 38
  df : a.defers = []
  len : listed.size = 12
  t0 : a.eval (.tmp 0) = .slice none 0 0
  t6 : a.eval (.tmp 6) = .int .i64 1
  done : ∀ i, i < 12 → listed.getD i false = true → NF w0.heap.size i (a.eval (.tmp (nslot i))) w
  ne : listed.getD 6 false = true → listed.getD 7 false = true → ∀ b c, a.eval (.tmp 34) = .map (some b) → a.eval (.tmp 35) = .map (some c) → b ≠ c
  fr : Fr none_ w0 w
theorem eval_put_same (a : Act) (d : Nat) (v : Value) (h : d < a.tmps.size) : (a.put (some d) v).eval (.tmp d) = v := by
  simp [Act.eval, Act.put, h]
theorem eval_put_ne (a : Act) (d j : Nat) (v : Value) (h : d ≠ j) : (a.put (some d) v).eval (.tmp j) = a.eval (.tmp j) := by
  simp [Act.eval, Act.put, h]
theorem NI.step {w0 : World} {listed : Array Bool} {a : Act} {w w' : World} {i : Nat} {v : Value} (h : NI w0 listed a w) (hi : i < 12) (k : Fr none_ w w') (hv : NF w0.heap.size i v w')
    (hne : i = 6 ∨ i = 7 → ∀ b, v = .map (some b) → b = w.heap.size) : NI w0 (listed.setIfInBounds i true) (a.put (some (nslot i)) v) w' := by
  have hns : nslot i < 38 := by unfold nslot; split <;> omega
  have h0 : nslot i ≠ 0 := by unfold nslot; split <;> omega
  have h6 : nslot i ≠ 6 := by unfold nslot; split <;> omega
  refine { sz := by simp [Act.put, h.sz], df := by simp [Act.put, h.df], len := by simp [h.len], t0 := by rw [eval_put_ne _ _ _ _ h0]; exact h.t0, t6 := by rw [eval_put_ne _ _ _ _ h6]; exact h.t6, done := fun j hj hl => ?_, ne := fun l6 l7 b c e6 e7 => ?_, fr := h.fr.trans k }
  · by_cases e : i = j
    · subst e
      rw [eval_put_same _ _ _ (by rw [h.sz]; exact hns)]
      exact hv
    · rw [getD_set_ne false e] at hl
      have hs : nslot i ≠ nslot j := by unfold nslot; split <;> split <;> omega
      rw [eval_put_ne _ _ _ _ hs]
      exact (h.done j hj hl).keep k
  · by_cases i6 : i = 6
    · subst i6
      have e1 := eval_put_same a 34 v (by rw [h.sz]; omega)
      rw [show nslot 6 = 34 from rfl, e1] at e6
      rw [show nslot 6 = 34 from rfl, eval_put_ne _ _ _ _ (by omega)] at e7
      rw [getD_set_ne false (by omega)] at l7
      obtain ⟨c', hc1, hc2, _⟩ := (h.done 7 (by omega) l7).2.2.2.2.1 (.inr rfl)
      rw [show nslot 7 = 35 from rfl, e7] at hc1
      injection hc1 with hc1
      injection hc1 with hc1
      subst hc1
      have := hne (.inl rfl) b e6
      have := heap_lt hc2
      omega
    · by_cases i7 : i = 7
      · subst i7
        have e1 := eval_put_same a 35 v (by rw [h.sz]; omega)
        rw [show nslot 7 = 35 from rfl, e1] at e7
        rw [show nslot 7 = 35 from rfl, eval_put_ne _ _ _ _ (by omega)] at e6
        rw [getD_set_ne false (by omega)] at l6
        obtain ⟨c', hc1, hc2, _⟩ := (h.done 6 (by omega) l6).2.2.2.2.1 (.inl rfl)
        rw [show nslot 6 = 34 from rfl, e6] at hc1
        injection hc1 with hc1
        injection hc1 with hc1
        subst hc1
        have := hne (.inr rfl) c e7
        have := heap_lt hc2
        omega
      · rw [getD_set_ne false i6] at l6
        rw [getD_set_ne false i7] at l7
        have s6 : nslot i ≠ 34 := by unfold nslot; split <;> omega
        have s7 : nslot i ≠ 35 := by unfold nslot; split <;> omega
        rw [eval_put_ne _ _ _ _ s6] at e6
        rw [eval_put_ne _ _ _ _ s7] at e7
        exact h.ne l6 l7 b c e6 e7
end Go.Proofs.Ytpgjbbefgacjkaa
