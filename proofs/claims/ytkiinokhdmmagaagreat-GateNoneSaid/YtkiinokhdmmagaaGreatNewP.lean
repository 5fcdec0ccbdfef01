/- 'New' of package world, with any parents that may be. -/
import Derived.Test.YtkiinokhdmmagaaGreatNew2
import Derived.Test.YtkiinokhdmmagaaGreatNames
import Derived.Laws.OwnMore
namespace Go.Proofs.YtkiinokhdmmagaaGreat
open Go.RowKit
set_option linter.unusedSimpArgs false
set_option linter.unusedVariables false
set_option linter.unusedSectionVars false
/-! ### 'slices.Clone' of sides -/
theorem info_Side : (Tryz.prog.info? 23).map (fun i => (i.zero, i.size, i.bytes)) = some (some (.int .i64 0), 1, 8) := by kernel_rfl
theorem rowI_one (xs : List Int) : ∀ u ∈ rowI xs, u.oneCell' = true := by
  intro u hu
  obtain ⟨x, _, rfl⟩ := List.mem_map.1 hu
  rfl
set_option maxRecDepth 100000 in
set_option maxHeartbeats 2000000 in
theorem clone_side (A0 : Option Addr) (c : Nat) (xs : List Int) (w : World) (hA : A0 = none → xs = []) (hr : RdI w A0 xs) (hl : xs.length ≤ 2199023255552) :
    Calls Tryz.prog 58 #[.slice A0 xs.length c] w fun e w' => ∃ v, e = .returned v ∧ OwnI w' w.heap.size 23 v xs ∧ Fr none_ w w' := by
  have hq : ∀ w, (binOp .eql 32 (.slice A0 xs.length c) (.slice none 0 0)).run Tryz.prog w = .ok (.bool A0.isNone) w := fun w => Lib.run_eql_slice_nil w _ _ A0 xs.length c 0 0 Tryz.underlying32
  have hbs : ∀ W : World, (Instr.buildSlice 32 0 #[]).run Tryz.prog W = .ok (.slice (some ⟨W.heap.size, 0, none⟩) 0 0) (W.alloc (.cells #[] 23)) := fun W => by kernel_rfl
  cases A0 with
  | none =>
    obtain rfl := hA rfl
    exact (clone_side_nil c w).mono fun e w' h => by
      obtain ⟨rfl, rfl⟩ := h
      exact ⟨_, rfl, ⟨rfl, .inl ⟨rfl, rfl⟩⟩, Fr.refl _ _⟩
  | some a =>
    have hown : ∀ W : World, (W.alloc (.cells #[] 23)).ownsRow W.heap.size 23 1 (.slice (some ⟨W.heap.size, 0, none⟩) 0 0) 0 [] := fun W => ⟨rfl, .inr ⟨W.heap.size, 0, #[], rfl, Nat.le_refl _, heap_alloc_new _ _, Nat.le_refl _, Nat.zero_le _, rfl, rfl⟩⟩
    have hnews : ∀ j u, (rowI xs)[j]? = some u → w.cell? (a.add j) = some u := by
      intro j u hu
      have hj : j < xs.length := by have := (List.getElem?_eq_some_iff.1 hu).1; simpa using this
      obtain ⟨b, o, he, hc⟩ := hr j hj
      injection he with he
      subst he
      rw [← hu, Addr.add_mid, hc]
      simp [hj]
    have hnew2 : ∀ j u, (rowI xs)[j]? = some u → (w.alloc (.cells #[] 23)).cell? (a.add j) = some u := by
      intro j u hu
      have h := hnews j u hu
      have hlt : (a.add j).block < w.heap.size := World.block_lt_of_cell? w _ h
      rw [World.cell?_of_block (w := w) (a := a.add j) (((Fr.refl none_ w).alloc _).block _ hlt (fun h => h))]
      exact h
    have HOWN := Lib.hid hown; clear hown
    have HN2 := Lib.hid hnew2; clear hnew2 hnews
    obtain ⟨i0, hi, hz0, hz1, hz2⟩ := info_parts info_Side
    clear hr hA
    go_enter Tryz.func58, Tryz.ntmps58
    go_wp2_with (refine wpList_append_own_at _ rfl (.tmp 5) (.tmp 6) 32 rfl w.heap.size 23 i0 (.int .i64 0) 1 8 Tryz.underlying32 hi hz0 hz1 hz2 rfl (by omega) _ 0 [] rfl (HOWN.out w) a xs.length c (rowI xs) rfl (by simp) HN2.out (rowI_one xs) (by unfold maxLen; omega) (by omega) (by simp) ?_)
    intro v1 w1 hown1 hg1 _ _
    have hfr : Fr none_ w w1 := ((Fr.refl none_ w).alloc _).trans' (grownBy_fr hg1) (fun i hi e => by simp [Value.ownBlock] at e; omega)
    have hown2 : OwnI w1 w.heap.size 23 v1 xs := by simpa using hown1
    have HFR := Lib.hid hfr; clear hfr
    have HO := Lib.hid hown2; clear hown2 hown1 hg1
    go_wp2
    go_ret
    exact ⟨_, rfl, HO.out, HFR.out⟩

/-! ### the world -/
def AW.newP (ps : List Int) : AW := { parents := ps, cut := List.replicate (ps.length + 1) false, things := [], last := 0, made := List.replicate (ps.length + 1) 0 }
abbrev falses (n : Nat) : List Value := List.replicate n (.bool false)
abbrev zeros (n : Nat) : List Value := List.replicate n (.int .i64 0)
theorem info_bool : (Tryz.prog.info? 4).map (fun i => (i.zero, i.size, i.bytes)) = some (some (.bool false), 1, 1) := by kernel_rfl
theorem info_int' : (Tryz.prog.info? 3).map (fun i => (i.zero, i.size, i.bytes)) = some (some (.int .i64 0), 1, 8) := by kernel_rfl
theorem make_bools (n : Nat) (hn : n ≤ 1000000) (W : World) : (Instr.makeSlice 33 (.int .i64 (n : Int)) (.int .i64 (n : Int))).run Tryz.prog W = .ok (.slice (some ⟨W.heap.size, 0, none⟩) n n) (W.alloc (.cells (falses n).toArray 4)) := by
  obtain ⟨i, hi, hz0, hz1, hz2⟩ := info_parts info_bool
  have := run_make (P := Tryz.prog) W 33 4 i _ Tryz.underlying33 hi hz0 .i64 .i64 n n (by omega) (by omega) (by rw [hz2]; omega) (by omega)
  rw [hz1] at this
  have e : madeCells (Value.bool false).cells (n * 1) = (falses n).toArray := by
    rw [Nat.mul_one]
    exact Array.ext' ((toList_madeCells_one (.bool false) n).trans (by simp))
  rw [Int.toNat_natCast, e] at this
  exact this
theorem make_ints (n : Nat) (hn : n ≤ 1000000) (W : World) : (Instr.makeSlice 36 (.int .i64 (n : Int)) (.int .i64 (n : Int))).run Tryz.prog W = .ok (.slice (some ⟨W.heap.size, 0, none⟩) n n) (W.alloc (.cells (zeros n).toArray 3)) := by
  obtain ⟨i, hi, hz0, hz1, hz2⟩ := info_parts info_int'
  have := run_make (P := Tryz.prog) W 36 3 i _ Tryz.underlying36 hi hz0 .i64 .i64 n n (by omega) (by omega) (by rw [hz2]; omega) (by omega)
  rw [hz1] at this
  have e : madeCells (Value.int .i64 0).cells (n * 1) = (zeros n).toArray := by
    rw [Nat.mul_one]
    exact Array.ext' ((toList_madeCells_one (.int .i64 0) n).trans (by simp))
  rw [Int.toNat_natCast, e] at this
  exact this
theorem newP_rep {W : World} {p bc bt bf bm n : Nat} {pa : Option Addr} {pc : Nat} {ps : List Int} (hl : ps.length < 16) (hown : OwnI W n 23 (.slice pa ps.length pc) ps)
    (h1 : Blk W p [.slice pa ps.length pc, .slice (some ⟨bc, 0, none⟩) (ps.length + 1) (ps.length + 1), .map (some bt), .map (some bf), .int .i64 0, .slice (some ⟨bm, 0, none⟩) (ps.length + 1) (ps.length + 1)] 38)
    (h2 : Blk W bc (falses (ps.length + 1)) 4) (h3 : Blk W bm (zeros (ps.length + 1)) 3) (h4 : W.heap[bt]? = some (.map #[] 0)) (h5 : W.heap[bf]? = some (.map #[] 0)) (h6 : bt ≠ bf) :
    RepW W p (AW.newP ps) (fun b => b = p ∨ b = bc ∨ b = bt ∨ b = bf ∨ b = bm) (fun b => pa = some ⟨b, 0, none⟩) pa pc bc bt bf bm 0 0 [] [] := by
  have hp : ∀ b, pa = some ⟨b, 0, none⟩ → ∃ cs, Blk W b cs 23 ∧ cs.take ps.length = rowI ps ∧ ps.length ≤ cs.length := by
    intro b hb
    rcases hown.2 with h | ⟨g, cap, cur, he, hg, hh, h7, h8, h9, h10⟩
    · have := h.1; injection this with e _ _; rw [e] at hb; cases hb
    · injection he with e _ _
      rw [e] at hb
      injection hb with hb
      injection hb with hb
      subst hb
      refine ⟨cur.toList, by unfold Blk; simpa using hh, ?_, ?_⟩
      · simpa using h10
      · have := h9; simp at this ⊢; omega
  refine { str := ?_, par := ?_, cutB := ?_, madeB := ?_, mapB := h4, facB := h5, m := ⟨.inl rfl, .inr (.inl rfl), .inr (.inr (.inl rfl)), .inr (.inr (.inr (.inl rfl))), .inr (.inr (.inr (.inr rfl)))⟩, btf := h6, md := ?_, mlt := ?_, dlt := ?_, rise := List.Pairwise.nil, low := fun t ht => absurd ht (List.not_mem_nil), perm := List.Perm.refl _, born := ⟨by simp, fun e he => absurd he (List.not_mem_nil)⟩, blks := by simp, thing := fun r b s h => absurd h (List.not_mem_nil), facs := ?_, facn := by simp, sides := ?_, mades := ?_, last := ?_ }
  · show Blk W p [.slice pa ps.length pc, .slice (some ⟨bc, 0, none⟩) (List.replicate (ps.length + 1) false).length (List.replicate (ps.length + 1) false).length, .map (some bt), .map (some bf), .int .i64 0, .slice (some ⟨bm, 0, none⟩) (List.replicate (ps.length + 1) (0 : Int)).length (List.replicate (ps.length + 1) (0 : Int)).length] 38
    rw [List.length_replicate, List.length_replicate]
    exact h1
  · intro i hi
    change i < ps.length at hi
    rcases hown.2 with h | ⟨g, cap, cur, he, hg, hh, h7, h8, h9, h10⟩
    · omega
    · injection he with e _ _
      obtain ⟨cs, hb, ht, hlc⟩ := hp g e
      refine ⟨g, 0, e, e, ?_⟩
      rw [hb.cell, Nat.zero_add]
      have : (cs.take ps.length)[i]? = cs[i]? := by rw [List.getElem?_take]; simp [hi]
      rw [← this, ht]
      show (rowI ps)[i]? = some (.int .i64 ps[i])
      simp [hi]
  · show Blk W bc ((List.replicate (ps.length + 1) false).map Value.bool) 4
    rw [List.map_replicate]
    exact h2
  · show Blk W bm (rowI (List.replicate (ps.length + 1) 0)) 3
    unfold rowI
    rw [List.map_replicate]
    exact h3
  · intro b hb hM
    obtain ⟨cs, hB, _⟩ := hp b hb
    rcases hM with rfl | rfl | rfl | rfl | rfl
    · have := hB.type_inj h1; exact absurd this (by decide)
    · have := hB.type_inj h2; exact absurd this (by decide)
    · exact hB.not_map h4
    · exact hB.not_map h5
    · have := hB.type_inj h3; exact absurd this (by decide)
  · rintro b (rfl | rfl | rfl | rfl | rfl)
    · exact h1.lt
    · exact h2.lt
    · exact heap_lt h4
    · exact heap_lt h5
    · exact h3.lt
  · intro b hb
    obtain ⟨cs, hB, _⟩ := hp b hb
    exact hB.lt
  · intro t s r
    constructor
    · rintro ⟨k, h⟩; cases h
    · rintro ⟨x, h, _⟩; cases h
  · refine ⟨?_, ?_, ?_⟩
    · show (List.replicate (ps.length + 1) (0 : Int)).length = ps.length + 1; simp
    · show (List.replicate (ps.length + 1) false).length = (List.replicate (ps.length + 1) (0 : Int)).length; simp
    · show (List.replicate (ps.length + 1) (0 : Int)).length ≤ 16; simp; omega
  · intro i hi
    have e : (AW.newP ps).made[i] = 0 := List.getElem_replicate (a := (0 : Int)) hi
    rw [e]
    omega
  · show (0 : Int) ≤ 0 ∧ (0 : Int) ≤ 64 * (List.replicate (ps.length + 1) (0 : Int)).sum
    simp
/-- A new world with these parents. -/
def NewPOut (w : World) (ps : List Int) (e : Ending) (w' : World) : Prop := ∃ M D p pa pc bc bt bf bm, e = .returned (.tuple #[.pointer (some ⟨p, 0, none⟩), .int .i64 0]) ∧ RepW w' p (AW.newP ps) M D pa pc bc bt bf bm 0 0 [] [] ∧ Fr none_ w w' ∧ (∀ i, M i → w.heap.size ≤ i) ∧ (∀ i, D i → w.heap.size ≤ i)
/-- What each operation of New's own statement has brought about. -/
def NP (n : Nat) (A0 : Option Addr) (c0 : Nat) (ps : List Int) (i : Nat) (v : Value) (w : World) : Prop :=
  (i = 0 → v = .slice A0 ps.length c0) ∧ (i = 2 ∨ i = 4 → v = .int .i64 ((ps.length : Int) + 1)) ∧
  (i = 1 → ∃ pa pc, v = .slice pa ps.length pc ∧ OwnI w n 23 v ps) ∧
  (i = 3 → ∃ b, v = .slice (some ⟨b, 0, none⟩) (ps.length + 1) (ps.length + 1) ∧ Blk w b (falses (ps.length + 1)) 4 ∧ n ≤ b) ∧
  (i = 5 → ∃ b, v = .slice (some ⟨b, 0, none⟩) (ps.length + 1) (ps.length + 1) ∧ Blk w b (zeros (ps.length + 1)) 3 ∧ n ≤ b) ∧
  (i = 6 ∨ i = 7 → ∃ b, v = .map (some b) ∧ w.heap[b]? = some (.map #[] 0) ∧ n ≤ b) ∧
  (i = 8 → ∃ pa pc bc bm bt bf, v = .agg #[.slice pa ps.length pc, .slice (some ⟨bc, 0, none⟩) (ps.length + 1) (ps.length + 1), .map (some bt), .map (some bf), .int .i64 0, .slice (some ⟨bm, 0, none⟩) (ps.length + 1) (ps.length + 1)] ∧ OwnI w n 23 (.slice pa ps.length pc) ps ∧ Blk w bc (falses (ps.length + 1)) 4 ∧ Blk w bm (zeros (ps.length + 1)) 3 ∧ w.heap[bt]? = some (.map #[] 0) ∧ w.heap[bf]? = some (.map #[] 0) ∧ bt ≠ bf ∧ n ≤ bc ∧ n ≤ bm ∧ n ≤ bt ∧ n ≤ bf) ∧
  (i = 9 ∨ i = 10 → ∃ p pa pc bc bm bt bf, v = .pointer (some ⟨p, 0, none⟩) ∧ Blk w p [.slice pa ps.length pc, .slice (some ⟨bc, 0, none⟩) (ps.length + 1) (ps.length + 1), .map (some bt), .map (some bf), .int .i64 0, .slice (some ⟨bm, 0, none⟩) (ps.length + 1) (ps.length + 1)] 38 ∧ OwnI w n 23 (.slice pa ps.length pc) ps ∧ Blk w bc (falses (ps.length + 1)) 4 ∧ Blk w bm (zeros (ps.length + 1)) 3 ∧ w.heap[bt]? = some (.map #[] 0) ∧ w.heap[bf]? = some (.map #[] 0) ∧ bt ≠ bf ∧ n ≤ bc ∧ n ≤ bm ∧ n ≤ bt ∧ n ≤ bf ∧ n ≤ p) ∧
  (i = 11 → v = .int .i64 0)
theorem NP.keep {n : Nat} {A0 : Option Addr} {c0 : Nat} {ps : List Int} {i : Nat} {v : Value} {w w' : World} (k : Fr none_ w w') (h : NP n A0 c0 ps i v w) : NP n A0 c0 ps i v w' := by
  have hm : ∀ b : Nat, w.heap[b]? = some (Obj.map #[] 0) → w'.heap[b]? = some (Obj.map #[] 0) := fun b hb => (k.block b (heap_lt hb) (fun h => h)).trans hb
  obtain ⟨g1, g2, g2a, g3, g4, g5, g6, g7, g8⟩ := h
  refine ⟨g1, g2, fun e => ?_, fun e => ?_, fun e => ?_, fun e => ?_, fun e => ?_, fun e => ?_, g8⟩
  · obtain ⟨pa, pc, h1, h2⟩ := g2a e; exact ⟨pa, pc, h1, h2.keep k (fun _ _ h => h)⟩
  · obtain ⟨b, h1, h2, h3⟩ := g3 e; exact ⟨b, h1, h2.keep k (fun h => h), h3⟩
  · obtain ⟨b, h1, h2, h3⟩ := g4 e; exact ⟨b, h1, h2.keep k (fun h => h), h3⟩
  · obtain ⟨b, h1, h2, h3⟩ := g5 e; exact ⟨b, h1, hm b h2, h3⟩
  · obtain ⟨pa, pc, bc, bm, bt, bf, h1, h1a, h2, h3, h4, h5, h6⟩ := g6 e; exact ⟨pa, pc, bc, bm, bt, bf, h1, h1a.keep k (fun _ _ h => h), h2.keep k (fun h => h), h3.keep k (fun h => h), hm _ h4, hm _ h5, h6⟩
  · obtain ⟨p, pa, pc, bc, bm, bt, bf, h0, h1, h1a, h2, h3, h4, h5, h6⟩ := g7 e; exact ⟨p, pa, pc, bc, bm, bt, bf, h0, h1.keep k (fun h => h), h1a.keep k (fun _ _ h => h), h2.keep k (fun h => h), h3.keep k (fun h => h), hm _ h4, hm _ h5, h6⟩
structure NIP (w0 : World) (A0 : Option Addr) (c0 : Nat) (ps : List Int) (listed : Array Bool) (a : Act) (w : World) : Prop where
  sz : a.tmps.size = 38
  df : a.defers = []
  len : listed.size = 12
  t0 : a.eval (.tmp 0) = .slice A0 ps.length c0
  t6 : a.eval (.tmp 6) = .int .i64 ((ps.length : Int) + 1)
  done : ∀ i, i < 12 → listed.getD i false = true → NP w0.heap.size A0 c0 ps i (a.eval (.tmp (nslot i))) w
  ne : listed.getD 6 false = true → listed.getD 7 false = true → ∀ b c, a.eval (.tmp 34) = .map (some b) → a.eval (.tmp 35) = .map (some c) → b ≠ c
  fr : Fr none_ w0 w
theorem NIP.step {w0 : World} {A0 : Option Addr} {c0 : Nat} {ps : List Int} {listed : Array Bool} {a : Act} {w w' : World} {i : Nat} {v : Value} (h : NIP w0 A0 c0 ps listed a w) (hi : i < 12) (k : Fr none_ w w') (hv : NP w0.heap.size A0 c0 ps i v w')
    (hne : i = 6 ∨ i = 7 → ∀ b, v = .map (some b) → b = w.heap.size) : NIP w0 A0 c0 ps (listed.setIfInBounds i true) (a.put (some (nslot i)) v) w' := by
  have hns : nslot i < 38 := by unfold nslot; split <;> omega
  have h0 : nslot i ≠ 0 := by unfold nslot; split <;> omega
  have h6 : nslot i ≠ 6 := by unfold nslot; split <;> omega
  refine { sz := by simp [Act.put, h.sz], df := by simp [Act.put, h.df], len := by simp [h.len], t0 := by rw [eval_put_ne _ _ _ _ h0]; exact h.t0, t6 := by rw [eval_put_ne _ _ _ _ h6]; exact h.t6, done := fun j hj hl => ?_, ne := fun l6 l7 b c e6 e7 => ?_, fr := h.fr.trans k }
  · by_cases e : i = j
    · subst e
      rw [eval_put_same _ _ _ (by rw [h.sz]; exact hns)]
      exact hv
    · rw [getD_set_ne false e] at hl
      have hs : nslot i ≠ nslot j := by unfold nslot; split <;> split <;> omega
      rw [eval_put_ne _ _ _ _ hs]
      exact (h.done j hj hl).keep k
  · by_cases i6 : i = 6
    · subst i6
      have e1 := eval_put_same a 34 v (by rw [h.sz]; omega)
      rw [show nslot 6 = 34 from rfl, e1] at e6
      rw [show nslot 6 = 34 from rfl, eval_put_ne _ _ _ _ (by omega)] at e7
      rw [getD_set_ne false (by omega)] at l7
      obtain ⟨c', hc1, hc2, _⟩ := (h.done 7 (by omega) l7).2.2.2.2.2.1 (.inr rfl)
      rw [show nslot 7 = 35 from rfl, e7] at hc1
      injection hc1 with hc1
      injection hc1 with hc1
      subst hc1
      have := hne (.inl rfl) b e6
      have := heap_lt hc2
      omega
    · by_cases i7 : i = 7
      · subst i7
        have e1 := eval_put_same a 35 v (by rw [h.sz]; omega)
        rw [show nslot 7 = 35 from rfl, e1] at e7
        rw [show nslot 7 = 35 from rfl, eval_put_ne _ _ _ _ (by omega)] at e6
        rw [getD_set_ne false (by omega)] at l6
        obtain ⟨c', hc1, hc2, _⟩ := (h.done 6 (by omega) l6).2.2.2.2.2.1 (.inl rfl)
        rw [show nslot 6 = 34 from rfl, e6] at hc1
        injection hc1 with hc1
        injection hc1 with hc1
        subst hc1
        have := hne (.inr rfl) c e7
        have := heap_lt hc2
        omega
      · rw [getD_set_ne false i6] at l6
        rw [getD_set_ne false i7] at l7
        have s6 : nslot i ≠ 34 := by unfold nslot; split <;> omega
        have s7 : nslot i ≠ 35 := by unfold nslot; split <;> omega
        rw [eval_put_ne _ _ _ _ s6] at e6
        rw [eval_put_ne _ _ _ _ s7] at e7
        exact h.ne l6 l7 b c e6 e7
set_option maxRecDepth 100000 in
set_option maxHeartbeats 4000000 in
theorem newP_yes (A0 : Option Addr) (c : Nat) (ps : List Int) (w : World) (hA : A0 = none → ps = []) (hr : RdI w A0 ps) (hl : ps.length < 16) (hv : ∀ i (h : i < ps.length), 0 ≤ ps[i] ∧ ps[i] ≤ i) :
    Calls Tryz.prog 29 #[.slice A0 ps.length c] w (NewPOut w ps) := by
  have hms : ∀ W : World, (Instr.makeSlice 33 (.int .i64 ((ps.length : Int) + 1)) (.int .i64 ((ps.length : Int) + 1))).run Tryz.prog W = .ok (.slice (some ⟨W.heap.size, 0, none⟩) (ps.length + 1) (ps.length + 1)) (W.alloc (.cells (falses (ps.length + 1)).toArray 4)) := make_bools (ps.length + 1) (by omega)
  have hmi : ∀ W : World, (Instr.makeSlice 36 (.int .i64 ((ps.length : Int) + 1)) (.int .i64 ((ps.length : Int) + 1))).run Tryz.prog W = .ok (.slice (some ⟨W.heap.size, 0, none⟩) (ps.length + 1) (ps.length + 1)) (W.alloc (.cells (zeros (ps.length + 1)).toArray 3)) := make_ints (ps.length + 1) (by omega)
  have hm1 : ∀ W : World, (Instr.makeMap 34 none).run Tryz.prog W = .ok (.map (some W.heap.size)) (W.alloc (.map #[] 0)) := fun W => by kernel_rfl
  have hm2 : ∀ W : World, (Instr.makeMap 35 none).run Tryz.prog W = .ok (.map (some W.heap.size)) (W.alloc (.map #[] 0)) := fun W => by kernel_rfl
  have hbd : ∀ (W : World) (pa : Option Addr) (n m pc a b c d : Nat), (Instr.build 38 #[(0, .slice pa n pc), (1, .slice (some ⟨a, 0, none⟩) m m), (5, .slice (some ⟨b, 0, none⟩) m m), (2, .map (some c)), (3, .map (some d))]).run Tryz.prog W = .ok (.agg #[.slice pa n pc, .slice (some ⟨a, 0, none⟩) m m, .map (some c), .map (some d), .int .i64 0, .slice (some ⟨b, 0, none⟩) m m]) W := fun W pa n m pc a b c d => by kernel_rfl
  have hnv : ∀ (W : World) (pa : Option Addr) (n m pc a b c d : Nat), (Instr.box 38 (.agg #[.slice pa n pc, .slice (some ⟨a, 0, none⟩) m m, .map (some c), .map (some d), .int .i64 0, .slice (some ⟨b, 0, none⟩) m m])).run Tryz.prog W = .ok (.pointer (some ⟨W.heap.size, 0, none⟩)) (W.alloc (.cells #[.slice pa n pc, .slice (some ⟨a, 0, none⟩) m m, .map (some c), .map (some d), .int .i64 0, .slice (some ⟨b, 0, none⟩) m m] 38)) := fun W pa n m pc a b c d => by kernel_rfl
  have HMS := Lib.hid hms; clear hms
  have HMI := Lib.hid hmi; clear hmi
  have HM1 := Lib.hid hm1; clear hm1
  have HM2 := Lib.hid hm2; clear hm2
  have HBD := Lib.hid hbd; clear hbd
  have HNV := Lib.hid hnv; clear hnv
  have HV := Lib.hid hv; clear hv
  have HR := Lib.hid hr; clear hr
  have HA := Lib.hid hA; clear hA
  have dl : decide ((ps.length : Int) ≥ 16) = false := by simp; omega
  go_enter Tryz.func29, Tryz.ntmps29
  go_wp2
  go_loop [12] (fun i => ∃ k : Nat, k ≤ ps.length ∧ i = .int .i64 k) (fun i => ps.length - (intOf i).toNat)
  case atStart => exact ⟨0, Nat.zero_le _, rfl⟩
  case round =>
    obtain ⟨k, hk, rfl⟩ := hrel
    by_cases hlt : k < ps.length
    · obtain ⟨b, o, he, hc⟩ := HR.out k hlt
      subst he
      have hv := HV.out k hlt
      have d1 : decide (ps[k] < 0) = false := by simp; omega
      have d2 : decide (ps[k] > (k : Int)) = false := by simp; omega
      go_wp2
      go_round
      case rel => exact ⟨k + 1, by omega, by go_num⟩
      case measure => simp [intOf]; omega
    · obtain rfl : k = ps.length := by omega
      clear hk hlt
      go_wp2
      refine wp_region_inv (by kernel_rfl) (NIP w A0 c ps) ?_ ?_ ?_
      · exact { sz := rfl, df := rfl, len := rfl, t0 := rfl, t6 := rfl, done := fun i hi hl => (by rw [rep_false] at hl; cases hl), ne := fun h6 => (by rw [rep_false] at h6; cases h6), fr := (Fr.refl _ _).drew }
      · intro listed a w' i h hi
        obtain ⟨h0, o, ho, hd⟩ := mem_ready.1 hi
        have hlt : i < 12 := (Array.getElem?_eq_some_iff.1 ho).1
        have hcase : i = 0 ∨ i = 1 ∨ i = 2 ∨ i = 3 ∨ i = 4 ∨ i = 5 ∨ i = 6 ∨ i = 7 ∨ i = 8 ∨ i = 9 ∨ i = 10 ∨ i = 11 := by omega
        have hsz := h.fr.size
        rcases hcase with rfl | rfl | rfl | rfl | rfl | rfl | rfl | rfl | rfl | rfl | rfl | rfl
        · obtain rfl := Option.some.inj ho
          refine wpOp_step rfl (fun K hK => op_value rfl (v := .slice A0 ps.length c) (w' := w') ?_ (hK _ _ (h.step (i := 0) hlt (Fr.refl _ _) (by unfold NP; simp) (fun e => by omega))))
          simp [execOp, h.t0]
        · obtain rfl := Option.some.inj ho
          have l0 : listed.getD 0 false = true := hd { on := 0, ground := .data } (by simp) rfl
          have e28 : a.eval (.tmp 28) = .slice A0 ps.length c := (h.done 0 (by omega) l0).1 rfl
          refine wpOp_step rfl (fun K hK => ?_)
          refine step_call' rfl (.func 58) _ _ 58 _ #[] #[.slice A0 ps.length c] rfl rfl Tryz.func58 (by kernel_rfl) rfl (by simp [e28]) (clone_side A0 c ps w' HA.out (HR.out.keep h.fr (fun _ _ _ h => h)) (by omega)) ?_
          rintro e w'' ⟨v, rfl, hown, hf⟩
          refine ⟨_, rfl, hK _ _ (h.step (i := 1) hlt hf ⟨fun e => by omega, fun e => by omega, fun _ => ?_, fun e => by omega, fun e => by omega, fun e => by omega, fun e => by omega, fun e => by omega, fun e => by omega⟩ (fun e => by omega))⟩
          obtain ⟨pa, pc, rfl, _⟩ := hown.rd
          exact ⟨pa, pc, rfl, ownsRow_base hown hsz⟩
        · obtain rfl := Option.some.inj ho
          refine wpOp_step rfl (fun K hK => op_value rfl (v := .int .i64 ((ps.length : Int) + 1)) (w' := w') ?_ (hK _ _ (h.step (i := 2) hlt (Fr.refl _ _) (by unfold NP; simp) (fun e => by omega))))
          simp [execOp, h.t6]
        · obtain rfl := Option.some.inj ho
          have l2 : listed.getD 2 false = true := hd { on := 2, ground := .data } (by simp) rfl
          have e30 : a.eval (.tmp 30) = .int .i64 ((ps.length : Int) + 1) := (h.done 2 (by omega) l2).2.1 (.inl rfl)
          refine wpOp_step rfl (fun K hK => op_value rfl (v := .slice (some ⟨w'.heap.size, 0, none⟩) (ps.length + 1) (ps.length + 1)) (w' := w'.alloc (.cells (falses (ps.length + 1)).toArray 4)) ?_ (hK _ _ (h.step (i := 3) hlt ((Fr.refl _ _).alloc _) ⟨fun e => by omega, fun e => by omega, fun e => by omega, fun _ => ⟨_, rfl, Blk.new _ _ _, hsz⟩, fun e => by omega, fun e => by omega, fun e => by omega, fun e => by omega, fun e => by omega⟩ (fun e => by omega))))
          simp [execOp, e30, HMS.out, Result.andThen]
        · obtain rfl := Option.some.inj ho
          refine wpOp_step rfl (fun K hK => op_value rfl (v := .int .i64 ((ps.length : Int) + 1)) (w' := w') ?_ (hK _ _ (h.step (i := 4) hlt (Fr.refl _ _) (by unfold NP; simp) (fun e => by omega))))
          simp [execOp, h.t6]
        · obtain rfl := Option.some.inj ho
          have l4 : listed.getD 4 false = true := hd { on := 4, ground := .data } (by simp) rfl
          have e32 : a.eval (.tmp 32) = .int .i64 ((ps.length : Int) + 1) := (h.done 4 (by omega) l4).2.1 (.inr rfl)
          refine wpOp_step rfl (fun K hK => op_value rfl (v := .slice (some ⟨w'.heap.size, 0, none⟩) (ps.length + 1) (ps.length + 1)) (w' := w'.alloc (.cells (zeros (ps.length + 1)).toArray 3)) ?_ (hK _ _ (h.step (i := 5) hlt ((Fr.refl _ _).alloc _) ⟨fun e => by omega, fun e => by omega, fun e => by omega, fun e => by omega, fun _ => ⟨_, rfl, Blk.new _ _ _, hsz⟩, fun e => by omega, fun e => by omega, fun e => by omega, fun e => by omega⟩ (fun e => by omega))))
          simp [execOp, e32, HMI.out, Result.andThen]
        · obtain rfl := Option.some.inj ho
          refine wpOp_step rfl (fun K hK => op_value rfl (v := .map (some w'.heap.size)) (w' := w'.alloc (.map #[] 0)) ?_ (hK _ _ (h.step (i := 6) hlt ((Fr.refl _ _).alloc _) ⟨fun e => by omega, fun e => by omega, fun e => by omega, fun e => by omega, fun e => by omega, fun _ => ⟨_, rfl, heap_alloc_new _ _, hsz⟩, fun e => by omega, fun e => by omega, fun e => by omega⟩ (fun e b hb => by injection hb with hb; injection hb with hb; exact hb.symm))))
          simp [execOp, HM1.out, Result.andThen]
        · obtain rfl := Option.some.inj ho
          refine wpOp_step rfl (fun K hK => op_value rfl (v := .map (some w'.heap.size)) (w' := w'.alloc (.map #[] 0)) ?_ (hK _ _ (h.step (i := 7) hlt ((Fr.refl _ _).alloc _) ⟨fun e => by omega, fun e => by omega, fun e => by omega, fun e => by omega, fun e => by omega, fun _ => ⟨_, rfl, heap_alloc_new _ _, hsz⟩, fun e => by omega, fun e => by omega, fun e => by omega⟩ (fun e b hb => by injection hb with hb; injection hb with hb; exact hb.symm))))
          simp [execOp, HM2.out, Result.andThen]
        · obtain rfl := Option.some.inj ho
          have l1 : listed.getD 1 false = true := hd { on := 1, ground := .data } (by simp) rfl
          have l3 : listed.getD 3 false = true := hd { on := 3, ground := .data } (by simp) rfl
          have l5 : listed.getD 5 false = true := hd { on := 5, ground := .data } (by simp) rfl
          have l6 : listed.getD 6 false = true := hd { on := 6, ground := .data } (by simp) rfl
          have l7 : listed.getD 7 false = true := hd { on := 7, ground := .data } (by simp) rfl
          obtain ⟨pa, pc, e29, hown⟩ := (h.done 1 (by omega) l1).2.2.1 rfl
          obtain ⟨bc, e31, hbc, nbc⟩ := (h.done 3 (by omega) l3).2.2.2.1 rfl
          obtain ⟨bm, e33, hbm, nbm⟩ := (h.done 5 (by omega) l5).2.2.2.2.1 rfl
          obtain ⟨bt, e34, hbt, nbt⟩ := (h.done 6 (by omega) l6).2.2.2.2.2.1 (.inl rfl)
          obtain ⟨bf, e35, hbf, nbf⟩ := (h.done 7 (by omega) l7).2.2.2.2.2.1 (.inr rfl)
          rw [e29] at hown
          simp only [show nslot 1 = 29 from rfl, show nslot 3 = 31 from rfl, show nslot 5 = 33 from rfl, show nslot 6 = 34 from rfl, show nslot 7 = 35 from rfl] at e29 e31 e33 e34 e35
          have hne := h.ne l6 l7 bt bf e34 e35
          refine wpOp_step rfl (fun K hK => op_value rfl (v := .agg #[.slice pa ps.length pc, .slice (some ⟨bc, 0, none⟩) (ps.length + 1) (ps.length + 1), .map (some bt), .map (some bf), .int .i64 0, .slice (some ⟨bm, 0, none⟩) (ps.length + 1) (ps.length + 1)]) (w' := w') ?_ (hK _ _ (h.step (i := 8) hlt (Fr.refl _ _) ⟨fun e => by omega, fun e => by omega, fun e => by omega, fun e => by omega, fun e => by omega, fun e => by omega, fun _ => ⟨pa, pc, bc, bm, bt, bf, rfl, hown, hbc, hbm, hbt, hbf, hne, nbc, nbm, nbt, nbf⟩, fun e => by omega, fun e => by omega⟩ (fun e => by omega))))
          simp [execOp, e29, e31, e33, e34, e35, HBD.out, Result.andThen]
        · obtain rfl := Option.some.inj ho
          have l8 : listed.getD 8 false = true := hd { on := 8, ground := .data } (by simp) rfl
          obtain ⟨pa, pc, bc, bm, bt, bf, e36, hown, hbc, hbm, hbt, hbf, hne, nbc, nbm, nbt, nbf⟩ := (h.done 8 (by omega) l8).2.2.2.2.2.2.1 rfl
          simp only [show nslot 8 = 36 from rfl] at e36
          have hk : ∀ o, Fr none_ w' (w'.alloc o) := fun o => (Fr.refl _ _).alloc o
          refine wpOp_step rfl (fun K hK => op_value rfl (v := .pointer (some ⟨w'.heap.size, 0, none⟩)) (w' := w'.alloc (.cells #[.slice pa ps.length pc, .slice (some ⟨bc, 0, none⟩) (ps.length + 1) (ps.length + 1), .map (some bt), .map (some bf), .int .i64 0, .slice (some ⟨bm, 0, none⟩) (ps.length + 1) (ps.length + 1)] 38)) ?_ (hK _ _ (h.step (i := 9) hlt (hk _) ⟨fun e => by omega, fun e => by omega, fun e => by omega, fun e => by omega, fun e => by omega, fun e => by omega, fun e => by omega, fun _ => ⟨w'.heap.size, pa, pc, bc, bm, bt, bf, rfl, Blk.new _ _ _, hown.keep (hk _) (fun _ _ h => h), hbc.alloc _, hbm.alloc _, ((hk _).block bt (heap_lt hbt) (fun h => h)).trans hbt, ((hk _).block bf (heap_lt hbf) (fun h => h)).trans hbf, hne, nbc, nbm, nbt, nbf, hsz⟩, fun e => by omega⟩ (fun e => by omega))))
          simp [execOp, e36, HNV.out, Result.andThen]
        · obtain rfl := Option.some.inj ho
          have l9 : listed.getD 9 false = true := hd { on := 9, ground := .data } (by simp) rfl
          obtain ⟨p, pa, pc, bc, bm, bt, bf, e37, hp, hown, hbc, hbm, hbt, hbf, hne, nbc, nbm, nbt, nbf, np⟩ := (h.done 9 (by omega) l9).2.2.2.2.2.2.2.1 (.inl rfl)
          simp only [show nslot 9 = 37 from rfl] at e37
          refine wpOp_step rfl (fun K hK => op_value rfl (v := .pointer (some ⟨p, 0, none⟩)) (w' := w') ?_ (hK _ _ (h.step (i := 10) hlt (Fr.refl _ _) ⟨fun e => by omega, fun e => by omega, fun e => by omega, fun e => by omega, fun e => by omega, fun e => by omega, fun e => by omega, fun _ => ⟨p, pa, pc, bc, bm, bt, bf, rfl, hp, hown, hbc, hbm, hbt, hbf, hne, nbc, nbm, nbt, nbf, np⟩, fun e => by omega⟩ (fun e => by omega))))
          simp [execOp, e37]
        · obtain rfl := Option.some.inj ho
          refine wpOp_step rfl (fun K hK => op_value rfl (v := .int .i64 0) (w' := w') ?_ (hK _ _ (h.step (i := 11) hlt (Fr.refl _ _) (by unfold NP; simp) (fun e => by omega))))
          simp [execOp, Act.eval]
      · intro listed a w' h hr
        have hall := all_listed (by kernel_rfl) h.len hr 12
        obtain ⟨p, pa, pc, bc, bm, bt, bf, e2, hp, hown, hbc, hbm, hbt, hbf, hne, nbc, nbm, nbt, nbf, np⟩ := (h.done 10 (by omega) (hall 10 (by omega) (by decide))).2.2.2.2.2.2.2.1 (.inr rfl)
        have e3 := (h.done 11 (by omega) (hall 11 (by omega) (by decide))).2.2.2.2.2.2.2.2 rfl
        simp only [show nslot 10 = 2 from rfl, show nslot 11 = 3 from rfl] at e2 e3
        have hdd : ∀ i, pa = some ⟨i, 0, none⟩ → w.heap.size ≤ i := by
          intro i hi
          rcases hown.2 with h | ⟨g, cap, cur, he, hg, _⟩
          · have := h.1; injection this with e _ _; rw [e] at hi; cases hi
          · injection he with e _ _; rw [e] at hi; injection hi with hi; injection hi with hi; omega
        have hout : NewPOut w ps (.returned (.tuple #[.pointer (some ⟨p, 0, none⟩), .int .i64 0])) w' := ⟨_, _, p, pa, pc, bc, bt, bf, bm, rfl, newP_rep hl hown hp hbc hbm hbt hbf hne, h.fr, by rintro i (rfl | rfl | rfl | rfl | rfl) <;> assumption, hdd⟩
        have hdf := h.df
        have HOUT := Lib.hid hout; clear hout
        have HH := Lib.hid h; clear h
        clear hr hall hp hbc hbm hbt hbf hne hown hdd
        go_wp2
        refine bodyPost_ret ?_ hdf HOUT.out
        have f2 : a.tmps[2]?.getD undef = .pointer (some ⟨p, 0, none⟩) := by simpa [Act.eval] using e2
        have f3 : a.tmps[3]?.getD undef = .int .i64 0 := by simpa [Act.eval] using e3
        have hrs := results_tmp2 (fn := Tryz.f29) (t := 2) (u := 3) rfl a.tmps Tryz.prog w'
        simpa [f2, f3] using hrs
end Go.Proofs.YtkiinokhdmmagaaGreat
