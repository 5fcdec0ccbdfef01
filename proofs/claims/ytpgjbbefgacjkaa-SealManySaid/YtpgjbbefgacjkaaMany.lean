/- 'Pair' with too little room; 'Len' of package world. -/
import Derived.Test.YtpgjbbefgacjkaaSeal2
import Derived.Test.YtpgjbbefgacjkaaNewP
namespace Go.Proofs.Ytpgjbbefgacjkaa
open Go.RowKit
set_option linter.unusedSimpArgs false
set_option linter.unusedVariables false
set_option linter.unusedSectionVars false
section
variable {w : World} {p : Nat} {W : AW} {M D : Nat → Prop} {pa : Option Addr} {pc bc bt bf bm ck fk : Nat} {L : List (Int × Nat × Nat)} {FL : List ((Int × Int) × Int × Nat)}
set_option maxRecDepth 100000 in
set_option maxHeartbeats 4000000 in
theorem pair_full (h : RepW w p W M D pa pc bc bt bf bm ck fk L FL) (s : Int) (hs : sideB W s = true) (hm : 512 < madeOf W s + 2) :
    Calls Try.prog 9 #[.pointer (some ⟨p, 0, none⟩), .int .i64 s] w (Same (.tuple #[.int .i64 0, .int .i64 0, .int .i64 8]) w) := by
  obtain ⟨hh0, hh1⟩ := (sideB_iff h s).1 hs
  have hmb := made_bounds h s
  have hd1 : decide (s < 0) = false := by simpa using hh0
  have hd2 : decide (s ≥ (W.made.length : Int)) = false := by simpa using hh1
  have hd3 : decide (madeOf W s + 2 > 512) = true := by simpa using hm
  have hmb0 := hmb.1
  have hmb1 := hmb.2
  clear hmb hm
  have H := Lib.hid h; clear h
  have HS := Lib.hid hs; clear hs
  go_enter Try.func9, Try.ntmps9
  go_wp2_with fail
  refine (sthere_any H.out).mono ?_
  rintro e w1 ⟨rfl, rfl⟩
  go_wp2_with fail
  refine (sides_any H.out).mono ?_
  rintro e w2 ⟨rfl, rfl⟩
  go_wp2_with fail
  refine (made_any H.out s).mono ?_
  rintro e w ⟨rfl, rfl⟩
  go_wp2
  go_ret3
  exact ⟨rfl, rfl⟩
theorem run_len_m {t k e ty : TypeId} (ht : Try.prog.underlying t = some (.map k e)) {b : Nat} {es : Array MapEntry} {clock : Nat} {w : World} (hb : w.heap[b]? = some (.map es clock)) :
    (Builtin.len_ #[t] ty #[.map (some b)]).run Try.prog w = .ok (.int .i64 es.size) w := by
  simp [Builtin.len_, run_underlying ht, run_getObj_map w b es clock hb, goInt]
theorem RepW.count (h : RepW w p W M D pa pc bc bt bf bm ck fk L FL) : L.length = W.things.length := by
  have := h.perm.length_eq
  simpa using this
set_option maxRecDepth 100000 in
set_option maxHeartbeats 1000000 in
theorem len_any (h : RepW w p W M D pa pc bc bt bf bm ck fk L FL) : Calls Try.prog 12 #[.pointer (some ⟨p, 0, none⟩)] w (Same (.int .i64 (W.things.length : Int)) w) := by
  have c2 := h.c2
  have hlen : ∀ ty, (Builtin.len_ #[59] ty #[.map (some bt)]).run Try.prog w = .ok (.int .i64 (W.things.length : Int)) w := by
    intro ty
    have := run_len_m (ty := ty) Try.underlying59 h.mapB
    rw [this, ← h.count]
    simp
  clear h
  go_enter Try.func12, Try.ntmps12
  go_wp2_with (refine (none_any p bt w c2).mono ?_; rintro e w' ⟨rfl, rfl⟩)
  go_ret
  exact ⟨rfl, rfl⟩
end

/-! ### The world of 'SealMany', after k boxes -/
def boxes : Nat → AW → AW
  | 0, W => W
  | k + 1, W => boxes k (W.lay (xOf 7 0 1 V.zero))
/-- What the loop keeps. -/
structure Mny (W : AW) (m : Nat) : Prop where
  ok : W.Ok
  a1 : W.at_ 1 = some (xOf 5 0 0 V.zero)
  made : W.made = [(m : Int), 0]
  n : W.things.length = m
  pos : 1 ≤ W.last
theorem zeroV_cells : V.zero.cells none 0 = [.int .u8 0, .int .i64 0, .string ⟨#[]⟩, .slice none 0 0, .int .i64 0] := rfl
theorem Mny.side {W : AW} {m : Nat} (h : Mny W m) : sideB W 0 = true := by unfold sideB; rw [h.made]; rfl
theorem Mny.madeOf {W : AW} {m : Nat} (h : Mny W m) : madeOf W 0 = m := by unfold Go.Proofs.Ytpgjbbefgacjkaa.madeOf; rw [if_pos h.side, h.made]; rfl
theorem Mny.next {W : AW} {m : Nat} (h : Mny W m) (hlow : ∀ t, t ∈ W.things → t.1 ≤ W.last) : Mny (W.lay (xOf 7 0 1 V.zero)) (m + 1) := by
  refine ⟨h.ok.lay (xOf_plain _ _ _ _) may_zero h.pos, ?_, ?_, ?_, ?_⟩
  · rw [at_lay _ hlow, if_neg (by have := h.pos; omega)]; exact h.a1
  · show W.made.set 0 (W.made.getD 0 0 + 1) = _
    rw [h.made]
    simp
  · show (W.things ++ [_]).length = _
    simp [h.n]
  · show 1 ≤ W.last + 1
    have := h.pos
    omega
theorem many_first : Mny ((AW.newP [0]).pair 0) 2 := by
  have h0 : (AW.newP [0]).Ok := ⟨fun t h => absurd h (List.not_mem_nil), fun t h => absurd h (List.not_mem_nil)⟩
  refine ⟨?_, rfl, rfl, rfl, by decide⟩
  unfold AW.pair
  exact (h0.lay (xOf_plain _ _ _ _) may_zero (by decide)).lay (xOf_plain _ _ _ _) may_zero (Int.le_refl _)
end Go.Proofs.Ytpgjbbefgacjkaa
