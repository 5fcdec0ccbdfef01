/- Looking things up in the map of a world; the short readers of package world. -/
import Derived.Test.YtpgjbbefgacjkaaThing
import Derived.Test.YtpgjbbefgacjkaaProg
import Derived.WalkSpells
namespace Go.Proofs.Ytpgjbbefgacjkaa
open Go.RowKit
set_option linter.unusedSimpArgs false
set_option linter.unusedVariables false
set_option linter.unusedSectionVars false

theorem findNow_ints (kk : IntKind) (k : Int) : ∀ (L : List (Int × Nat × Nat)) (i : Nat), Instr.findNow (.int kk) (.int .i64 k) (L.map ent) i = some ((L.zipIdx i).find? (fun e => e.1.1 == k) |>.map fun e => (e.2, Value.pointer (some ⟨e.1.2.1, 0, none⟩)))
  | [], i => by simp [Instr.findNow]
  | e :: L, i => by
    simp only [List.map_cons, Instr.findNow, Instr.sameNow, if_true, List.zipIdx_cons]
    by_cases h : k = e.1
    · subst h; simp
    · have h1 : (k == e.1) = false := by simpa using h
      have h2 : (e.1 == k) = false := by simpa using fun e => h e.symm
      simp only [h1, List.find?_cons, h2]
      exact findNow_ints kk k L (i + 1)
theorem find_zipIdx (k : Int) : ∀ (L : List (Int × Nat × Nat)) (i : Nat), ((L.zipIdx i).find? (fun e => e.1.1 == k)).map (fun e => e.1.2.1) = blkOf L k
  | [], i => rfl
  | e :: L, i => by
    unfold blkOf
    simp only [List.zipIdx_cons, List.find?_cons]
    by_cases h : (e.1 == k) = true
    · simp [h]
    · simp only [h]
      exact find_zipIdx k L (i + 1)
theorem checkKey_Ref (b : Bool) (k : Int) (W : World) : (Instr.checkKey b 10000 28 (.int .i64 k)).run Try.prog W = .ok () W := by
  have : (10000 : Nat) = 9999 + 1 := rfl
  rw [this]
  unfold Instr.checkKey
  simp [run_underlying Try.underlying28]
theorem zero_PWhat (W : World) : (zeroValue 96).run Try.prog W = .ok (.pointer none) W := by kernel_rfl
/-- 'w.things[r]' -/
theorem run_things {W : World} {bt ck : Nat} {L : List (Int × Nat × Nat)} (h : W.heap[bt]? = some (.map (L.map ent).toArray ck)) (r : Int) :
    (Instr.lookup 59 (.map (some bt)) (.int .i64 r) false).run Try.prog W = .ok (.pointer ((blkOf L r).map fun b => ⟨b, 0, none⟩)) W := by
  have hk := findNow_ints .i64 r L 0
  have hz := find_zipIdx r L 0
  unfold Instr.lookup
  simp only [Sem.run_bind, run_underlying Try.underlying59, Result.andThen_ok]
  simp only [run_getObj_map W bt _ ck h, Sem.run_bind, Result.andThen_ok, Sem.run_pure, checkKey_Ref]
  unfold Instr.findKey
  simp only [Sem.run_bind, run_underlying Try.underlying28, Result.andThen_ok, hk]
  cases hf : (L.zipIdx 0).find? (fun e => e.1.1 == r) with
  | none =>
    rw [hf] at hz
    simp only [Option.map_none] at hz
    simp [← hz, zero_PWhat]
  | some e =>
    rw [hf] at hz
    simp only [Option.map_some] at hz
    simp [← hz]
theorem pairwise_unique {l : List (Int × X)} (h : l.Pairwise fun a b => a.1 < b.1) {r : Int} {x y : X} (hx : (r, x) ∈ l) (hy : (r, y) ∈ l) : x = y := by
  induction l with
  | nil => cases hx
  | cons a l ih =>
    obtain ⟨h1, h2⟩ := List.pairwise_cons.1 h
    rcases List.mem_cons.1 hx with e1 | hx <;> rcases List.mem_cons.1 hy with e2 | hy
    · rw [← e1] at e2; injection e2 with _ e2; exact e2.symm
    · have := h1 _ hy; rw [← e1] at this; simp at this
    · have := h1 _ hx; rw [← e2] at this; simp at this
    · exact ih h2 hx hy
theorem at_of_mem {W : AW} (h : W.things.Pairwise fun a b => a.1 < b.1) {r : Int} {x : X} (hx : (r, x) ∈ W.things) : W.at_ r = some x := by
  unfold AW.at_
  cases hf : W.things.find? (fun t => t.1 == r) with
  | none =>
    have := List.find?_eq_none.1 hf (r, x) hx
    simp at this
  | some t =>
    have h1 := List.mem_of_find?_eq_some hf
    have h2 : t.1 = r := by simpa using List.find?_some hf
    have : (r, t.2) ∈ W.things := by rw [← h2]; exact h1
    show some t.2 = some x
    rw [pairwise_unique h this hx]
theorem mem_of_at {W : AW} {r : Int} {x : X} (h : W.at_ r = some x) : (r, x) ∈ W.things := by
  unfold AW.at_ at h
  cases hf : W.things.find? (fun t => t.1 == r) with
  | none => rw [hf] at h; cases h
  | some t =>
    rw [hf] at h
    injection h with h
    have h1 := List.mem_of_find?_eq_some hf
    have h2 : t.1 = r := by simpa using List.find?_some hf
    subst h
    rw [← h2]
    exact h1
section
variable {w : World} {p : Nat} {W : AW} {M D : Nat → Prop} {pa : Option Addr} {pc bc bt bf bm ck fk : Nat} {L : List (Int × Nat × Nat)} {FL : List ((Int × Int) × Int × Nat)}
/-- A number names a thing, and its block is known; or none. -/
theorem RepW.look (h : RepW w p W M D pa pc bc bt bf bm ck fk L FL) (r : Int) :
    (W.at_ r = none ∧ blkOf L r = none) ∨ ∃ x b u, W.at_ r = some x ∧ blkOf L r = some b ∧ M b ∧ Blk w b (x.cells u) 69 ∧ RX w D True x u := by
  cases hf : L.find? (fun e => e.1 == r) with
  | none =>
    left
    refine ⟨?_, by unfold blkOf; rw [hf]; rfl⟩
    cases ha : W.at_ r with
    | none => rfl
    | some x =>
      have h1 := List.mem_map_of_mem (f := (·.1)) (mem_of_at ha)
      have h2 := h.perm.mem_iff.2 h1
      obtain ⟨e, he, hr⟩ := List.mem_map.1 h2
      have := List.find?_eq_none.1 hf e he
      simp at this
      exact absurd hr this
  | some e =>
    right
    have h1 := List.mem_of_find?_eq_some hf
    have h2 : e.1 = r := by simpa using List.find?_some hf
    obtain ⟨hm, x, u, hx, hb, hr⟩ := h.thing e.1 e.2.1 e.2.2 h1
    rw [h2] at hx
    exact ⟨x, e.2.1, u, at_of_mem h.rise hx, by unfold blkOf; rw [hf]; rfl, hm, hb, hr⟩
theorem RepW.c0 (h : RepW w p W M D pa pc bc bt bf bm ck fk L FL) : w.cell? ⟨p, 0, none⟩ = some (.slice pa W.parents.length pc) := h.str.cell 0
theorem RepW.c1 (h : RepW w p W M D pa pc bc bt bf bm ck fk L FL) : w.cell? ⟨p, 1, none⟩ = some (.slice (some ⟨bc, 0, none⟩) W.cut.length W.cut.length) := h.str.cell 1
theorem RepW.c2 (h : RepW w p W M D pa pc bc bt bf bm ck fk L FL) : w.cell? ⟨p, 2, none⟩ = some (.map (some bt)) := h.str.cell 2
theorem RepW.c3 (h : RepW w p W M D pa pc bc bt bf bm ck fk L FL) : w.cell? ⟨p, 3, none⟩ = some (.map (some bf)) := h.str.cell 3
theorem RepW.c4 (h : RepW w p W M D pa pc bc bt bf bm ck fk L FL) : w.cell? ⟨p, 4, none⟩ = some (.int .i64 W.last) := h.str.cell 4
theorem RepW.c5 (h : RepW w p W M D pa pc bc bt bf bm ck fk L FL) : w.cell? ⟨p, 5, none⟩ = some (.slice (some ⟨bm, 0, none⟩) W.made.length W.made.length) := h.str.cell 5
theorem RepW.madeAt (h : RepW w p W M D pa pc bc bt bf bm ck fk L FL) {s : Nat} (hs : s < W.made.length) : w.cell? ⟨bm, s, none⟩ = some (.int .i64 W.made[s]) := by
  rw [h.madeB.cell]; simp [rowI, List.getElem?_eq_getElem hs]
end
/-- Handed back, and nothing done. -/
def Same (v : Value) (w : World) (e : Ending) (w' : World) : Prop := e = .returned v ∧ w' = w
theorem mapnil (w : World) (r : Option Nat) : (binOp .eql 59 (.map r) (.map none)).run Try.prog w = .ok (.bool r.isNone) w := run_eql_map_nil w _ _ _ r Try.underlying59
set_option maxHeartbeats 400000 in
theorem none_any (p bt : Nat) (w : World) (c2 : w.cell? ⟨p, 2, none⟩ = some (.map (some bt))) : Calls Try.prog 35 #[.pointer (some ⟨p, 0, none⟩)] w (Same (.bool false) w) := by
  have hm := mapnil
  go_enter Try.func35, Try.ntmps35
  go_wp2
  go_ret
  exact ⟨rfl, rfl⟩
set_option maxHeartbeats 400000 in
theorem none_nil (w : World) : Calls Try.prog 35 #[.pointer none] w (Same (.bool true) w) := by
  go_enter Try.func35, Try.ntmps35
  go_wp2
  go_ret
  exact ⟨rfl, rfl⟩
set_option maxHeartbeats 400000 in
theorem none_empty (p : Nat) (w : World) (c2 : w.cell? ⟨p, 2, none⟩ = some (.map none)) : Calls Try.prog 35 #[.pointer (some ⟨p, 0, none⟩)] w (Same (.bool true) w) := by
  have hm := mapnil
  go_enter Try.func35, Try.ntmps35
  go_wp2
  go_ret
  exact ⟨rfl, rfl⟩
section
variable {w : World} {p : Nat} {W : AW} {M D : Nat → Prop} {pa : Option Addr} {pc bc bt bf bm ck fk : Nat} {L : List (Int × Nat × Nat)} {FL : List ((Int × Int) × Int × Nat)} (h : RepW w p W M D pa pc bc bt bf bm ck fk L FL)
include h
set_option maxHeartbeats 400000 in
theorem sides_any : Calls Try.prog 27 #[.pointer (some ⟨p, 0, none⟩)] w (Same (.int .i64 W.made.length) w) := by
  have c2 := h.c2
  have c5 := h.c5
  clear h
  go_enter Try.func27, Try.ntmps27
  go_wp2_with (refine (none_any p bt w c2).mono ?_; rintro e w' ⟨rfl, rfl⟩)
  go_ret
  exact ⟨rfl, rfl⟩
theorem sides_le : W.made.length ≤ 16 := h.sides.2.2
/-- Is there such a side? -/
def sideB (W : AW) (s : Int) : Bool := decide (0 ≤ s) && decide (s < W.made.length)
set_option maxHeartbeats 400000 in
theorem side_any (s : Int) : Calls Try.prog 29 #[.pointer (some ⟨p, 0, none⟩), .int .i64 s] w (Same (.bool (sideB W s)) w) := by
  by_cases h0 : 0 ≤ s
  · have H := Lib.hid h; clear h
    go_enter Try.func29, Try.ntmps29
    go_wp2_with (refine (sides_any H.out).mono ?_; rintro e w' ⟨rfl, rfl⟩)
    go_ret
    refine ⟨?_, rfl⟩
    unfold sideB
    simp [h0]
  · have h1 : decide (0 ≤ s) = false := by simpa using h0
    clear h
    go_enter Try.func29, Try.ntmps29
    go_wp2
    go_ret
    refine ⟨?_, rfl⟩
    unfold sideB
    simp [h1]
theorem sideB_iff (s : Int) : sideB W s = true ↔ 0 ≤ s ∧ s < W.made.length := by unfold sideB; simp
def madeOf (W : AW) (s : Int) : Int := if sideB W s = true then W.made.getD s.toNat 0 else 0
set_option maxHeartbeats 400000 in
theorem made_any (s : Int) : Calls Try.prog 10 #[.pointer (some ⟨p, 0, none⟩), .int .i64 s] w (Same (.int .i64 (madeOf W s)) w) := by
  cases hs : sideB W s with
  | false =>
    have H := Lib.hid h; clear h
    have HS := Lib.hid hs; clear hs
    go_enter Try.func10, Try.ntmps10
    go_wp2_with (refine (side_any H.out s).mono ?_; rintro e w' ⟨rfl, rfl⟩; rw [HS.out])
    go_ret
    refine ⟨?_, rfl⟩
    unfold madeOf
    rw [HS.out]
    rfl
  | true =>
    obtain ⟨h0, h1⟩ := (sideB_iff h s).1 hs
    obtain ⟨n, rfl⟩ := Int.eq_ofNat_of_zero_le h0
    have hn : n < W.made.length := by omega
    have hm := h.madeAt hn
    have c5 := h.c5
    have h16 := sides_le h
    have H := Lib.hid h; clear h
    have HS := Lib.hid hs; clear hs
    go_enter Try.func10, Try.ntmps10
    go_wp2_with (refine (side_any H.out n).mono ?_; rintro e w' ⟨rfl, rfl⟩; rw [HS.out])
    go_ret
    refine ⟨?_, rfl⟩
    unfold madeOf
    rw [HS.out]
    simp [List.getD_eq_getElem?_getD, List.getElem?_eq_getElem hn]
/-- The block of a thing, as the map gives it. -/
theorem look_run (r : Int) : (Instr.lookup 59 (.map (some bt)) (.int .i64 r) false).run Try.prog w = .ok (.pointer ((blkOf L r).map fun b => ⟨b, 0, none⟩)) w := run_things h.mapB r
set_option maxHeartbeats 400000 in
theorem is_any (r : Int) : Calls Try.prog 31 #[.pointer (some ⟨p, 0, none⟩), .int .i64 r] w (Same (.bool (W.at_ r).isSome) w) := by
  have c2 := h.c2
  have hl := look_run h r
  rcases h.look r with ⟨h1, h2⟩ | ⟨x, b, u, h1, h2, hm, hb, hx⟩
  all_goals
    rw [h2] at hl
    simp only [Option.map_none, Option.map_some] at hl
    have H1 := Lib.hid h1; clear h1
    clear h h2
    go_enter Try.func31, Try.ntmps31
    go_wp2_with (refine (none_any p bt w c2).mono ?_; rintro e w' ⟨rfl, rfl⟩)
    go_ret
    rw [H1.out]
    exact ⟨rfl, rfl⟩
def kindOf (W : AW) (r : Int) : Int := match W.at_ r with | some x => x.kind | none => 0
set_option maxHeartbeats 400000 in
theorem kind_any (r : Int) : Calls Try.prog 33 #[.pointer (some ⟨p, 0, none⟩), .int .i64 r] w (Same (.int .u8 (kindOf W r)) w) := by
  have c2 := h.c2
  have hl := look_run h r
  have hi := is_any h r
  rcases h.look r with ⟨h1, h2⟩ | ⟨x, b, u, h1, h2, hm, hb, hx⟩
  · rw [h2] at hl
    rw [h1] at hi
    simp only [Option.map_none] at hl
    have H1 := Lib.hid h1; clear h1
    have HI := Lib.hid hi; clear hi
    clear h h2
    go_enter Try.func33, Try.ntmps33
    go_wp2_with (refine HI.out.mono ?_; rintro e w' ⟨rfl, rfl⟩)
    go_ret
    unfold kindOf
    rw [H1.out]
    exact ⟨rfl, rfl⟩
  · rw [h2] at hl
    rw [h1] at hi
    simp only [Option.map_some] at hl
    have k0 : w.cell? ⟨b, 0, none⟩ = some (.int .u8 x.kind) := hb.cell 0
    have H1 := Lib.hid h1; clear h1
    have HI := Lib.hid hi; clear hi
    clear h h2 hb hx hm
    go_enter Try.func33, Try.ntmps33
    go_wp2_with (refine HI.out.mono ?_; rintro e w' ⟨rfl, rfl⟩)
    go_ret
    unfold kindOf
    rw [H1.out]
    exact ⟨rfl, rfl⟩
def homeOf (W : AW) (r : Int) : Int × Bool := match W.at_ r with | some x => if x.kind = 14 then (0, false) else (x.home, true) | none => (0, false)
set_option maxHeartbeats 400000 in
theorem home_any (r : Int) : Calls Try.prog 34 #[.pointer (some ⟨p, 0, none⟩), .int .i64 r] w (Same (.tuple #[.int .i64 (homeOf W r).1, .bool (homeOf W r).2]) w) := by
  have c2 := h.c2
  have hl := look_run h r
  have hi := is_any h r
  rcases h.look r with ⟨h1, h2⟩ | ⟨x, b, u, h1, h2, hm, hb, hx⟩
  · rw [h2] at hl
    rw [h1] at hi
    simp only [Option.map_none] at hl
    have H1 := Lib.hid h1; clear h1
    have HI := Lib.hid hi; clear hi
    clear h h2
    go_enter Try.func34, Try.ntmps34
    go_wp2_with (refine HI.out.mono ?_; rintro e w' ⟨rfl, rfl⟩)
    go_ret2
    unfold homeOf
    rw [H1.out]
    exact ⟨rfl, rfl⟩
  · rw [h2] at hl
    rw [h1] at hi
    simp only [Option.map_some] at hl
    have k0 : w.cell? ⟨b, 0, none⟩ = some (.int .u8 x.kind) := hb.cell 0
    have k1 : w.cell? ⟨b, 1, none⟩ = some (.int .i64 x.home) := hb.cell 1
    have H1 := Lib.hid h1; clear h1
    have HI := Lib.hid hi; clear hi
    clear h h2 hb hx hm
    by_cases hk : x.kind = 14
    · have hk1 : (x.kind == 14) = true := by simp [hk]
      have HK := Lib.hid hk; clear hk
      go_enter Try.func34, Try.ntmps34
      go_wp2_with (refine HI.out.mono ?_; rintro e w' ⟨rfl, rfl⟩)
      go_ret2
      unfold homeOf
      rw [H1.out]
      simp only [HK.out, if_true]
      exact ⟨rfl, rfl⟩
    · have hk1 : (x.kind == 14) = false := by simpa using hk
      have HK := Lib.hid hk; clear hk
      go_enter Try.func34, Try.ntmps34
      go_wp2_with (refine HI.out.mono ?_; rintro e w' ⟨rfl, rfl⟩)
      go_ret2
      unfold homeOf
      rw [H1.out]
      simp only [HK.out, if_false]
      exact ⟨rfl, rfl⟩
end
end Go.Proofs.Ytpgjbbefgacjkaa
