/- 'Pair', 'Seal' of package seal. -/
import Derived.Test.YtpgjbbefgacjkaaMakes
namespace Go.Proofs.Ytpgjbbefgacjkaa
open Go.RowKit
set_option linter.unusedSimpArgs false
set_option linter.unusedVariables false
set_option linter.unusedSectionVars false
/-- Things with no lists, with values that may be; what they stand for was made. -/
structure AW.Ok (W : AW) : Prop where
  plain : ∀ t, t ∈ W.things → t.2.plain ∧ t.2.val.may = true
  ofs : ∀ t, t ∈ W.things → t.2.of_ ≤ W.last
theorem AW.Ok.lay {W : AW} (h : W.Ok) {x : X} (hp : x.plain) (hm : x.val.may = true) (ho : x.of_ ≤ W.last) : (W.lay x).Ok := by
  refine ⟨fun t ht => ?_, fun t ht => ?_⟩
  · rcases List.mem_append.1 ht with ht | ht
    · exact h.plain t ht
    · rw [List.mem_singleton.1 ht]; exact ⟨hp, hm⟩
  · show t.2.of_ ≤ W.last + 1
    rcases List.mem_append.1 ht with ht | ht
    · have := h.ofs t ht; omega
    · rw [List.mem_singleton.1 ht]; show x.of_ ≤ W.last + 1; omega
theorem AW.Ok.at_ {W : AW} (h : W.Ok) {r : Int} {x : X} (hx : W.at_ r = some x) : x.plain ∧ x.val.may = true := h.plain _ (mem_of_at hx)
/-- An answer, and a world that is another one. -/
def GoOut (w : World) (p : Nat) (W' : AW) (M D : Nat → Prop) (pa : Option Addr) (pc bc bt bf bm fk : Nat) (FL : List ((Int × Int) × Int × Nat)) (v : Value) (e : Ending) (w' : World) : Prop :=
  ∃ M' D' ck' L', e = .returned v ∧ RepW w' p W' M' D' pa pc bc bt bf bm ck' fk L' FL ∧ (∀ i, M' i → M i ∨ w.heap.size ≤ i) ∧ (∀ i, D' i → D i ∨ w.heap.size ≤ i) ∧ Fr (fun i => i = p ∨ i = bt ∨ i = bm) w w'
theorem lay_side {W : AW} {x : X} (s : Int) : sideB (W.lay x) s = sideB W s := by
  unfold sideB AW.lay
  simp
def AW.pair (W : AW) (s : Int) : AW := (W.lay (xOf 5 s 0 V.zero)).lay (xOf 6 s (W.last + 1) V.zero)
theorem lay_made {W : AW} {x : X} (hs : sideB W x.home = true) : (W.lay x).made.getD x.home.toNat 0 = W.made.getD x.home.toNat 0 + 1 := by
  unfold sideB at hs
  simp only [Bool.and_eq_true, decide_eq_true_eq] at hs
  show (W.made.set x.home.toNat (W.made.getD x.home.toNat 0 + 1)).getD x.home.toNat 0 = _
  have h1 : x.home.toNat < W.made.length := by omega
  rw [List.getD_eq_getElem?_getD, List.getElem?_set_self h1]
  rfl
section
variable {w : World} {p : Nat} {W : AW} {M D : Nat → Prop} {pa : Option Addr} {pc bc bt bf bm ck fk : Nat} {L : List (Int × Nat × Nat)} {FL : List ((Int × Int) × Int × Nat)}
theorem made_of {s : Int} (hs : sideB W s = true) : madeOf W s = W.made.getD s.toNat 0 := by unfold madeOf; rw [if_pos hs]
theorem made_bounds (h : RepW w p W M D pa pc bc bt bf bm ck fk L FL) (s : Int) : 0 ≤ madeOf W s ∧ madeOf W s ≤ 512 := by
  unfold madeOf
  split
  · rename_i hs
    have h1 := (sideB_iff h s).1 hs
    have h2 : s.toNat < W.made.length := by omega
    have := h.mades s.toNat h2
    rw [List.getD_eq_getElem?_getD, List.getElem?_eq_getElem h2]
    exact this
  · omega
theorem pair_other (hok : W.Ok) (s : Int) : otherB (W.lay (xOf 5 s 0 V.zero)) 0 6 (W.last + 1) = false := by
  unfold otherB
  rw [List.any_eq_false]
  intro t ht
  rcases List.mem_append.1 ht with ht | ht
  · have := hok.ofs t ht
    simp only [Bool.and_eq_true, decide_eq_true_eq, not_and]
    intro _
    omega
  · rw [List.mem_singleton.1 ht]
    simp
theorem pair_there (h : RepW w p W M D pa pc bc bt bf bm ck fk L FL) (s : Int) : thereB (W.lay (xOf 5 s 0 V.zero)) (W.last + 1) 5 s = true := by
  unfold thereB
  rw [at_lay _ h.lowL]
  simp
theorem last_le (h : RepW w p W M D pa pc bc bt bf bm ck fk L FL) : 0 ≤ W.last ∧ W.last ≤ 524288 := by
  have h1 : W.made.sum ≤ 512 * W.made.length := sum_le W.made (fun i hi => (h.mades i hi).2)
  have h2 := h.last
  have h3 := h.sides.2.2
  omega
/-- One more way on from a world that is another one. -/
theorem go_then {W' : AW} {M1 D1 M2 D2 : Nat → Prop} {ck2 : Nat} {L2 : List (Int × Nat × Nat)} {w1 w2 : World} (h : RepW w p W M D pa pc bc bt bf bm ck fk L FL) (v : Value)
    (hM1 : ∀ i, M1 i → M i ∨ w.heap.size ≤ i) (hD1 : ∀ i, D1 i → D i ∨ w.heap.size ≤ i) (hf1 : Fr (fun i => i = p ∨ i = bt ∨ i = bm) w w1)
    (hr : RepW w2 p W' M2 D2 pa pc bc bt bf bm ck2 fk L2 FL) (hM2 : ∀ i, M2 i → M1 i ∨ w1.heap.size ≤ i) (hD2 : ∀ i, D2 i → D1 i ∨ w1.heap.size ≤ i) (hf2 : Fr (fun i => i = p ∨ i = bt ∨ i = bm) w1 w2) :
    GoOut w p W' M D pa pc bc bt bf bm fk FL v (.returned v) w2 := by
  have hs := hf1.size
  refine ⟨M2, D2, ck2, L2, rfl, hr, fun i hi => ?_, fun i hi => ?_, hf1.trans hf2⟩
  · rcases hM2 i hi with hi | hi
    · exact hM1 i hi
    · exact .inr (by omega)
  · rcases hD2 i hi with hi | hi
    · exact hD1 i hi
    · exact .inr (by omega)
set_option maxRecDepth 100000 in
set_option maxHeartbeats 4000000 in
theorem pair_yes (h : RepW w p W M D pa pc bc bt bf bm ck fk L FL) (hok : W.Ok) (s : Int) (hs : sideB W s = true) (hm : madeOf W s + 2 ≤ 512) :
    Calls Try.prog 9 #[.pointer (some ⟨p, 0, none⟩), .int .i64 s] w (GoOut w p (W.pair s) M D pa pc bc bt bf bm fk FL (.tuple #[.int .i64 (W.last + 1), .int .i64 (W.last + 2), .int .i64 0])) := by
  obtain ⟨hh0, hh1⟩ := (sideB_iff h s).1 hs
  have hmb := made_bounds h s
  have hmo := made_of hs
  have hb5 := build_What2 5 s
  have hb6 : ∀ (o : Int) (W : World), (Instr.build 69 #[(0, .int .u8 6), (1, .int .i64 s), (6, .int .i64 o)]).run Try.prog W = .ok (.agg #[.int .u8 6, .int .i64 s, .int .u8 0, .int .i64 0, .string ⟨#[]⟩, .slice none 0 0, .int .i64 0, .slice none 0 0, .int .i64 0, .int .i64 0, .int .i64 o, .int .i64 0, .int .u8 0, .bool false, .slice none 0 0, .slice none 0 0]) W := fun o W => by kernel_rfl
  have hl0 := h.last
  have hd1 : decide (s < 0) = false := by simpa using hh0
  have hd2 : decide (s ≥ (W.made.length : Int)) = false := by simpa using hh1
  have hd3 : decide (madeOf W s + 2 > 512) = false := by simpa using hm
  have hmb0 := hmb.1
  have HMO := Lib.hid hmo; clear hmo
  have HL0 := Lib.hid hl0; clear hl0
  have H := Lib.hid h; clear h
  have HOK := Lib.hid hok; clear hok
  have HS := Lib.hid hs; clear hs
  go_enter Try.func9, Try.ntmps9
  go_wp2_with fail
  refine (sthere_any H.out).mono ?_
  rintro e w1 ⟨rfl, rfl⟩
  go_wp2_with fail
  refine (sides_any H.out).mono ?_
  rintro e w2 ⟨rfl, rfl⟩
  go_wp2_with fail
  refine (made_any H.out s).mono ?_
  rintro e w ⟨rfl, rfl⟩
  go_wp2_with fail
  refine (make_sealer H.out s HS.out (by rw [← HMO.out]; omega)).mono ?_
  rintro e W1 ⟨M1, D1, ck1, L1, rfl, hr1, hM1, hD1, hf1⟩
  have HR1 := Lib.hid hr1; clear hr1
  have HM1 := Lib.hid hM1; clear hM1
  have HD1 := Lib.hid hD1; clear hD1
  have HF1 := Lib.hid hf1; clear hf1
  go_wp2_with fail
  refine (make_opener HR1.out s (W.last + 1) (by rw [lay_side]; exact HS.out) ?_ (pair_there H.out s) (pair_other HOK.out s) ?_).mono ?_
  · have := last_le H.out
    unfold I64
    omega
  · have := lay_made (W := W) (x := xOf 5 s 0 V.zero) HS.out
    rw [show (xOf 5 s 0 V.zero).home = s from rfl] at this
    rw [this, ← HMO.out]
    omega
  rintro e W2 ⟨M2, D2, ck2, L2, rfl, hr2, hM2, hD2, hf2⟩
  have hout : GoOut w p (W.pair s) M D pa pc bc bt bf bm fk FL (.tuple #[.int .i64 (W.last + 1), .int .i64 (W.last + 2), .int .i64 0]) (.returned (.tuple #[.int .i64 (W.last + 1), .int .i64 (W.last + 2), .int .i64 0])) W2 :=
    go_then H.out _ HM1.out HD1.out HF1.out hr2 hM2 hD2 hf2
  have HOUT := Lib.hid hout; clear hout
  clear hr2 hM2 hD2 hf2
  have el : (W.lay (xOf 5 s 0 V.zero)).last + 1 = W.last + 2 := by show W.last + 1 + 1 = _; omega
  rw [el]
  clear el
  go_wp2
  go_ret3
  exact HOUT.out
end
end Go.Proofs.Ytpgjbbefgacjkaa
