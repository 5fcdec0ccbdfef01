/- 'New' of package gate. -/
import Derived.Test.YtkiinokhdmmagaaGreatMakeGT
namespace Go.Proofs.YtkiinokhdmmagaaGreat
open Go.RowKit
set_option linter.unusedSimpArgs false
set_option linter.unusedVariables false
set_option linter.unusedSectionVars false
section
variable {w : World} {p : Nat} {W : AW} {M D : Nat → Prop} {pa : Option Addr} {pc bc bt bf bm ck fk : Nat} {L : List (Int × Nat × Nat)} {FL : List ((Int × Int) × Int × Nat)}
set_option maxRecDepth 100000 in
set_option maxHeartbeats 1000000 in
theorem gthere_any (h : RepW w p W M D pa pc bc bt bf bm ck fk L FL) : Calls Tryz.prog 49 #[.pointer (some ⟨p, 0, none⟩)] w (Same (.bool true) w) := by
  have hl : (0 : Int) < W.made.length := by have := h.sides.1; omega
  have H := Lib.hid h; clear h
  go_enter Tryz.func49, Tryz.ntmps49
  go_wp2_with (refine (sides_any H.out).mono ?_; rintro e w' ⟨rfl, rfl⟩)
  go_ret
  exact ⟨ret_bool (by simpa using hl), rfl⟩
/-- A world in which a switch and a gate before a thing were made. -/
def AW.gated (W : AW) (s t : Int) : AW := ((W.lay (xSw s 0 false)).lay (xGt s t (W.last + 1))).upd (W.last + 1) (xSw s (W.last + 1 + 1) false)
set_option maxRecDepth 100000 in
theorem make_gate (h : RepW w p W M D pa pc bc bt bf bm ck fk L FL) (s of_ by_ : Int) (y : X) (hs : sideB W s = true) (hI : I64 of_) (hJ : I64 by_) (hof : (W.at_ of_).isSome = true) (hat : W.at_ by_ = some y) (hyk : y.kind = 13) (hyh : y.home = s) (hy0 : y.of_ = 0) (hm : W.made.getD s.toNat 0 < 512) :
    Calls Tryz.prog 33 #[.pointer (some ⟨p, 0, none⟩), (xGt s of_ by_).agg (uOf none 0)] w (Out_ w p ((W.lay (xGt s of_ by_)).upd by_ { y with of_ := W.last + 1 }) M D pa pc bc bt bf bm fk FL (.tuple #[.int .i64 (W.last + 1), .int .i64 0])) := by
  have hk : ∀ w', Fr none_ w w' → RepW w' p W M D pa pc bc bt bf bm ck fk L FL := fun w' hf => h.keep hf (fun _ _ h => h) (fun _ _ h => h)
  have hth : thereB W by_ 13 s = true := by unfold thereB; rw [hat]; simp [hyk, hyh]
  exact make_GT h (xGt s of_ by_) (uOf none 0) none_ True (xOf_plain 15 s of_ V.zero) may_zero (xGt_RX (side_I64 h hs) hI hJ) (fun i hi => hi.elim) (by simp) rfl (by simp) rfl hof rfl y hat (by omega) (fun w' hf => form_15 (hk w' hf) s hs of_ by_) (fun w' hf => names_zero h (xGt s of_ by_) (uOf none 0) rfl ⟨rfl, rfl⟩ (xOf_plain 15 s of_ V.zero) w' hf) (fun w' hf => fits_15y (hk w' hf) 0 (xGt s of_ by_) y (uOf none 0) rfl hth hof hat hy0) hs hm
set_option maxRecDepth 100000 in
set_option maxHeartbeats 4000000 in
theorem gnew_yes (h : RepW w p W M D pa pc bc bt bf bm ck fk L FL) (s t : Int) (hs : sideB W s = true) (ht : (W.at_ t).isSome = true) (hI : I64 t) (hm : madeOf W s + 2 ≤ 512) :
    Calls Tryz.prog 18 #[.pointer (some ⟨p, 0, none⟩), .int .i64 s, .int .i64 t] w (Out_ w p (W.gated s t) M D pa pc bc bt bf bm fk FL (.tuple #[.int .i64 (W.last + 1 + 1), .int .i64 (W.last + 1), .int .i64 0])) := by
  obtain ⟨hh0, hh1⟩ := (sideB_iff h s).1 hs
  have hmb := made_bounds h s
  have hmo := made_of hs
  have hb13 := build_What2 13 s
  have hb15 : ∀ (W : World) (b : Int), (Instr.build 80 #[(0, .int .u8 15), (1, .int .i64 s), (6, .int .i64 t), (7, .int .i64 b)]).run Tryz.prog W = .ok (.agg #[.int .u8 15, .int .i64 s, .int .u8 0, .int .i64 0, .string ⟨#[]⟩, .slice none 0 0, .int .i64 0, .slice none 0 0, .int .i64 0, .int .i64 0, .int .i64 t, .int .i64 b, .int .u8 0, .bool false, .slice none 0 0, .slice none 0 0]) W := fun W b => by kernel_rfl
  have hl0 := h.last
  have hll := last_le h
  have hd1 : decide (s < 0) = false := by simpa using hh0
  have hd2 : decide (s ≥ (W.made.length : Int)) = false := by simpa using hh1
  have hd3 : decide (madeOf W s + 2 > 512) = false := by simpa using hm
  have hmb0 := hmb.1
  have hat1 : (W.lay (xSw s 0 false)).at_ (W.last + 1) = some (xSw s 0 false) := by rw [at_lay _ h.lowL, if_pos rfl]
  have hat2 : ((W.lay (xSw s 0 false)).at_ t).isSome = true := by
    rw [at_lay _ h.lowL]
    split
    · rfl
    · exact ht
  have hmd := lay_made (W := W) (x := xSw s 0 false) hs
  have HMD := Lib.hid hmd; clear hmd
  have HAT1 := Lib.hid hat1; clear hat1
  have HAT2 := Lib.hid hat2; clear hat2
  have HMO := Lib.hid hmo; clear hmo
  have HL0 := Lib.hid hl0; clear hl0
  have HLL := Lib.hid hll; clear hll
  have H := Lib.hid h; clear h
  have HS := Lib.hid hs; clear hs
  have HT := Lib.hid ht; clear ht
  have HI := Lib.hid hI; clear hI
  go_enter Tryz.func18, Tryz.ntmps18
  go_wp2_with fail
  refine (gthere_any H.out).mono ?_
  rintro e w1 ⟨rfl, rfl⟩
  go_wp2_with fail
  refine (sides_any H.out).mono ?_
  rintro e w2 ⟨rfl, rfl⟩
  go_wp2_with fail
  refine (is_any H.out t).mono ?_
  rintro e w2 ⟨rfl, rfl⟩
  rw [HT.out]
  go_wp2_with fail
  refine (made_any H.out s).mono ?_
  rintro e w ⟨rfl, rfl⟩
  go_wp2_with fail
  refine (make_switch H.out s HS.out (by rw [← HMO.out]; omega)).mono ?_
  rintro e W1 ⟨M1, D1, ck1, L1, rfl, hr1, hM1, hD1, hf1⟩
  have HR1 := Lib.hid hr1; clear hr1
  have HM1 := Lib.hid hM1; clear hM1
  have HD1 := Lib.hid hD1; clear hD1
  have HF1 := Lib.hid hf1; clear hf1
  go_wp2_with fail
  refine (make_gate HR1.out s t (W.last + 1) (xSw s 0 false) (by rw [lay_side]; exact HS.out) HI.out ?_ HAT2.out HAT1.out rfl rfl rfl ?_).mono ?_
  · have := HLL.out
    unfold I64
    omega
  · have e : (W.lay (xSw s 0 false)).made.getD s.toNat 0 = W.made.getD s.toNat 0 + 1 := HMD.out
    refine Int.lt_of_le_of_lt (Int.le_of_eq e) ?_
    rw [← HMO.out]
    omega
  rintro e W2 ⟨M2, D2, ck2, L2, rfl, hr2, hM2, hD2, hf2⟩
  have hout : Out_ w p (W.gated s t) M D pa pc bc bt bf bm fk FL (.tuple #[.int .i64 (W.last + 1 + 1), .int .i64 (W.last + 1), .int .i64 0]) (.returned (.tuple #[.int .i64 (W.last + 1 + 1), .int .i64 (W.last + 1), .int .i64 0])) W2 := by
    have hs := HF1.out.size
    refine ⟨M2, D2, ck2, L2, rfl, hr2, fun i hi => ?_, fun i hi => ?_, ?_⟩
    · rcases hM2 i hi with hi | hi
      · exact HM1.out i hi
      · exact .inr (by omega)
    · rcases hD2 i hi with hi | hi
      · exact HD1.out i hi
      · exact .inr (by omega)
    · refine (HF1.out.mono (S' := M) (fun i _ h => ?_)).trans' hf2 (fun i hi h => ?_)
      · rcases h with h | h | h
        · rw [h]; exact H.out.m.1
        · rw [h]; exact H.out.m.2.2.1
        · rw [h]; exact H.out.m.2.2.2.2
      rcases HM1.out i h with h | h
      · exact h
      · omega
  have HOUT := Lib.hid hout; clear hout
  clear hr2 hM2 hD2 hf2
  go_wp2
  go_ret3
  exact HOUT.out
end
end Go.Proofs.YtkiinokhdmmagaaGreat
