/- 'awake' of the law of layer 12. -/
import Derived.Test.YtkiinokhdmmagaaGreatFirst
import Derived.Test.YtkiinokhdmmagaaGreatGCut
import Derived.Test.YtkiinokhdmmagaaGreatGDo
namespace Go.Proofs.YtkiinokhdmmagaaGreat
open Go.RowKit
set_option linter.unusedSimpArgs false
set_option linter.unusedVariables false
set_option linter.unusedSectionVars false
theorem AW.Ok.gated {W : AW} (h : W.Ok) (h0 : 0 ≤ W.last) (s t : Int) (ht : t ≤ W.last) : (W.gated s t).Ok := by
  unfold AW.gated
  refine AW.Ok.upd ((h.lay (xOf_plain 13 s 0 V.zero) may_zero h0).lay (x := xGt s t (W.last + 1)) (xOf_plain 15 s t V.zero) may_zero ?_) (y := xSw s (W.last + 1 + 1) false) (xOf_plain 13 s (W.last + 1 + 1) V.zero) may_zero ?_
  · show t ≤ W.last + 1
    omega
  · show W.last + 1 + 1 ≤ W.last + 1 + 1
    omega
abbrev gaA : AW := AW.new0.lay (xOf 1 0 0 V.zero)
abbrev gaB : AW := gaA.gated 0 1
abbrev gaC : AW := gaB.gated 0 3
abbrev gaD : AW := gaC.upd 2 (xSw 0 3 true)
theorem gaA_Ok : gaA.Ok := new0_Ok.lay (xOf_plain _ _ _ _) may_zero (by decide)
theorem gaB_Ok : gaB.Ok := gaA_Ok.gated (by decide) 0 1 (by decide)
theorem gaC_Ok : gaC.Ok := gaB_Ok.gated (by decide) 0 3 (by decide)
theorem gaD_Ok : gaD.Ok := gaC_Ok.upd (y := xSw 0 3 true) (xOf_plain 13 0 3 V.zero) may_zero (by decide)
theorem wayC5 : WayOf gaC 5 [5, 3, 1] := .step 5 (xGt 0 3 4) _ rfl rfl (.step 3 (xGt 0 1 2) _ rfl rfl (.stop 1 (xOf 1 0 0 V.zero) rfl rfl))
theorem wayD5 : WayOf gaD 5 [5, 3, 1] := .step 5 (xGt 0 3 4) _ rfl rfl (.step 3 (xGt 0 1 2) _ rfl rfl (.stop 1 (xOf 1 0 0 V.zero) rfl rfl))
theorem wayD1 : WayOf gaD 1 [1] := .stop 1 (xOf 1 0 0 V.zero) rfl rfl
theorem gatesC5 : gatesIn gaC [5, 3, 1] = [5, 3] := rfl
theorem firstD5 : firstIn gaD [5, 3, 1] = some 3 := rfl
theorem firstD1 : firstIn gaD [1] = none := rfl
theorem atC2' : gaC.at_ 2 = some (xSw 0 3 false) := rfl
theorem atD2 : gaD.at_ 2 = some (xSw 0 3 true) := rfl
set_option maxRecDepth 100000 in
set_option maxHeartbeats 8000000 in
theorem awake12 (w : World) : Calls Tryz.prog 17 #[] w fun e w' => e = .returned (.bool true) ∧ Fr none_ w w' := by
  have hb1 : ∀ W : World, (Instr.build 80 #[(0, .int .u8 1)]).run Tryz.prog W = .ok (.agg #[.int .u8 1, .int .i64 0, .int .u8 0, .int .i64 0, .string ⟨#[]⟩, .slice none 0 0, .int .i64 0, .slice none 0 0, .int .i64 0, .int .i64 0, .int .i64 0, .int .i64 0, .int .u8 0, .bool false, .slice none 0 0, .slice none 0 0]) W := fun W => by kernel_rfl
  have hbv : ∀ W : World, (Instr.build 28 #[]).run Tryz.prog W = .ok (.agg #[.int .u8 0, .int .i64 0, .string ⟨#[]⟩, .slice none 0 0, .int .i64 0]) W := fun W => by kernel_rfl
  have hzv := zero_Value
  go_enter Tryz.func17, Tryz.ntmps17
  go_wp2_with fail
  refine (new_0 w).mono ?_
  rintro e W1 ⟨M1, D1, p, bc, bt, bf, bm, rfl, h1, hf1, hn1⟩
  have H1 := Lib.hid h1; clear h1
  have HF1 := Lib.hid hf1; clear hf1
  have HN1 := Lib.hid hn1; clear hn1
  go_wp2_with fail
  refine (make_cell H1.out 0 rfl (by decide)).mono ?_
  rintro e W2 ⟨M2, D2, ck2, L2, rfl, h2, hm2, hd2, hf2⟩
  have hg2 : Fr none_ w W2 := HF1.out.trans' hf2 (fun i hi h => by
    have hh : M1 i := by rcases h with e | e | e <;> rw [e]; exact H1.out.m.1; exact H1.out.m.2.2.1; exact H1.out.m.2.2.2.2
    have := HN1.out i hh; omega)
  have hn2 : ∀ i, M2 i → w.heap.size ≤ i := fun i hi => by rcases hm2 i hi with h | h; exact HN1.out i h; exact Nat.le_trans HF1.out.size h
  have H2 := Lib.hid h2; clear h2
  have HF2 := Lib.hid hg2; clear hg2 hf2
  have HN2 := Lib.hid hn2; clear hn2 hm2 hd2
  rw [show AW.new0.last + 1 = (1 : Int) from rfl]
  go_wp2_with fail
  refine (gnew_yes H2.out 0 1 rfl rfl (by unfold I64; omega) (by decide)).mono ?_
  rintro e W3 ⟨M3, D3, ck3, L3, rfl, h3, hm3, hd3, hf3⟩
  have hg3 : Fr none_ w W3 := HF2.out.trans' hf3 (fun i hi h => by have := HN2.out i h; omega)
  have hn3 : ∀ i, M3 i → w.heap.size ≤ i := fun i hi => by rcases hm3 i hi with h | h; exact HN2.out i h; exact Nat.le_trans HF2.out.size h
  have H3 := Lib.hid h3; clear h3
  have HF3 := Lib.hid hg3; clear hg3 hf3
  have HN3 := Lib.hid hn3; clear hn3 hm3 hd3
  rw [show (AW.new0.lay (xOf 1 0 0 V.zero)).last + 1 + 1 = (3 : Int) from rfl, show (AW.new0.lay (xOf 1 0 0 V.zero)).last + 1 = (2 : Int) from rfl]
  go_wp2_with fail
  refine (gnew_yes H3.out 0 3 rfl rfl (by unfold I64; omega) (by decide)).mono ?_
  rintro e W4 ⟨M4, D4, ck4, L4, rfl, h4, hm4, hd4, hf4⟩
  have hg4 : Fr none_ w W4 := HF3.out.trans' hf4 (fun i hi h => by have := HN3.out i h; omega)
  have hn4 : ∀ i, M4 i → w.heap.size ≤ i := fun i hi => by rcases hm4 i hi with h | h; exact HN3.out i h; exact Nat.le_trans HF3.out.size h
  have H4 := Lib.hid h4; clear h4
  have HF4 := Lib.hid hg4; clear hg4 hf4
  have HN4 := Lib.hid hn4; clear hn4 hm4 hd4
  rw [show gaB.last + 1 + 1 = (5 : Int) from rfl, show gaB.last + 1 = (4 : Int) from rfl]
  go_wp2_with fail
  refine (gates_any H4.out 5 [5, 3, 1] wayC5 (by decide) rfl).mono ?_
  rintro e W5 ⟨v, rfl, hown, hf5⟩
  rw [gatesC5] at hown
  obtain ⟨g, cap, hv⟩ := ownsRow_succ hown
  subst hv
  obtain ⟨Ag, cg, hv, hrd, _, _, _⟩ := hown.rd
  injection hv with e1 e2 e3
  subst e1
  have hgl := (World.ownsRow.lt hown g rfl).1
  have k0 : W5.cell? ⟨g, 0, none⟩ = some (.int .i64 5) := by
    obtain ⟨b, o, hA, hc⟩ := hrd 0 (by decide)
    injection hA with hA; injection hA with e1 e2; subst e1; subst e2
    exact hc
  have k1 : W5.cell? ⟨g, 1, none⟩ = some (.int .i64 3) := by
    obtain ⟨b, o, hA, hc⟩ := hrd 1 (by decide)
    injection hA with hA; injection hA with e1 e2; subst e1; subst e2
    exact hc
  have h5 := H4.out.keep hf5 (fun _ _ h => h) (fun _ _ h => h)
  have hg5 := HF4.out.trans hf5
  have hgM : ∀ i, M4 i → i ≠ g := fun i hi e => by have := H4.out.mlt i hi; omega
  have H5 := Lib.hid h5; clear h5
  have HF5 := Lib.hid hg5; clear hg5 hf5
  have K0 := Lib.hid k0; clear k0
  have K1 := Lib.hid k1; clear k1
  have HGM := Lib.hid hgM; clear hgM
  clear hown hrd hgl
  go_wp2_with fail
  refine (gcutsw_yes H5.out gaC_Ok 2 0 3 atC2' rfl).mono ?_
  rintro e W6 ⟨M6, D6, ck6, L6, rfl, h6, hm6, hd6, hf6⟩
  have hg6 : Fr none_ w W6 := HF5.out.trans' hf6 (fun i hi h => by have := HN4.out i h; omega)
  have k0 : W6.cell? ⟨g, 0, none⟩ = some (.int .i64 5) := cell_keep (fun hb => hf6.block g hb (fun h => HGM.out g h rfl)) K0.out
  have k1 : W6.cell? ⟨g, 1, none⟩ = some (.int .i64 3) := cell_keep (fun hb => hf6.block g hb (fun h => HGM.out g h rfl)) K1.out
  have H6 := Lib.hid h6; clear h6
  have HF6 := Lib.hid hg6; clear hg6 hf6 hm6 hd6 K0 K1
  have K0 := Lib.hid k0; clear k0
  have K1 := Lib.hid k1; clear k1
  go_wp2_with fail
  refine (first_any H6.out gaD_Ok 5 [5, 3, 1] wayD5 (by decide)).mono ?_
  rintro e W7 ⟨rfl, hf7⟩
  rw [firstD5]
  have h7 := H6.out.keep hf7 (fun _ _ h => h) (fun _ _ h => h)
  have hg7 := HF6.out.trans hf7
  have k0 : W7.cell? ⟨g, 0, none⟩ = some (.int .i64 5) := cell_keep (fun hb => hf7.block g hb (fun h => h)) K0.out
  have k1 : W7.cell? ⟨g, 1, none⟩ = some (.int .i64 3) := cell_keep (fun hb => hf7.block g hb (fun h => h)) K1.out
  have H7 := Lib.hid h7; clear h7
  have HF7 := Lib.hid hg7; clear hg7 hf7 K0 K1
  have K0 := Lib.hid k0; clear k0
  have K1 := Lib.hid k1; clear k1
  rw [show firstV (some 3) = .tuple #[.int .i64 3, .bool true] from rfl]
  go_wp2_with fail
  refine (first_any H7.out gaD_Ok 1 [1] wayD1 (by decide)).mono ?_
  rintro e W8 ⟨rfl, hf8⟩
  rw [firstD1]
  have h8 := H7.out.keep hf8 (fun _ _ h => h) (fun _ _ h => h)
  have hg8 := HF7.out.trans hf8
  have k0 : W8.cell? ⟨g, 0, none⟩ = some (.int .i64 5) := cell_keep (fun hb => hf8.block g hb (fun h => h)) K0.out
  have k1 : W8.cell? ⟨g, 1, none⟩ = some (.int .i64 3) := cell_keep (fun hb => hf8.block g hb (fun h => h)) K1.out
  have H8 := Lib.hid h8; clear h8
  have HF8 := Lib.hid hg8; clear hg8 hf8 K0 K1
  have K0 := Lib.hid k0; clear k0
  have K1 := Lib.hid k1; clear k1
  rw [show firstV none = .tuple #[.int .i64 0, .bool false] from rfl]
  go_wp2_with fail
  refine (gdo_get H8.out gaD_Ok 2 (xSw 0 3 true) atD2 rfl rfl).mono ?_
  rintro e W9 ⟨rfl, hf9⟩
  have hg9 := HF8.out.trans hf9
  have k0 : W9.cell? ⟨g, 0, none⟩ = some (.int .i64 5) := cell_keep (fun hb => hf9.block g hb (fun h => h)) K0.out
  have k1 : W9.cell? ⟨g, 1, none⟩ = some (.int .i64 3) := cell_keep (fun hb => hf9.block g hb (fun h => h)) K1.out
  have hgl : g < W9.heap.size := cell_lt k0
  have HF9 := Lib.hid hg9; clear hg9 hf9 K0 K1
  go_wp2
  go_ret
  exact ⟨rfl, HF9.out.alloc _⟩
end Go.Proofs.YtkiinokhdmmagaaGreat
