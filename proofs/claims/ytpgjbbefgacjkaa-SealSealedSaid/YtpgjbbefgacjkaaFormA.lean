/- 'form' of package world at the kinds that these layers make. Printed by gen_form.py. -/
import Derived.Test.YtpgjbbefgacjkaaForm0
import Derived.Test.YtpgjbbefgacjkaaBareA
import Derived.Deep.CutBlock
namespace Go.Proofs.Ytpgjbbefgacjkaa
open Go.RowKit
set_option linter.unusedSimpArgs false
set_option linter.unusedVariables false
set_option linter.unusedSectionVars false
set_option maxRecDepth 100000 in
set_option maxHeartbeats 4000000 in
theorem form_5 {w : World} {p : Nat} {W : AW} {M D : Nat → Prop} {pa : Option Addr} {pc bc bt bf bm ck fk : Nat} {L : List (Int × Nat × Nat)} {FL : List ((Int × Int) × Int × Nat)} (hr : RepW w p W M D pa pc bc bt bf bm ck fk L FL)
    (h : Int) (hh : sideB W h = true) :
    Calls Try.prog 46 #[.pointer (some ⟨p, 0, none⟩), .agg #[.int .u8 5, .int .i64 h, .int .u8 0, .int .i64 0, .string ⟨#[]⟩, .slice none 0 0, .int .i64 0, .slice none 0 0, .int .i64 0, .int .i64 0, .int .i64 0, .int .i64 0, .int .u8 0, .bool false, .slice none 0 0, .slice none 0 0]] w (Bool_ w true) := by
  have HR := Lib.hid hr; clear hr
  have HH := Lib.hid hh; clear hh
  go_enter Try.func46, Try.ntmps46
  go_wp2_with fail
  refine (bare_5 h 0 0 0 0 0 0 0 0 ⟨#[]⟩ false none none none none 0 0 0 0 0 0 0 0 _).mono ?_
  rintro e w1 ⟨rfl, hf⟩
  go_upto_region 2 with (fail)
  refine code_gen ?_
  intro W1 hW
  have hsz := hf.size
  rw [World.size_alloc] at hsz
  have hbx0 : Blk W1 w.heap.size [.int .u8 5, .int .i64 h, .int .u8 0, .int .i64 0, .string ⟨#[]⟩, .slice none 0 0, .int .i64 0, .slice none 0 0, .int .i64 0, .int .i64 0, .int .i64 0, .int .i64 0, .int .u8 0, .bool false, .slice none 0 0, .slice none 0 0] 69 := by rw [hW]; exact ((Blk.new w _ _).keep hf (fun h => h)).alloc _
  have hby0 : Blk W1 w1.heap.size [.int .u8 5, .int .i64 h, .int .u8 0, .int .i64 0, .string ⟨#[]⟩, .slice none 0 0, .int .i64 0, .slice none 0 0, .int .i64 0, .int .i64 0, .int .i64 0, .int .i64 0, .int .u8 0, .bool false, .slice none 0 0, .slice none 0 0] 69 := by rw [hW]; exact Blk.new w1 _ _
  have hfw0 : Fr none_ w W1 := by rw [hW]; exact (((Fr.refl none_ w).alloc _).trans hf).alloc _
  clear hW hf
  have x0 : W1.cell? ⟨w.heap.size, 0, none⟩ = some (.int .u8 5) := hbx0.cell 0
  have x1 : W1.cell? ⟨w.heap.size, 1, none⟩ = some (.int .i64 h) := hbx0.cell 1
  have x2 : W1.cell? ⟨w.heap.size, 2, none⟩ = some (.int .u8 0) := hbx0.cell 2
  have x3 : W1.cell? ⟨w.heap.size, 3, none⟩ = some (.int .i64 0) := hbx0.cell 3
  have x4 : W1.cell? ⟨w.heap.size, 4, none⟩ = some (.string ⟨#[]⟩) := hbx0.cell 4
  have x5 : W1.cell? ⟨w.heap.size, 5, none⟩ = some (.slice none 0 0) := hbx0.cell 5
  have x6 : W1.cell? ⟨w.heap.size, 6, none⟩ = some (.int .i64 0) := hbx0.cell 6
  have x7 : W1.cell? ⟨w.heap.size, 7, none⟩ = some (.slice none 0 0) := hbx0.cell 7
  have x8 : W1.cell? ⟨w.heap.size, 8, none⟩ = some (.int .i64 0) := hbx0.cell 8
  have x9 : W1.cell? ⟨w.heap.size, 9, none⟩ = some (.int .i64 0) := hbx0.cell 9
  have x10 : W1.cell? ⟨w.heap.size, 10, none⟩ = some (.int .i64 0) := hbx0.cell 10
  have x11 : W1.cell? ⟨w.heap.size, 11, none⟩ = some (.int .i64 0) := hbx0.cell 11
  have x12 : W1.cell? ⟨w.heap.size, 12, none⟩ = some (.int .u8 0) := hbx0.cell 12
  have x13 : W1.cell? ⟨w.heap.size, 13, none⟩ = some (.bool false) := hbx0.cell 13
  have x14 : W1.cell? ⟨w.heap.size, 14, none⟩ = some (.slice none 0 0) := hbx0.cell 14
  have x15 : W1.cell? ⟨w.heap.size, 15, none⟩ = some (.slice none 0 0) := hbx0.cell 15
  have y0 : W1.cell? ⟨w1.heap.size, 0, none⟩ = some (.int .u8 5) := hby0.cell 0
  have y1 : W1.cell? ⟨w1.heap.size, 1, none⟩ = some (.int .i64 h) := hby0.cell 1
  have y2 : W1.cell? ⟨w1.heap.size, 2, none⟩ = some (.int .u8 0) := hby0.cell 2
  have y3 : W1.cell? ⟨w1.heap.size, 3, none⟩ = some (.int .i64 0) := hby0.cell 3
  have y4 : W1.cell? ⟨w1.heap.size, 4, none⟩ = some (.string ⟨#[]⟩) := hby0.cell 4
  have y5 : W1.cell? ⟨w1.heap.size, 5, none⟩ = some (.slice none 0 0) := hby0.cell 5
  have y6 : W1.cell? ⟨w1.heap.size, 6, none⟩ = some (.int .i64 0) := hby0.cell 6
  have y7 : W1.cell? ⟨w1.heap.size, 7, none⟩ = some (.slice none 0 0) := hby0.cell 7
  have y8 : W1.cell? ⟨w1.heap.size, 8, none⟩ = some (.int .i64 0) := hby0.cell 8
  have y9 : W1.cell? ⟨w1.heap.size, 9, none⟩ = some (.int .i64 0) := hby0.cell 9
  have y10 : W1.cell? ⟨w1.heap.size, 10, none⟩ = some (.int .i64 0) := hby0.cell 10
  have y11 : W1.cell? ⟨w1.heap.size, 11, none⟩ = some (.int .i64 0) := hby0.cell 11
  have y12 : W1.cell? ⟨w1.heap.size, 12, none⟩ = some (.int .u8 0) := hby0.cell 12
  have y13 : W1.cell? ⟨w1.heap.size, 13, none⟩ = some (.bool false) := hby0.cell 13
  have y14 : W1.cell? ⟨w1.heap.size, 14, none⟩ = some (.slice none 0 0) := hby0.cell 14
  have y15 : W1.cell? ⟨w1.heap.size, 15, none⟩ = some (.slice none 0 0) := hby0.cell 15
  have HBX0 := Lib.hid hbx0; clear hbx0
  have HBY0 := Lib.hid hby0; clear hby0
  have HFW0 := Lib.hid hfw0; clear hfw0
  have HSZ := Lib.hid hsz; clear hsz
  go_wp2_with fail
  refine (blank_any V.zero none 0 _).mono ?_
  rintro e w2 ⟨rfl, hf2⟩
  rw [blankB_zero]
  have hbx1 := HBX0.out.keep hf2 (fun h => h)
  have x0 : w2.cell? ⟨w.heap.size, 0, none⟩ = some (.int .u8 5) := hbx1.cell 0
  have x1 : w2.cell? ⟨w.heap.size, 1, none⟩ = some (.int .i64 h) := hbx1.cell 1
  have x2 : w2.cell? ⟨w.heap.size, 2, none⟩ = some (.int .u8 0) := hbx1.cell 2
  have x3 : w2.cell? ⟨w.heap.size, 3, none⟩ = some (.int .i64 0) := hbx1.cell 3
  have x4 : w2.cell? ⟨w.heap.size, 4, none⟩ = some (.string ⟨#[]⟩) := hbx1.cell 4
  have x5 : w2.cell? ⟨w.heap.size, 5, none⟩ = some (.slice none 0 0) := hbx1.cell 5
  have x6 : w2.cell? ⟨w.heap.size, 6, none⟩ = some (.int .i64 0) := hbx1.cell 6
  have x7 : w2.cell? ⟨w.heap.size, 7, none⟩ = some (.slice none 0 0) := hbx1.cell 7
  have x8 : w2.cell? ⟨w.heap.size, 8, none⟩ = some (.int .i64 0) := hbx1.cell 8
  have x9 : w2.cell? ⟨w.heap.size, 9, none⟩ = some (.int .i64 0) := hbx1.cell 9
  have x10 : w2.cell? ⟨w.heap.size, 10, none⟩ = some (.int .i64 0) := hbx1.cell 10
  have x11 : w2.cell? ⟨w.heap.size, 11, none⟩ = some (.int .i64 0) := hbx1.cell 11
  have x12 : w2.cell? ⟨w.heap.size, 12, none⟩ = some (.int .u8 0) := hbx1.cell 12
  have x13 : w2.cell? ⟨w.heap.size, 13, none⟩ = some (.bool false) := hbx1.cell 13
  have x14 : w2.cell? ⟨w.heap.size, 14, none⟩ = some (.slice none 0 0) := hbx1.cell 14
  have x15 : w2.cell? ⟨w.heap.size, 15, none⟩ = some (.slice none 0 0) := hbx1.cell 15
  have hq1 : w.heap.size < w2.heap.size := hbx1.lt
  have HBX1 := Lib.hid hbx1; clear hbx1
  have hfw1 := HFW0.out.trans hf2
  have HFW1 := Lib.hid hfw1; clear hfw1 hf2
  go_wp2_with fail
  refine (blank_any V.zero none 0 _).mono ?_
  rintro e w3 ⟨rfl, hf3⟩
  rw [blankB_zero]
  have hbx2 := HBX1.out.keep hf3 (fun h => h)
  have x0 : w3.cell? ⟨w.heap.size, 0, none⟩ = some (.int .u8 5) := hbx2.cell 0
  have x1 : w3.cell? ⟨w.heap.size, 1, none⟩ = some (.int .i64 h) := hbx2.cell 1
  have x2 : w3.cell? ⟨w.heap.size, 2, none⟩ = some (.int .u8 0) := hbx2.cell 2
  have x3 : w3.cell? ⟨w.heap.size, 3, none⟩ = some (.int .i64 0) := hbx2.cell 3
  have x4 : w3.cell? ⟨w.heap.size, 4, none⟩ = some (.string ⟨#[]⟩) := hbx2.cell 4
  have x5 : w3.cell? ⟨w.heap.size, 5, none⟩ = some (.slice none 0 0) := hbx2.cell 5
  have x6 : w3.cell? ⟨w.heap.size, 6, none⟩ = some (.int .i64 0) := hbx2.cell 6
  have x7 : w3.cell? ⟨w.heap.size, 7, none⟩ = some (.slice none 0 0) := hbx2.cell 7
  have x8 : w3.cell? ⟨w.heap.size, 8, none⟩ = some (.int .i64 0) := hbx2.cell 8
  have x9 : w3.cell? ⟨w.heap.size, 9, none⟩ = some (.int .i64 0) := hbx2.cell 9
  have x10 : w3.cell? ⟨w.heap.size, 10, none⟩ = some (.int .i64 0) := hbx2.cell 10
  have x11 : w3.cell? ⟨w.heap.size, 11, none⟩ = some (.int .i64 0) := hbx2.cell 11
  have x12 : w3.cell? ⟨w.heap.size, 12, none⟩ = some (.int .u8 0) := hbx2.cell 12
  have x13 : w3.cell? ⟨w.heap.size, 13, none⟩ = some (.bool false) := hbx2.cell 13
  have x14 : w3.cell? ⟨w.heap.size, 14, none⟩ = some (.slice none 0 0) := hbx2.cell 14
  have x15 : w3.cell? ⟨w.heap.size, 15, none⟩ = some (.slice none 0 0) := hbx2.cell 15
  have hq2 : w.heap.size < w3.heap.size := hbx2.lt
  have HBX2 := Lib.hid hbx2; clear hbx2
  have hfw2 := HFW1.out.trans hf3
  have HFW2 := Lib.hid hfw2; clear hfw2 hf3
  go_wp2_with fail
  refine (side_any (HR.out.keep HFW2.out (fun _ _ h => h) (fun _ _ h => h)) h).mono ?_
  rintro e w' ⟨rfl, rfl⟩
  rw [HH.out]
  go_wp2_with fail
  refine (may_any none_ True V.zero none 0 _ (RV_zero _ _ _) (fun b hd => hd.elim)).mono ?_
  rintro e w4 ⟨rfl, hf4⟩
  rw [may_zero]
  have hbx3 := HBX2.out.keep hf4 (fun h => h)
  have x0 : w4.cell? ⟨w.heap.size, 0, none⟩ = some (.int .u8 5) := hbx3.cell 0
  have x1 : w4.cell? ⟨w.heap.size, 1, none⟩ = some (.int .i64 h) := hbx3.cell 1
  have x2 : w4.cell? ⟨w.heap.size, 2, none⟩ = some (.int .u8 0) := hbx3.cell 2
  have x3 : w4.cell? ⟨w.heap.size, 3, none⟩ = some (.int .i64 0) := hbx3.cell 3
  have x4 : w4.cell? ⟨w.heap.size, 4, none⟩ = some (.string ⟨#[]⟩) := hbx3.cell 4
  have x5 : w4.cell? ⟨w.heap.size, 5, none⟩ = some (.slice none 0 0) := hbx3.cell 5
  have x6 : w4.cell? ⟨w.heap.size, 6, none⟩ = some (.int .i64 0) := hbx3.cell 6
  have x7 : w4.cell? ⟨w.heap.size, 7, none⟩ = some (.slice none 0 0) := hbx3.cell 7
  have x8 : w4.cell? ⟨w.heap.size, 8, none⟩ = some (.int .i64 0) := hbx3.cell 8
  have x9 : w4.cell? ⟨w.heap.size, 9, none⟩ = some (.int .i64 0) := hbx3.cell 9
  have x10 : w4.cell? ⟨w.heap.size, 10, none⟩ = some (.int .i64 0) := hbx3.cell 10
  have x11 : w4.cell? ⟨w.heap.size, 11, none⟩ = some (.int .i64 0) := hbx3.cell 11
  have x12 : w4.cell? ⟨w.heap.size, 12, none⟩ = some (.int .u8 0) := hbx3.cell 12
  have x13 : w4.cell? ⟨w.heap.size, 13, none⟩ = some (.bool false) := hbx3.cell 13
  have x14 : w4.cell? ⟨w.heap.size, 14, none⟩ = some (.slice none 0 0) := hbx3.cell 14
  have x15 : w4.cell? ⟨w.heap.size, 15, none⟩ = some (.slice none 0 0) := hbx3.cell 15
  have hq3 : w.heap.size < w4.heap.size := hbx3.lt
  have HBX3 := Lib.hid hbx3; clear hbx3
  have hfw3 := HFW2.out.trans hf4
  have HFW3 := Lib.hid hfw3; clear hfw3 hf4
  go_wp2_with fail
  refine (Of_any none_ True [] none 0 _ (by simp) (Nat.le_refl _) (by unfold RVs; trivial) (fun b hd => hd.elim)).mono ?_
  rintro e w5 ⟨ov, oa, oc, rfl, hf5⟩
  rw [ofErr_nil]
  have hbx4 := HBX3.out.keep hf5 (fun h => h)
  have x0 : w5.cell? ⟨w.heap.size, 0, none⟩ = some (.int .u8 5) := hbx4.cell 0
  have x1 : w5.cell? ⟨w.heap.size, 1, none⟩ = some (.int .i64 h) := hbx4.cell 1
  have x2 : w5.cell? ⟨w.heap.size, 2, none⟩ = some (.int .u8 0) := hbx4.cell 2
  have x3 : w5.cell? ⟨w.heap.size, 3, none⟩ = some (.int .i64 0) := hbx4.cell 3
  have x4 : w5.cell? ⟨w.heap.size, 4, none⟩ = some (.string ⟨#[]⟩) := hbx4.cell 4
  have x5 : w5.cell? ⟨w.heap.size, 5, none⟩ = some (.slice none 0 0) := hbx4.cell 5
  have x6 : w5.cell? ⟨w.heap.size, 6, none⟩ = some (.int .i64 0) := hbx4.cell 6
  have x7 : w5.cell? ⟨w.heap.size, 7, none⟩ = some (.slice none 0 0) := hbx4.cell 7
  have x8 : w5.cell? ⟨w.heap.size, 8, none⟩ = some (.int .i64 0) := hbx4.cell 8
  have x9 : w5.cell? ⟨w.heap.size, 9, none⟩ = some (.int .i64 0) := hbx4.cell 9
  have x10 : w5.cell? ⟨w.heap.size, 10, none⟩ = some (.int .i64 0) := hbx4.cell 10
  have x11 : w5.cell? ⟨w.heap.size, 11, none⟩ = some (.int .i64 0) := hbx4.cell 11
  have x12 : w5.cell? ⟨w.heap.size, 12, none⟩ = some (.int .u8 0) := hbx4.cell 12
  have x13 : w5.cell? ⟨w.heap.size, 13, none⟩ = some (.bool false) := hbx4.cell 13
  have x14 : w5.cell? ⟨w.heap.size, 14, none⟩ = some (.slice none 0 0) := hbx4.cell 14
  have x15 : w5.cell? ⟨w.heap.size, 15, none⟩ = some (.slice none 0 0) := hbx4.cell 15
  have hq4 : w.heap.size < w5.heap.size := hbx4.lt
  have HBX4 := Lib.hid hbx4; clear hbx4
  have hfw4 := HFW3.out.trans hf5
  have HFW4 := Lib.hid hfw4; clear hfw4 hf5
  go_wp2
  refine wp_loop_rounds 1 ?_
  rw [rounds_succ]
  go_wp2
  go_ret
  exact ⟨rfl, HFW4.out.alloc _⟩
set_option maxRecDepth 100000 in
set_option maxHeartbeats 4000000 in
theorem form_6 {w : World} {p : Nat} {W : AW} {M D : Nat → Prop} {pa : Option Addr} {pc bc bt bf bm ck fk : Nat} {L : List (Int × Nat × Nat)} {FL : List ((Int × Int) × Int × Nat)} (hr : RepW w p W M D pa pc bc bt bf bm ck fk L FL)
    (h : Int) (hh : sideB W h = true) (of_ : Int) :
    Calls Try.prog 46 #[.pointer (some ⟨p, 0, none⟩), .agg #[.int .u8 6, .int .i64 h, .int .u8 0, .int .i64 0, .string ⟨#[]⟩, .slice none 0 0, .int .i64 0, .slice none 0 0, .int .i64 0, .int .i64 0, .int .i64 of_, .int .i64 0, .int .u8 0, .bool false, .slice none 0 0, .slice none 0 0]] w (Bool_ w true) := by
  have HR := Lib.hid hr; clear hr
  have HH := Lib.hid hh; clear hh
  go_enter Try.func46, Try.ntmps46
  go_wp2_with fail
  refine (bare_6 h 0 0 0 0 0 of_ 0 0 ⟨#[]⟩ false none none none none 0 0 0 0 0 0 0 0 _).mono ?_
  rintro e w1 ⟨rfl, hf⟩
  go_upto_region 2 with (fail)
  refine code_gen ?_
  intro W1 hW
  have hsz := hf.size
  rw [World.size_alloc] at hsz
  have hbx0 : Blk W1 w.heap.size [.int .u8 6, .int .i64 h, .int .u8 0, .int .i64 0, .string ⟨#[]⟩, .slice none 0 0, .int .i64 0, .slice none 0 0, .int .i64 0, .int .i64 0, .int .i64 of_, .int .i64 0, .int .u8 0, .bool false, .slice none 0 0, .slice none 0 0] 69 := by rw [hW]; exact ((Blk.new w _ _).keep hf (fun h => h)).alloc _
  have hby0 : Blk W1 w1.heap.size [.int .u8 6, .int .i64 h, .int .u8 0, .int .i64 0, .string ⟨#[]⟩, .slice none 0 0, .int .i64 0, .slice none 0 0, .int .i64 0, .int .i64 0, .int .i64 of_, .int .i64 0, .int .u8 0, .bool false, .slice none 0 0, .slice none 0 0] 69 := by rw [hW]; exact Blk.new w1 _ _
  have hfw0 : Fr none_ w W1 := by rw [hW]; exact (((Fr.refl none_ w).alloc _).trans hf).alloc _
  clear hW hf
  have x0 : W1.cell? ⟨w.heap.size, 0, none⟩ = some (.int .u8 6) := hbx0.cell 0
  have x1 : W1.cell? ⟨w.heap.size, 1, none⟩ = some (.int .i64 h) := hbx0.cell 1
  have x2 : W1.cell? ⟨w.heap.size, 2, none⟩ = some (.int .u8 0) := hbx0.cell 2
  have x3 : W1.cell? ⟨w.heap.size, 3, none⟩ = some (.int .i64 0) := hbx0.cell 3
  have x4 : W1.cell? ⟨w.heap.size, 4, none⟩ = some (.string ⟨#[]⟩) := hbx0.cell 4
  have x5 : W1.cell? ⟨w.heap.size, 5, none⟩ = some (.slice none 0 0) := hbx0.cell 5
  have x6 : W1.cell? ⟨w.heap.size, 6, none⟩ = some (.int .i64 0) := hbx0.cell 6
  have x7 : W1.cell? ⟨w.heap.size, 7, none⟩ = some (.slice none 0 0) := hbx0.cell 7
  have x8 : W1.cell? ⟨w.heap.size, 8, none⟩ = some (.int .i64 0) := hbx0.cell 8
  have x9 : W1.cell? ⟨w.heap.size, 9, none⟩ = some (.int .i64 0) := hbx0.cell 9
  have x10 : W1.cell? ⟨w.heap.size, 10, none⟩ = some (.int .i64 of_) := hbx0.cell 10
  have x11 : W1.cell? ⟨w.heap.size, 11, none⟩ = some (.int .i64 0) := hbx0.cell 11
  have x12 : W1.cell? ⟨w.heap.size, 12, none⟩ = some (.int .u8 0) := hbx0.cell 12
  have x13 : W1.cell? ⟨w.heap.size, 13, none⟩ = some (.bool false) := hbx0.cell 13
  have x14 : W1.cell? ⟨w.heap.size, 14, none⟩ = some (.slice none 0 0) := hbx0.cell 14
  have x15 : W1.cell? ⟨w.heap.size, 15, none⟩ = some (.slice none 0 0) := hbx0.cell 15
  have y0 : W1.cell? ⟨w1.heap.size, 0, none⟩ = some (.int .u8 6) := hby0.cell 0
  have y1 : W1.cell? ⟨w1.heap.size, 1, none⟩ = some (.int .i64 h) := hby0.cell 1
  have y2 : W1.cell? ⟨w1.heap.size, 2, none⟩ = some (.int .u8 0) := hby0.cell 2
  have y3 : W1.cell? ⟨w1.heap.size, 3, none⟩ = some (.int .i64 0) := hby0.cell 3
  have y4 : W1.cell? ⟨w1.heap.size, 4, none⟩ = some (.string ⟨#[]⟩) := hby0.cell 4
  have y5 : W1.cell? ⟨w1.heap.size, 5, none⟩ = some (.slice none 0 0) := hby0.cell 5
  have y6 : W1.cell? ⟨w1.heap.size, 6, none⟩ = some (.int .i64 0) := hby0.cell 6
  have y7 : W1.cell? ⟨w1.heap.size, 7, none⟩ = some (.slice none 0 0) := hby0.cell 7
  have y8 : W1.cell? ⟨w1.heap.size, 8, none⟩ = some (.int .i64 0) := hby0.cell 8
  have y9 : W1.cell? ⟨w1.heap.size, 9, none⟩ = some (.int .i64 0) := hby0.cell 9
  have y10 : W1.cell? ⟨w1.heap.size, 10, none⟩ = some (.int .i64 of_) := hby0.cell 10
  have y11 : W1.cell? ⟨w1.heap.size, 11, none⟩ = some (.int .i64 0) := hby0.cell 11
  have y12 : W1.cell? ⟨w1.heap.size, 12, none⟩ = some (.int .u8 0) := hby0.cell 12
  have y13 : W1.cell? ⟨w1.heap.size, 13, none⟩ = some (.bool false) := hby0.cell 13
  have y14 : W1.cell? ⟨w1.heap.size, 14, none⟩ = some (.slice none 0 0) := hby0.cell 14
  have y15 : W1.cell? ⟨w1.heap.size, 15, none⟩ = some (.slice none 0 0) := hby0.cell 15
  have HBX0 := Lib.hid hbx0; clear hbx0
  have HBY0 := Lib.hid hby0; clear hby0
  have HFW0 := Lib.hid hfw0; clear hfw0
  have HSZ := Lib.hid hsz; clear hsz
  go_wp2_with fail
  refine (blank_any V.zero none 0 _).mono ?_
  rintro e w2 ⟨rfl, hf2⟩
  rw [blankB_zero]
  have hbx1 := HBX0.out.keep hf2 (fun h => h)
  have x0 : w2.cell? ⟨w.heap.size, 0, none⟩ = some (.int .u8 6) := hbx1.cell 0
  have x1 : w2.cell? ⟨w.heap.size, 1, none⟩ = some (.int .i64 h) := hbx1.cell 1
  have x2 : w2.cell? ⟨w.heap.size, 2, none⟩ = some (.int .u8 0) := hbx1.cell 2
  have x3 : w2.cell? ⟨w.heap.size, 3, none⟩ = some (.int .i64 0) := hbx1.cell 3
  have x4 : w2.cell? ⟨w.heap.size, 4, none⟩ = some (.string ⟨#[]⟩) := hbx1.cell 4
  have x5 : w2.cell? ⟨w.heap.size, 5, none⟩ = some (.slice none 0 0) := hbx1.cell 5
  have x6 : w2.cell? ⟨w.heap.size, 6, none⟩ = some (.int .i64 0) := hbx1.cell 6
  have x7 : w2.cell? ⟨w.heap.size, 7, none⟩ = some (.slice none 0 0) := hbx1.cell 7
  have x8 : w2.cell? ⟨w.heap.size, 8, none⟩ = some (.int .i64 0) := hbx1.cell 8
  have x9 : w2.cell? ⟨w.heap.size, 9, none⟩ = some (.int .i64 0) := hbx1.cell 9
  have x10 : w2.cell? ⟨w.heap.size, 10, none⟩ = some (.int .i64 of_) := hbx1.cell 10
  have x11 : w2.cell? ⟨w.heap.size, 11, none⟩ = some (.int .i64 0) := hbx1.cell 11
  have x12 : w2.cell? ⟨w.heap.size, 12, none⟩ = some (.int .u8 0) := hbx1.cell 12
  have x13 : w2.cell? ⟨w.heap.size, 13, none⟩ = some (.bool false) := hbx1.cell 13
  have x14 : w2.cell? ⟨w.heap.size, 14, none⟩ = some (.slice none 0 0) := hbx1.cell 14
  have x15 : w2.cell? ⟨w.heap.size, 15, none⟩ = some (.slice none 0 0) := hbx1.cell 15
  have hq1 : w.heap.size < w2.heap.size := hbx1.lt
  have HBX1 := Lib.hid hbx1; clear hbx1
  have hfw1 := HFW0.out.trans hf2
  have HFW1 := Lib.hid hfw1; clear hfw1 hf2
  go_wp2_with fail
  refine (blank_any V.zero none 0 _).mono ?_
  rintro e w3 ⟨rfl, hf3⟩
  rw [blankB_zero]
  have hbx2 := HBX1.out.keep hf3 (fun h => h)
  have x0 : w3.cell? ⟨w.heap.size, 0, none⟩ = some (.int .u8 6) := hbx2.cell 0
  have x1 : w3.cell? ⟨w.heap.size, 1, none⟩ = some (.int .i64 h) := hbx2.cell 1
  have x2 : w3.cell? ⟨w.heap.size, 2, none⟩ = some (.int .u8 0) := hbx2.cell 2
  have x3 : w3.cell? ⟨w.heap.size, 3, none⟩ = some (.int .i64 0) := hbx2.cell 3
  have x4 : w3.cell? ⟨w.heap.size, 4, none⟩ = some (.string ⟨#[]⟩) := hbx2.cell 4
  have x5 : w3.cell? ⟨w.heap.size, 5, none⟩ = some (.slice none 0 0) := hbx2.cell 5
  have x6 : w3.cell? ⟨w.heap.size, 6, none⟩ = some (.int .i64 0) := hbx2.cell 6
  have x7 : w3.cell? ⟨w.heap.size, 7, none⟩ = some (.slice none 0 0) := hbx2.cell 7
  have x8 : w3.cell? ⟨w.heap.size, 8, none⟩ = some (.int .i64 0) := hbx2.cell 8
  have x9 : w3.cell? ⟨w.heap.size, 9, none⟩ = some (.int .i64 0) := hbx2.cell 9
  have x10 : w3.cell? ⟨w.heap.size, 10, none⟩ = some (.int .i64 of_) := hbx2.cell 10
  have x11 : w3.cell? ⟨w.heap.size, 11, none⟩ = some (.int .i64 0) := hbx2.cell 11
  have x12 : w3.cell? ⟨w.heap.size, 12, none⟩ = some (.int .u8 0) := hbx2.cell 12
  have x13 : w3.cell? ⟨w.heap.size, 13, none⟩ = some (.bool false) := hbx2.cell 13
  have x14 : w3.cell? ⟨w.heap.size, 14, none⟩ = some (.slice none 0 0) := hbx2.cell 14
  have x15 : w3.cell? ⟨w.heap.size, 15, none⟩ = some (.slice none 0 0) := hbx2.cell 15
  have hq2 : w.heap.size < w3.heap.size := hbx2.lt
  have HBX2 := Lib.hid hbx2; clear hbx2
  have hfw2 := HFW1.out.trans hf3
  have HFW2 := Lib.hid hfw2; clear hfw2 hf3
  go_wp2_with fail
  refine (side_any (HR.out.keep HFW2.out (fun _ _ h => h) (fun _ _ h => h)) h).mono ?_
  rintro e w' ⟨rfl, rfl⟩
  rw [HH.out]
  go_wp2_with fail
  refine (may_any none_ True V.zero none 0 _ (RV_zero _ _ _) (fun b hd => hd.elim)).mono ?_
  rintro e w4 ⟨rfl, hf4⟩
  rw [may_zero]
  have hbx3 := HBX2.out.keep hf4 (fun h => h)
  have x0 : w4.cell? ⟨w.heap.size, 0, none⟩ = some (.int .u8 6) := hbx3.cell 0
  have x1 : w4.cell? ⟨w.heap.size, 1, none⟩ = some (.int .i64 h) := hbx3.cell 1
  have x2 : w4.cell? ⟨w.heap.size, 2, none⟩ = some (.int .u8 0) := hbx3.cell 2
  have x3 : w4.cell? ⟨w.heap.size, 3, none⟩ = some (.int .i64 0) := hbx3.cell 3
  have x4 : w4.cell? ⟨w.heap.size, 4, none⟩ = some (.string ⟨#[]⟩) := hbx3.cell 4
  have x5 : w4.cell? ⟨w.heap.size, 5, none⟩ = some (.slice none 0 0) := hbx3.cell 5
  have x6 : w4.cell? ⟨w.heap.size, 6, none⟩ = some (.int .i64 0) := hbx3.cell 6
  have x7 : w4.cell? ⟨w.heap.size, 7, none⟩ = some (.slice none 0 0) := hbx3.cell 7
  have x8 : w4.cell? ⟨w.heap.size, 8, none⟩ = some (.int .i64 0) := hbx3.cell 8
  have x9 : w4.cell? ⟨w.heap.size, 9, none⟩ = some (.int .i64 0) := hbx3.cell 9
  have x10 : w4.cell? ⟨w.heap.size, 10, none⟩ = some (.int .i64 of_) := hbx3.cell 10
  have x11 : w4.cell? ⟨w.heap.size, 11, none⟩ = some (.int .i64 0) := hbx3.cell 11
  have x12 : w4.cell? ⟨w.heap.size, 12, none⟩ = some (.int .u8 0) := hbx3.cell 12
  have x13 : w4.cell? ⟨w.heap.size, 13, none⟩ = some (.bool false) := hbx3.cell 13
  have x14 : w4.cell? ⟨w.heap.size, 14, none⟩ = some (.slice none 0 0) := hbx3.cell 14
  have x15 : w4.cell? ⟨w.heap.size, 15, none⟩ = some (.slice none 0 0) := hbx3.cell 15
  have hq3 : w.heap.size < w4.heap.size := hbx3.lt
  have HBX3 := Lib.hid hbx3; clear hbx3
  have hfw3 := HFW2.out.trans hf4
  have HFW3 := Lib.hid hfw3; clear hfw3 hf4
  go_wp2_with fail
  refine (Of_any none_ True [] none 0 _ (by simp) (Nat.le_refl _) (by unfold RVs; trivial) (fun b hd => hd.elim)).mono ?_
  rintro e w5 ⟨ov, oa, oc, rfl, hf5⟩
  rw [ofErr_nil]
  have hbx4 := HBX3.out.keep hf5 (fun h => h)
  have x0 : w5.cell? ⟨w.heap.size, 0, none⟩ = some (.int .u8 6) := hbx4.cell 0
  have x1 : w5.cell? ⟨w.heap.size, 1, none⟩ = some (.int .i64 h) := hbx4.cell 1
  have x2 : w5.cell? ⟨w.heap.size, 2, none⟩ = some (.int .u8 0) := hbx4.cell 2
  have x3 : w5.cell? ⟨w.heap.size, 3, none⟩ = some (.int .i64 0) := hbx4.cell 3
  have x4 : w5.cell? ⟨w.heap.size, 4, none⟩ = some (.string ⟨#[]⟩) := hbx4.cell 4
  have x5 : w5.cell? ⟨w.heap.size, 5, none⟩ = some (.slice none 0 0) := hbx4.cell 5
  have x6 : w5.cell? ⟨w.heap.size, 6, none⟩ = some (.int .i64 0) := hbx4.cell 6
  have x7 : w5.cell? ⟨w.heap.size, 7, none⟩ = some (.slice none 0 0) := hbx4.cell 7
  have x8 : w5.cell? ⟨w.heap.size, 8, none⟩ = some (.int .i64 0) := hbx4.cell 8
  have x9 : w5.cell? ⟨w.heap.size, 9, none⟩ = some (.int .i64 0) := hbx4.cell 9
  have x10 : w5.cell? ⟨w.heap.size, 10, none⟩ = some (.int .i64 of_) := hbx4.cell 10
  have x11 : w5.cell? ⟨w.heap.size, 11, none⟩ = some (.int .i64 0) := hbx4.cell 11
  have x12 : w5.cell? ⟨w.heap.size, 12, none⟩ = some (.int .u8 0) := hbx4.cell 12
  have x13 : w5.cell? ⟨w.heap.size, 13, none⟩ = some (.bool false) := hbx4.cell 13
  have x14 : w5.cell? ⟨w.heap.size, 14, none⟩ = some (.slice none 0 0) := hbx4.cell 14
  have x15 : w5.cell? ⟨w.heap.size, 15, none⟩ = some (.slice none 0 0) := hbx4.cell 15
  have hq4 : w.heap.size < w5.heap.size := hbx4.lt
  have HBX4 := Lib.hid hbx4; clear hbx4
  have hfw4 := HFW3.out.trans hf5
  have HFW4 := Lib.hid hfw4; clear hfw4 hf5
  go_wp2
  refine wp_loop_rounds 1 ?_
  rw [rounds_succ]
  go_wp2
  go_ret
  exact ⟨rfl, HFW4.out.alloc _⟩
end Go.Proofs.Ytpgjbbefgacjkaa
