/- 'IsCut' of package gate at a switch; 'Do' at a switch that is asked. -/
import Derived.Test.YtkiinokhdmmagaaGreatGates
import Derived.Test.YtkiinokhdmmagaaGreatAwake9
import Derived.Test.YtkiinokhdmmagaaGreatFormG
namespace Go.Proofs.YtkiinokhdmmagaaGreat
open Go.RowKit
set_option linter.unusedSimpArgs false
set_option linter.unusedVariables false
set_option linter.unusedSectionVars false
set_option maxRecDepth 100000 in
set_option maxHeartbeats 1000000 in
theorem ableMay_1 (w : World) : Calls Tryz.prog 69 #[.int .u8 1] w (Same (.bool true) w) := by
  go_enter Tryz.func69, Tryz.ntmps69
  go_wp2
  go_ret
  exact ⟨rfl, rfl⟩
set_option maxRecDepth 100000 in
set_option maxHeartbeats 1000000 in
theorem ones8_1 (w : World) : Calls Tryz.prog 70 #[.int .u8 1] w (Same (.int .i64 1) w) := by
  go_enter Tryz.func70, Tryz.ntmps70
  go_wp2
  go_ret
  exact ⟨ret_int (by kernel_rfl), rfl⟩
set_option maxRecDepth 100000 in
set_option maxHeartbeats 1000000 in
theorem one_1 (w : World) : Calls Tryz.prog 40 #[.int .u8 1] w (Same (.bool true) w) := by
  go_enter Tryz.func40, Tryz.ntmps40
  go_wp2_with fail
  refine (ableMay_1 w).mono ?_
  rintro e w ⟨rfl, rfl⟩
  go_wp2_with fail
  refine (ones8_1 _).mono ?_
  rintro e w ⟨rfl, rfl⟩
  go_wp2
  go_ret
  exact ⟨rfl, rfl⟩
section
variable {w : World} {p : Nat} {W : AW} {M D : Nat → Prop} {pa : Option Addr} {pc bc bt bf bm ck fk : Nat} {L : List (Int × Nat × Nat)} {FL : List ((Int × Int) × Int × Nat)}
set_option maxRecDepth 100000 in
set_option maxHeartbeats 2000000 in
theorem isCut_sw (h : RepW w p W M D pa pc bc bt bf bm ck fk L FL) (hok : W.Ok) (r : Int) (x : X) (hx : W.at_ r = some x) (hk : x.kind = 13) :
    Calls Tryz.prog 19 #[.pointer (some ⟨p, 0, none⟩), .int .i64 r] w fun e w' => e = .returned (.tuple #[.bool x.full, .int .i64 0]) ∧ Fr none_ w w' := by
  have hz := zero_What
  have d13 : (x.kind == 13) = true := by simp [hk]
  have hp := hok.at_ hx
  have H := Lib.hid h; clear h
  have HP := Lib.hid hp; clear hp
  have HX := Lib.hid hx; clear hx
  clear hok hk
  go_enter Tryz.func19, Tryz.ntmps19
  go_wp2_with fail
  refine (gthere_any H.out).mono ?_
  rintro e w ⟨rfl, rfl⟩
  go_wp2_with fail
  refine (what_yes H.out r x HX.out HP.out.1 HP.out.2).mono ?_
  rintro e W1 ⟨u, rfl, hrx, hf⟩
  have HF := Lib.hid hf; clear hf hrx
  go_upto_region 4 with (fail)
  refine code_gen ?_
  intro W2 hW
  have hb : Blk W2 W1.heap.size (x.cells u) 80 := by rw [hW]; exact Blk.new W1 _ _
  have hf2 : Fr none_ w W2 := by rw [hW]; exact HF.out.alloc _
  clear hW
  have y0 : W2.cell? ⟨W1.heap.size, 0, none⟩ = some (.int .u8 x.kind) := hb.cell 0
  have y13 : W2.cell? ⟨W1.heap.size, 13, none⟩ = some (.bool x.full) := hb.cell 13
  have HF2 := Lib.hid hf2; clear hf2
  clear hb
  go_wp2
  go_ret2
  exact ⟨rfl, HF2.out⟩
set_option maxRecDepth 100000 in
set_option maxHeartbeats 4000000 in
theorem gdo_get (h : RepW w p W M D pa pc bc bt bf bm ck fk L FL) (hok : W.Ok) (r : Int) (x : X) (hx : W.at_ r = some x) (hk : x.kind = 13) (hfl : x.full = true) :
    Calls Tryz.prog 20 #[.pointer (some ⟨p, 0, none⟩), .int .i64 r, .int .u8 1, .agg #[.int .u8 0, .int .i64 0, .string ⟨#[]⟩, .slice none 0 0, .int .i64 0]] w fun e w' => e = .returned (.tuple #[.agg #[.int .u8 1, .int .i64 1, .string ⟨#[]⟩, .slice none 0 0, .int .i64 0], .int .i64 0]) ∧ Fr none_ w w' := by
  have hbn : ∀ W : World, (Instr.build 28 #[(0, .int .u8 1)]).run Tryz.prog W = .ok (.agg #[.int .u8 1, .int .i64 0, .string ⟨#[]⟩, .slice none 0 0, .int .i64 0]) W := fun W => by kernel_rfl
  have hzv := zero_Value
  have hko : kindOf W r = 13 := by unfold kindOf; rw [hx]; exact hk
  have his : (W.at_ r).isSome = true := by rw [hx]; rfl
  have H := Lib.hid h; clear h
  have HOK := Lib.hid hok; clear hok
  have HX := Lib.hid hx; clear hx
  have HK := Lib.hid hk; clear hk
  have HFL := Lib.hid hfl; clear hfl
  have HKO := Lib.hid hko; clear hko
  have HIS := Lib.hid his; clear his
  go_enter Tryz.func20, Tryz.ntmps20
  go_upto_region 2 with (fail)
  refine code_gen ?_
  intro W1 hW
  have hb0 : Blk W1 w.heap.size zero5 28 := by rw [hW]; exact ((Blk.new w _ _).alloc _).alloc _
  have hb1 : Blk W1 (w.heap.size + 1) zero5 28 := by
    rw [hW]
    have h := Blk.new (w.alloc (.cells zero5.toArray 28)) zero5 28
    rw [World.size_alloc] at h
    exact h.alloc _
  have hf : Fr none_ w W1 := by rw [hW]; exact (((Fr.refl _ _).alloc _).alloc _).alloc _
  have hb2 : Blk W1 (w.heap.size + 1 + 1) zero5 28 := by
    rw [hW]
    have h := Blk.new ((w.alloc (.cells zero5.toArray 28)).alloc (.cells zero5.toArray 28)) zero5 28
    rw [World.size_alloc, World.size_alloc] at h
    exact h
  clear hW
  have x0 : W1.cell? ⟨w.heap.size, 0, none⟩ = some (.int .u8 0) := hb0.cell 0
  have x1 : W1.cell? ⟨w.heap.size, 1, none⟩ = some (.int .i64 0) := hb0.cell 1
  have x2 : W1.cell? ⟨w.heap.size, 2, none⟩ = some (.string ⟨#[]⟩) := hb0.cell 2
  have x3 : W1.cell? ⟨w.heap.size, 3, none⟩ = some (.slice none 0 0) := hb0.cell 3
  have x4 : W1.cell? ⟨w.heap.size, 4, none⟩ = some (.int .i64 0) := hb0.cell 4
  have h1 := H.out.keep hf (fun _ _ h => h) (fun _ _ h => h)
  have H1 := Lib.hid h1; clear h1
  have HB0 := Lib.hid hb0; clear hb0
  have HB1 := Lib.hid hb1; clear hb1
  have HB2 := Lib.hid hb2; clear hb2
  have HF := Lib.hid hf; clear hf
  go_wp2_with fail
  refine (gthere_any H1.out).mono ?_
  rintro e W1 ⟨rfl, rfl⟩
  go_wp2_with fail
  refine (one_1 _).mono ?_
  rintro e W1 ⟨rfl, rfl⟩
  go_wp2_with fail
  refine (may_any none_ True V.zero none 0 _ (RV_zero _ _ _) (fun b hd => hd.elim)).mono ?_
  rintro e W2 ⟨rfl, hf2⟩
  rw [may_zero]
  have hb0 := HB0.out.keep hf2 (fun h => h)
  have hb1 := HB1.out.keep hf2 (fun h => h)
  have hb2 := HB2.out.keep hf2 (fun h => h)
  have hff := HF.out.trans hf2
  clear x0 x1 x2 x3 x4
  have x0 : W2.cell? ⟨w.heap.size, 0, none⟩ = some (.int .u8 0) := hb0.cell 0
  have x1 : W2.cell? ⟨w.heap.size, 1, none⟩ = some (.int .i64 0) := hb0.cell 1
  have x2 : W2.cell? ⟨w.heap.size, 2, none⟩ = some (.string ⟨#[]⟩) := hb0.cell 2
  have x3 : W2.cell? ⟨w.heap.size, 3, none⟩ = some (.slice none 0 0) := hb0.cell 3
  have x4 : W2.cell? ⟨w.heap.size, 4, none⟩ = some (.int .i64 0) := hb0.cell 4
  have h2 := H1.out.keep hf2 (fun _ _ h => h) (fun _ _ h => h)
  have H2 := Lib.hid h2; clear h2
  have HC1 := Lib.hid hb1; clear hb1
  have HC2 := Lib.hid hb2; clear hb2
  have HFF := Lib.hid hff; clear hff
  clear hb0 hf2
  go_wp2_with fail
  refine (is_any H2.out r).mono ?_
  rintro e W2 ⟨rfl, rfl⟩
  rw [HIS.out]
  go_wp2_with fail
  refine (Refs_any none_ True V.zero none 0 _ (RV_zero _ _ _) (fun b hd => hd.elim)).mono ?_
  rintro e W3 ⟨sv, rfl, hown, hf3⟩
  rw [refs_zero] at hown
  obtain ⟨A3, c3, rfl, _, _, _, _⟩ := hown.rd
  have hb1 := HC1.out.keep hf3 (fun h => h)
  have hb2 := HC2.out.keep hf3 (fun h => h)
  have hff := HFF.out.trans hf3
  have h3 := H2.out.keep hf3 (fun _ _ h => h) (fun _ _ h => h)
  have H3 := Lib.hid h3; clear h3
  have HD1 := Lib.hid hb1; clear hb1
  have HD2 := Lib.hid hb2; clear hb2
  have HFG := Lib.hid hff; clear hff
  clear hown hf3 x0 x1 x2 x3 x4
  go_wp2
  refine wp_loop_rounds 1 ?_
  rw [rounds_succ]
  go_wp2_with fail
  refine (kind_any H3.out r).mono ?_
  rintro e W3 ⟨rfl, rfl⟩
  rw [HKO.out]
  go_upto_region 21 with (fail)
  refine code_gen ?_
  intro W4 hW
  have hb4 : Blk W4 W3.heap.size ((numV 0).cells none 0) 28 := by rw [hW]; exact Blk.new W3 _ _
  have hf4 : Fr none_ W3 W4 := by rw [hW]; exact (Fr.refl _ _).alloc _
  clear hW
  have h4 := H3.out.keep hf4 (fun _ _ h => h) (fun _ _ h => h)
  have hb1 := HD1.out.keep hf4 (fun h => h)
  have hff := HFG.out.trans hf4
  have H4 := Lib.hid h4; clear h4
  have HB4 := Lib.hid hb4; clear hb4
  have HE1 := Lib.hid hb1; clear hb1
  have HFH := Lib.hid hff; clear hff
  clear hf4
  go_wp2_with fail
  refine (isCut_sw H4.out HOK.out r x HX.out HK.out).mono ?_
  rintro e W5 ⟨rfl, hf5⟩
  rw [HFL.out]
  have hb5 := HB4.out.keep hf5 (fun h => h)
  have hb1 := HE1.out.keep hf5 (fun h => h)
  have hff := HFH.out.trans hf5
  have y0 : W5.cell? ⟨W3.heap.size, 0, none⟩ = some (.int .u8 1) := hb5.cell 0
  have y1 : W5.cell? ⟨W3.heap.size, 1, none⟩ = some (.int .i64 0) := hb5.cell 1
  have yf := hb5.frozen 1
  have hs3 := HFG.out.size
  have HS3 := Lib.hid hs3; clear hs3
  have HB5 := Lib.hid hb5; clear hb5
  have HG1 := Lib.hid hb1; clear hb1
  have HFI := Lib.hid hff; clear hff
  clear hf5
  go_upto_region 24 with (fail)
  refine code_gen ?_
  intro W6 hW
  have hb6 : Blk W6 W3.heap.size ((numV 1).cells none 0) 28 := by rw [hW]; exact HB5.out.set 1 _
  have hst : Fr (fun i => i = W3.heap.size) W5 W6 := by rw [hW]; exact Fr.set1 W5 _ 1 _
  clear hW
  have hd1 := HD1.out.lt
  have hb1 := HG1.out.keep hst (fun e => by omega)
  have hff := HFI.out.trans' hst (fun i hi e => by have := HS3.out; omega)
  have z0 : W6.cell? ⟨W3.heap.size, 0, none⟩ = some (.int .u8 1) := hb6.cell 0
  have z1 : W6.cell? ⟨W3.heap.size, 1, none⟩ = some (.int .i64 1) := hb6.cell 1
  have z2 : W6.cell? ⟨W3.heap.size, 2, none⟩ = some (.string ⟨#[]⟩) := hb6.cell 2
  have z3 : W6.cell? ⟨W3.heap.size, 3, none⟩ = some (.slice none 0 0) := hb6.cell 3
  have z4 : W6.cell? ⟨W3.heap.size, 4, none⟩ = some (.int .i64 0) := hb6.cell 4
  have HH1 := Lib.hid hb1; clear hb1
  have HFJ := Lib.hid hff; clear hff
  clear hb6 hst y0 y1 yf
  go_wp2_with (refine wpList_stop (.store 28 (.tmp 8) (.tmp 89)) rfl ?_)
  refine Stop.mk ?_
  refine wpList_store_blk (cs := zero5) (t := 28) rfl 28 (.tmp 8) (.tmp 89) rfl (w.heap.size + 1) 0 ((numV 1).cells none 0) ?e1 ?e2 HH1.out (by simp) size_Value rfl ?_
  case e1 => rfl
  case e2 => rfl
  refine wpList_gen ?_
  intro W7 hW
  have hb7 : Blk W7 (w.heap.size + 1) ((numV 1).cells none 0) 28 := by rw [hW]; exact HH1.out.setCells 0 ((numV 1).cells none 0) (by simp)
  have hf7 : Fr none_ w W7 := by rw [hW]; exact HFJ.out.setCells _ _ _ (fun h => by omega)
  have HB7 := Lib.hid hb7; clear hb7
  have HF7 := Lib.hid hf7; clear hf7
  clear hW
  go_wp2
  exact ret_blk2 (g := w.heap.size + 1) (cs := (numV 1).cells none 0) (t := 28) rfl rfl HB7.out Tryz.underlying28 rfl size_Value rfl ⟨rfl, HF7.out⟩
end
end Go.Proofs.YtkiinokhdmmagaaGreat
