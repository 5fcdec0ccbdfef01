/- 'Lay' of package world, where it lays. -/
import Derived.Test.YtkiinokhdmmagaaGreatGNew
import Derived.Test.YtkiinokhdmmagaaGreatWhat
import Derived.StillTailTactics
namespace Go.Proofs.YtkiinokhdmmagaaGreat
open Go.RowKit
set_option linter.unusedSimpArgs false
set_option linter.unusedVariables false
set_option linter.unusedSectionVars false
section
variable {w : World} {p : Nat} {W : AW} {M D : Nat → Prop} {pa : Option Addr} {pc bc bt bf bm ck fk : Nat} {L : List (Int × Nat × Nat)} {FL : List ((Int × Int) × Int × Nat)}
set_option maxRecDepth 100000 in
set_option maxHeartbeats 8000000 in
theorem wlay_f (h : RepW w p W M D pa pc bc bt bf bm ck fk L FL) (r : Int) (x y : X) (u : Under) (Dy : Nat → Prop) (z : Prop) (hx : W.at_ r = some x) (e0 : y.kind = x.kind) (e1 : y.home = x.home) (e10 : y.of_ = x.of_) (e11 : y.by_ = x.by_) (e12 : y.set = x.set)
    (hxf : x.full = false) (hpy : y.plain) (hmy : y.val.may = true) (hy : RX w Dy z y u) (hdy : ∀ i, Dy i → i < w.heap.size)
    (hform : ∀ w', Fr none_ w w' → Calls Tryz.prog 61 #[.pointer (some ⟨p, 0, none⟩), y.agg u] w' (Bool_ w' true))
    (hnames : ∀ w', Fr none_ w w' → Calls Tryz.prog 62 #[.pointer (some ⟨p, 0, none⟩), y.agg u] w' (Bool_ w' true)) :
    Calls Tryz.prog 56 #[.pointer (some ⟨p, 0, none⟩), .int .i64 r, y.agg u] w (Out_ w p (W.upd r y) M D pa pc bc bt bf bm fk FL (.int .i64 0)) := by
  rcases h.look r with ⟨h1, h2⟩ | ⟨x', b, u1, h1, h2, hm, hbx, hrx⟩
  · rw [hx] at h1; cases h1
  rw [hx] at h1
  injection h1 with h1
  subst h1
  have his : (W.at_ r).isSome = true := by rw [hx]; rfl
  have HIS := Lib.hid his; clear his
  have HX := Lib.hid hx; clear hx
  have HBL := Lib.hid h2; clear h2
  have HM := Lib.hid hm; clear hm
  have HBK := Lib.hid hbx; clear hbx
  have H := Lib.hid h; clear h
  have HPY := Lib.hid hpy; clear hpy
  have HMY := Lib.hid hmy; clear hmy
  have HY := Lib.hid hy; clear hy
  have HDY := Lib.hid hdy; clear hdy
  have HFORM := Lib.hid hform; clear hform
  have HNAMES := Lib.hid hnames; clear hnames
  have E0 := Lib.hid e0; clear e0
  have E1 := Lib.hid e1; clear e1
  have E10 := Lib.hid e10; clear e10
  have E11 := Lib.hid e11; clear e11
  have E12 := Lib.hid e12; clear e12
  have HXF := Lib.hid hxf; clear hxf
  clear hrx
  go_enter Tryz.func56, Tryz.ntmps56
  go_upto_region 1 with (fail)
  refine code_gen ?_
  intro W1 hW
  have hbx1 : Blk W1 w.heap.size (y.cells u) 80 := by rw [hW]; exact Blk.new w _ _
  have hfw1 : Fr none_ w W1 := by rw [hW]; exact (Fr.refl _ _).alloc _
  clear hW
  have hr1 := H.out.keep hfw1 (fun _ _ h => h) (fun _ _ h => h)
  have c2 : W1.cell? ⟨p, 2, none⟩ = some (.map (some bt)) := hr1.c2
  have hl := look_run hr1 r
  rw [HBL.out] at hl
  simp only [Option.map_some] at hl
  have hbk1 := HBK.out.keep hfw1 (fun h => h)
  have x0 : W1.cell? ⟨w.heap.size, 0, none⟩ = some (.int .u8 x.kind) := by rw [← E0.out]; exact hbx1.cell 0
  have x1 : W1.cell? ⟨w.heap.size, 1, none⟩ = some (.int .i64 x.home) := by rw [← E1.out]; exact hbx1.cell 1
  have x10 : W1.cell? ⟨w.heap.size, 10, none⟩ = some (.int .i64 x.of_) := by rw [← E10.out]; exact hbx1.cell 10
  have x11 : W1.cell? ⟨w.heap.size, 11, none⟩ = some (.int .i64 x.by_) := by rw [← E11.out]; exact hbx1.cell 11
  have x12 : W1.cell? ⟨w.heap.size, 12, none⟩ = some (.int .u8 x.set) := by rw [← E12.out]; exact hbx1.cell 12
  have x13 : W1.cell? ⟨w.heap.size, 13, none⟩ = some (.bool y.full) := hbx1.cell 13
  have x2 : W1.cell? ⟨w.heap.size, 2, none⟩ = some (.int .u8 y.val.k) := hbx1.cell 2
  have x3 : W1.cell? ⟨w.heap.size, 3, none⟩ = some (.int .i64 y.val.n) := hbx1.cell 3
  have x4 : W1.cell? ⟨w.heap.size, 4, none⟩ = some (.string y.val.s) := hbx1.cell 4
  have x5 : W1.cell? ⟨w.heap.size, 5, none⟩ = some (.slice u.va y.val.l.length u.vc) := hbx1.cell 5
  have x6 : W1.cell? ⟨w.heap.size, 6, none⟩ = some (.int .i64 y.val.r) := hbx1.cell 6
  have x7 : W1.cell? ⟨w.heap.size, 7, none⟩ = some (.slice u.la y.vals.length u.lc) := hbx1.cell 7
  have x8 : W1.cell? ⟨w.heap.size, 8, none⟩ = some (.int .i64 y.n) := hbx1.cell 8
  have x9 : W1.cell? ⟨w.heap.size, 9, none⟩ = some (.int .i64 y.lost) := hbx1.cell 9
  have x14 : W1.cell? ⟨w.heap.size, 14, none⟩ = some (.slice u.ca y.code.length u.cc) := hbx1.cell 14
  have x15 : W1.cell? ⟨w.heap.size, 15, none⟩ = some (.slice u.na y.names.length u.nc) := hbx1.cell 15
  have y0 : W1.cell? ⟨b, 0, none⟩ = some (.int .u8 x.kind) := hbk1.cell 0
  have y1 : W1.cell? ⟨b, 1, none⟩ = some (.int .i64 x.home) := hbk1.cell 1
  have y10 : W1.cell? ⟨b, 10, none⟩ = some (.int .i64 x.of_) := hbk1.cell 10
  have y11 : W1.cell? ⟨b, 11, none⟩ = some (.int .i64 x.by_) := hbk1.cell 11
  have y12 : W1.cell? ⟨b, 12, none⟩ = some (.int .u8 x.set) := hbk1.cell 12
  have y13 : W1.cell? ⟨b, 13, none⟩ = some (.bool x.full) := hbk1.cell 13
  have HBX1 := Lib.hid hbx1; clear hbx1
  have HFW1 := Lib.hid hfw1; clear hfw1
  have HBK1 := Lib.hid hbk1; clear hbk1
  have HR1 := Lib.hid hr1; clear hr1
  go_wp2_with fail
  refine (none_any p bt W1 c2).mono ?_
  rintro e W1' ⟨rfl, rfl⟩
  go_wp2_with fail
  refine (is_any HR1.out r).mono ?_
  rintro e W2 ⟨rfl, rfl⟩
  rw [HIS.out]
  have z0 : x.kind = y.kind := E0.out.symm
  have z1 : x.home = y.home := E1.out.symm
  have z10 : x.of_ = y.of_ := E10.out.symm
  have z11 : x.by_ = y.by_ := E11.out.symm
  have z12 : x.set = y.set := E12.out.symm
  rw [z0] at x0 y0
  rw [z1] at x1 y1
  rw [z10] at x10 y10
  rw [z11] at x11 y11
  rw [z12] at x12 y12
  clear z0 z1 z10 z11 z12
  rw [HXF.out] at y13
  go_wp2
  go_still_tail 57, (by kernel_rfl)
  change wpList _ _ _ _ _ W2.drew
  have hbx3 : Blk W2.drew w.heap.size (y.cells u) 80 := HBX1.out.keep ((Fr.refl none_ W2).drew) (fun h => h)
  have hbk3 : Blk W2.drew b (x.cells u1) 80 := HBK1.out.keep ((Fr.refl none_ W2).drew) (fun h => h)
  have hfw3 : Fr none_ w W2.drew := HFW1.out.drew
  clear x0 x1 x2 x3 x4 x5 x6 x7 x8 x9 x10 x11 x12 x13 x14 x15 y0 y1 y10 y11 y12 y13 hl c2
  refine Go.Proofs.YtkiinokhdmmagaaGreat.wpList_gen ?_
  intro W3 hW
  rw [← hW] at hbx3 hbk3 hfw3
  clear hW
  have HBX3 := Lib.hid hbx3; clear hbx3
  have HBK3 := Lib.hid hbk3; clear hbk3
  have HFW3 := Lib.hid hfw3; clear hfw3
  go_wp2_with fail
  refine (HFORM.out _ HFW3.out).mono ?_
  rintro e W4 ⟨rfl, hf4⟩
  have hbx4 := HBX3.out.keep hf4 (fun h => h)
  have hbk4 := HBK3.out.keep hf4 (fun h => h)
  have hfw4 := HFW3.out.trans hf4
  have x0 : W4.cell? ⟨w.heap.size, 0, none⟩ = some (.int .u8 y.kind) := hbx4.cell 0
  have x1 : W4.cell? ⟨w.heap.size, 1, none⟩ = some (.int .i64 y.home) := hbx4.cell 1
  have x2 : W4.cell? ⟨w.heap.size, 2, none⟩ = some (.int .u8 y.val.k) := hbx4.cell 2
  have x3 : W4.cell? ⟨w.heap.size, 3, none⟩ = some (.int .i64 y.val.n) := hbx4.cell 3
  have x4 : W4.cell? ⟨w.heap.size, 4, none⟩ = some (.string y.val.s) := hbx4.cell 4
  have x5 : W4.cell? ⟨w.heap.size, 5, none⟩ = some (.slice u.va y.val.l.length u.vc) := hbx4.cell 5
  have x6 : W4.cell? ⟨w.heap.size, 6, none⟩ = some (.int .i64 y.val.r) := hbx4.cell 6
  have x7 : W4.cell? ⟨w.heap.size, 7, none⟩ = some (.slice u.la y.vals.length u.lc) := hbx4.cell 7
  have x8 : W4.cell? ⟨w.heap.size, 8, none⟩ = some (.int .i64 y.n) := hbx4.cell 8
  have x9 : W4.cell? ⟨w.heap.size, 9, none⟩ = some (.int .i64 y.lost) := hbx4.cell 9
  have x10 : W4.cell? ⟨w.heap.size, 10, none⟩ = some (.int .i64 y.of_) := hbx4.cell 10
  have x11 : W4.cell? ⟨w.heap.size, 11, none⟩ = some (.int .i64 y.by_) := hbx4.cell 11
  have x12 : W4.cell? ⟨w.heap.size, 12, none⟩ = some (.int .u8 y.set) := hbx4.cell 12
  have x13 : W4.cell? ⟨w.heap.size, 13, none⟩ = some (.bool y.full) := hbx4.cell 13
  have x14 : W4.cell? ⟨w.heap.size, 14, none⟩ = some (.slice u.ca y.code.length u.cc) := hbx4.cell 14
  have x15 : W4.cell? ⟨w.heap.size, 15, none⟩ = some (.slice u.na y.names.length u.nc) := hbx4.cell 15
  have HBX4 := Lib.hid hbx4; clear hbx4
  have HBK4 := Lib.hid hbk4; clear hbk4
  have HFW4 := Lib.hid hfw4; clear hfw4
  clear hf4
  go_wp2_with fail
  refine (HNAMES.out _ HFW4.out).mono ?_
  rintro e W5 ⟨rfl, hf5⟩
  have hbx5 := HBX4.out.keep hf5 (fun h => h)
  have hbk5 := HBK4.out.keep hf5 (fun h => h)
  have hfw5 := HFW4.out.trans hf5
  clear x0 x1 x2 x3 x4 x5 x6 x7 x8 x9 x10 x11 x12 x13 x14 x15
  have x0 : W5.cell? ⟨w.heap.size, 0, none⟩ = some (.int .u8 y.kind) := hbx5.cell 0
  have x1 : W5.cell? ⟨w.heap.size, 1, none⟩ = some (.int .i64 y.home) := hbx5.cell 1
  have x2 : W5.cell? ⟨w.heap.size, 2, none⟩ = some (.int .u8 y.val.k) := hbx5.cell 2
  have x3 : W5.cell? ⟨w.heap.size, 3, none⟩ = some (.int .i64 y.val.n) := hbx5.cell 3
  have x4 : W5.cell? ⟨w.heap.size, 4, none⟩ = some (.string y.val.s) := hbx5.cell 4
  have x5 : W5.cell? ⟨w.heap.size, 5, none⟩ = some (.slice u.va y.val.l.length u.vc) := hbx5.cell 5
  have x6 : W5.cell? ⟨w.heap.size, 6, none⟩ = some (.int .i64 y.val.r) := hbx5.cell 6
  have x7 : W5.cell? ⟨w.heap.size, 7, none⟩ = some (.slice u.la y.vals.length u.lc) := hbx5.cell 7
  have x8 : W5.cell? ⟨w.heap.size, 8, none⟩ = some (.int .i64 y.n) := hbx5.cell 8
  have x9 : W5.cell? ⟨w.heap.size, 9, none⟩ = some (.int .i64 y.lost) := hbx5.cell 9
  have x10 : W5.cell? ⟨w.heap.size, 10, none⟩ = some (.int .i64 y.of_) := hbx5.cell 10
  have x11 : W5.cell? ⟨w.heap.size, 11, none⟩ = some (.int .i64 y.by_) := hbx5.cell 11
  have x12 : W5.cell? ⟨w.heap.size, 12, none⟩ = some (.int .u8 y.set) := hbx5.cell 12
  have x13 : W5.cell? ⟨w.heap.size, 13, none⟩ = some (.bool y.full) := hbx5.cell 13
  have x14 : W5.cell? ⟨w.heap.size, 14, none⟩ = some (.slice u.ca y.code.length u.cc) := hbx5.cell 14
  have x15 : W5.cell? ⟨w.heap.size, 15, none⟩ = some (.slice u.na y.names.length u.nc) := hbx5.cell 15
  have HBX5 := Lib.hid hbx5; clear hbx5
  have HBK5 := Lib.hid hbk5; clear hbk5
  have HFW5 := Lib.hid hfw5; clear hfw5
  clear hf5
  go_wp2_with fail
  refine (ownWhat_any Dy z y u _ HPY.out HMY.out (HY.out.fr HFW5.out (fun _ _ h => h)) (fun b hd => Nat.lt_of_lt_of_le (HDY.out b hd) HFW5.out.size)).mono ?_
  rintro e W6 ⟨u2, rfl, hrx6, hf6⟩
  have hrx6' := hrx6.weak HPY.out
  have hbk6 := HBK5.out.keep hf6 (fun h => h)
  have hfw6 := HFW5.out.trans hf6
  have hs5 := HFW5.out.size
  have HRX6 := Lib.hid hrx6'; clear hrx6' hrx6
  have HBK6 := Lib.hid hbk6; clear hbk6
  have HFW6 := Lib.hid hfw6; clear hfw6
  have HS5 := Lib.hid hs5; clear hs5
  clear hf6 x0 x1 x2 x3 x4 x5 x6 x7 x8 x9 x10 x11 x12 x13 x14 x15
  go_wp2_with (refine wpList_stop (.store 80 (.tmp 87) (.tmp 86)) rfl ?_)
  refine Stop.mk ?_
  refine wpList_store_blk (cs := x.cells u1) (t := 80) rfl 80 (.tmp 87) (.tmp 86) rfl b 0 (y.cells u2) ?e1 ?e2 HBK6.out (by simp) info_What rfl ?_
  case e1 => rfl
  case e2 => rfl
  refine Go.Proofs.YtkiinokhdmmagaaGreat.wpList_gen ?_
  intro W7 hW
  have hbk7 : Blk W7 b (y.cells u2) 80 := by rw [hW]; exact HBK6.out.setCells 0 (y.cells u2) (by simp)
  have hst : Fr (fun i => i = b) W6 W7 := by rw [hW]; exact (Fr.refl _ _).setCells _ _ _ (fun _ => rfl)
  have hbw := H.out.mlt b HM.out
  have hrx7 := HRX6.out.fr hst (fun i hi e => by have := HS5.out; have := hi.1; omega)
  have hrep7 := (H.out.keep HFW6.out (fun _ _ h => h) (fun _ _ h => h)).upd HBL.out HX.out HBK6.out E0.out (fun _ => ⟨E10.out, E12.out⟩) hst hbk7 hrx7 (fun i hi => ⟨Nat.lt_of_lt_of_le hi.2 hst.size, fun hM => by have := H.out.mlt i hM; have := HS5.out; have := hi.1; omega⟩)
  have hout : Out_ w p (W.upd r y) M D pa pc bc bt bf bm fk FL (.int .i64 0) (.returned (.int .i64 0)) W7 :=
    ⟨_, _, _, _, rfl, hrep7, fun _ h => .inl h, fun i hi => by
      rcases hi with hi | hi
      · exact .inl hi
      · exact .inr (by have := HS5.out; have := hi.1; omega), (HFW6.out.mono (fun _ _ h => h.elim)).trans' hst (fun i _ e => e ▸ HM.out)⟩
  have HOUT := Lib.hid hout; clear hout
  clear hW hbk7 hst hrx7 hrep7
  go_wp2
  go_ret
  exact HOUT.out
end
end Go.Proofs.YtkiinokhdmmagaaGreat
