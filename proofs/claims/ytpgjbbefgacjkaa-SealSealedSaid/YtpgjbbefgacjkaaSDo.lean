/- 'Do' of package seal at an opener that is asked: what 'Open' tells. -/
import Derived.Test.YtpgjbbefgacjkaaSSeal
namespace Go.Proofs.Ytpgjbbefgacjkaa
open Go.RowKit
set_option linter.unusedSimpArgs false
set_option linter.unusedVariables false
set_option linter.unusedSectionVars false
set_option maxRecDepth 100000 in
set_option maxHeartbeats 1000000 in
theorem ableMay_16 (w : World) : Calls Try.prog 61 #[.int .u8 16] w (Same (.bool true) w) := by
  go_enter Try.func61, Try.ntmps61
  go_wp2
  go_ret
  exact ⟨rfl, rfl⟩
set_option maxRecDepth 100000 in
set_option maxHeartbeats 1000000 in
theorem ones8_16 (w : World) : Calls Try.prog 62 #[.int .u8 16] w (Same (.int .i64 1) w) := by
  go_enter Try.func62, Try.ntmps62
  go_wp2
  go_ret
  exact ⟨ret_int (by kernel_rfl), rfl⟩
set_option maxRecDepth 100000 in
set_option maxHeartbeats 1000000 in
theorem one_16 (w : World) : Calls Try.prog 44 #[.int .u8 16] w (Same (.bool true) w) := by
  go_enter Try.func44, Try.ntmps44
  go_wp2_with fail
  refine (ableMay_16 w).mono ?_
  rintro e w ⟨rfl, rfl⟩
  go_wp2_with fail
  refine (ones8_16 _).mono ?_
  rintro e w ⟨rfl, rfl⟩
  go_wp2
  go_ret
  exact ⟨rfl, rfl⟩
section
variable {w : World} {p : Nat} {W : AW} {M D : Nat → Prop} {pa : Option Addr} {pc bc bt bf bm ck fk : Nat} {L : List (Int × Nat × Nat)} {FL : List ((Int × Int) × Int × Nat)}
set_option maxRecDepth 100000 in
set_option maxHeartbeats 4000000 in
theorem do_open (h : RepW w p W M D pa pc bc bt bf bm ck fk L FL) (r : Int) (x : X) (v : V) (va : Option Addr) (vc : Nat) (Dv : Nat → Prop) (z : Prop) (hx : W.at_ r = some x) (hk6 : x.kind = 6) (hmay : v.may = true) (hrefs : allThings W v.refs = true)
    (hv : RV w Dv z v (v.cells va vc)) (hD : ∀ b, Dv b → b < w.heap.size) (u : V) (n : Int) (hop : ∀ w', Fr none_ w w' → Calls Try.prog 18 #[.pointer (some ⟨p, 0, none⟩), .int .i64 r, v.agg va vc] w' (OwnOut2 w' u n)) :
    Calls Try.prog 23 #[.pointer (some ⟨p, 0, none⟩), .int .i64 r, .int .u8 16, v.agg va vc] w (OwnOut2 w u n) := by
  have hz := zero_What
  have hzv := zero_Value
  have hko : kindOf W r = 6 := by unfold kindOf; rw [hx]; exact hk6
  have his : (W.at_ r).isSome = true := by rw [hx]; rfl
  have hre : refsErr W v = 0 := by unfold refsErr; rw [if_pos hrefs]
  have H := Lib.hid h; clear h
  have HV := Lib.hid hv; clear hv
  have HD := Lib.hid hD; clear hD
  have HMAY := Lib.hid hmay; clear hmay
  have HKO := Lib.hid hko; clear hko
  have HIS := Lib.hid his; clear his
  have HRE := Lib.hid hre; clear hre
  have HOP := Lib.hid hop; clear hop
  clear hx hk6 hrefs
  go_enter Try.func23, Try.ntmps23
  go_upto_region 1 with (fail)
  refine code_gen ?_
  intro W1 hW
  have hbx1 : Blk W1 w.heap.size (v.cells va vc) 37 := by rw [hW]; exact (Blk.new w _ _).alloc _
  have hby1 : Blk W1 (w.heap.size + 1) zero5 37 := by rw [hW]; have h := Blk.new (w.alloc (.cells (v.cells va vc).toArray 37)) zero5 37; rw [World.size_alloc] at h; exact h
  have hfw1 : Fr none_ w W1 := by rw [hW]; exact ((Fr.refl _ _).alloc _).alloc _
  clear hW
  have x0 : W1.cell? ⟨w.heap.size, 0, none⟩ = some (.int .u8 v.k) := hbx1.cell 0
  have x1 : W1.cell? ⟨w.heap.size, 1, none⟩ = some (.int .i64 v.n) := hbx1.cell 1
  have x2 : W1.cell? ⟨w.heap.size, 2, none⟩ = some (.string v.s) := hbx1.cell 2
  have x3 : W1.cell? ⟨w.heap.size, 3, none⟩ = some (.slice va v.l.length vc) := hbx1.cell 3
  have x4 : W1.cell? ⟨w.heap.size, 4, none⟩ = some (.int .i64 v.r) := hbx1.cell 4
  have HBX1 := Lib.hid hbx1; clear hbx1
  have HBY1 := Lib.hid hby1; clear hby1
  have HFW1 := Lib.hid hfw1; clear hfw1
  have hd : ∀ w', Fr none_ w w' → ∀ b, Dv b → b < w'.heap.size := fun w' hf b hb => Nat.lt_of_lt_of_le (HD.out b hb) hf.size
  have HDD := Lib.hid hd; clear hd
  go_wp2_with fail
  refine (sthere_any (H.out.keep HFW1.out (fun _ _ h => h) (fun _ _ h => h))).mono ?_
  rintro e W1 ⟨rfl, rfl⟩
  go_wp2_with fail
  refine (one_16 _).mono ?_
  rintro e W1 ⟨rfl, rfl⟩
  go_wp2_with fail
  refine (may_any Dv z v va vc _ (HV.out.fr HFW1.out (fun _ _ h => h)) (HDD.out _ HFW1.out)).mono ?_
  rintro e W2 ⟨rfl, hf2⟩
  rw [HMAY.out]
  have hby2 := HBY1.out.keep hf2 (fun h => h)
  have HBY2 := Lib.hid hby2; clear hby2
  have hbx2 := HBX1.out.keep hf2 (fun h => h)
  have hfw2 := HFW1.out.trans hf2
  clear x0 x1 x2 x3 x4
  have x0 : W2.cell? ⟨w.heap.size, 0, none⟩ = some (.int .u8 v.k) := hbx2.cell 0
  have x1 : W2.cell? ⟨w.heap.size, 1, none⟩ = some (.int .i64 v.n) := hbx2.cell 1
  have x2 : W2.cell? ⟨w.heap.size, 2, none⟩ = some (.string v.s) := hbx2.cell 2
  have x3 : W2.cell? ⟨w.heap.size, 3, none⟩ = some (.slice va v.l.length vc) := hbx2.cell 3
  have x4 : W2.cell? ⟨w.heap.size, 4, none⟩ = some (.int .i64 v.r) := hbx2.cell 4
  have HBX2 := Lib.hid hbx2; clear hbx2
  have HFW2 := Lib.hid hfw2; clear hfw2
  clear hf2
  go_wp2_with fail
  refine (is_any (H.out.keep HFW2.out (fun _ _ h => h) (fun _ _ h => h)) r).mono ?_
  rintro e W2 ⟨rfl, rfl⟩
  rw [HIS.out]
  go_wp2_with fail
  refine (sealrefs_any (H.out.keep HFW2.out (fun _ _ h => h) (fun _ _ h => h)) v va vc Dv z (HV.out.fr HFW2.out (fun _ _ h => h)) (HDD.out _ HFW2.out)).mono ?_
  rintro e W3 ⟨rfl, hf3⟩
  rw [HRE.out]
  have hby3 := HBY2.out.keep hf3 (fun h => h)
  have HBY3 := Lib.hid hby3; clear hby3
  have hbx3 := HBX2.out.keep hf3 (fun h => h)
  have hfw3 := HFW2.out.trans hf3
  clear x0 x1 x2 x3 x4
  have x0 : W3.cell? ⟨w.heap.size, 0, none⟩ = some (.int .u8 v.k) := hbx3.cell 0
  have x1 : W3.cell? ⟨w.heap.size, 1, none⟩ = some (.int .i64 v.n) := hbx3.cell 1
  have x2 : W3.cell? ⟨w.heap.size, 2, none⟩ = some (.string v.s) := hbx3.cell 2
  have x3 : W3.cell? ⟨w.heap.size, 3, none⟩ = some (.slice va v.l.length vc) := hbx3.cell 3
  have x4 : W3.cell? ⟨w.heap.size, 4, none⟩ = some (.int .i64 v.r) := hbx3.cell 4
  have HBX3 := Lib.hid hbx3; clear hbx3
  have HFW3 := Lib.hid hfw3; clear hfw3
  clear hf3
  go_wp2_with fail
  refine (kind_any (H.out.keep HFW3.out (fun _ _ h => h) (fun _ _ h => h)) r).mono ?_
  rintro e W3 ⟨rfl, rfl⟩
  rw [HKO.out]
  go_wp2_with fail
  refine (HOP.out _ HFW3.out).mono ?_
  rintro e W4 ⟨A4, c4, rfl, hu, hf4⟩
  have hby4 := HBY3.out.keep hf4 (fun h => h)
  have hfw4 := HFW3.out.trans hf4
  have hs3 := HFW3.out.size
  have hl3 := HBY3.out.lt
  have HS3 := Lib.hid (And.intro hs3 hl3)
  have HBY4 := Lib.hid hby4
  have HFW4 := Lib.hid hfw4
  have HU := Lib.hid hu
  clear hby4 hfw4 hs3 hl3 hu hf4 x0 x1 x2 x3 x4
  go_wp2_with (refine wpList_stop (.store 37 (.tmp 8) (.tmp 85)) rfl ?_)
  refine Stop.mk ?_
  refine wpList_store_blk (cs := zero5) (t := 37) rfl 37 (.tmp 8) (.tmp 85) rfl (w.heap.size + 1) 0 (u.cells A4 c4) ?e1 ?e2 HBY4.out (by simp) size_Value rfl ?_
  case e1 => rfl
  case e2 => rfl
  have hb5 := HBY4.out.setCells 0 (u.cells A4 c4) (by simp)
  have hf5 := HFW4.out.setCells (w.heap.size + 1) 0 (u.cells A4 c4) (fun h => by omega)
  have hk5 : Fr (· = w.heap.size + 1) W4 (W4.setCells (w.heap.size + 1) 0 (u.cells A4 c4)) := (Fr.refl _ _).setCells _ _ _ (fun _ => rfl)
  have hu5 := (HU.out.fr hk5 (fun b hb e => by have := HS3.out.2; omega)).mono (D' := (w.heap.size ≤ ·)) (fun b hb => Nat.le_trans HS3.out.1 hb)
  show wpList _ _ _ _ _ (W4.setCells (w.heap.size + 1) 0 (u.cells A4 c4))
  have HB5 := Lib.hid hb5
  have HF5 := Lib.hid hf5
  have HU5 := Lib.hid hu5
  clear hb5 hf5 hk5 hu5
  generalize W4.setCells (w.heap.size + 1) 0 (u.cells A4 c4) = W5 at HB5 HF5 HU5 ⊢
  go_wp2
  exact ret_blk2 (g := w.heap.size + 1) (cs := u.cells A4 c4) (t := 37) rfl rfl HB5.out Try.underlying37 rfl size_Value rfl ⟨A4, c4, rfl, HU5.out, HF5.out⟩
end
end Go.Proofs.Ytpgjbbefgacjkaa
