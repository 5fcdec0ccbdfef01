/- 'Open' of package seal. -/
import Derived.Test.YtpgjbbefgacjkaaSeal2
import Derived.Deep.CutBlock
namespace Go.Proofs.Ytpgjbbefgacjkaa
open Go.RowKit
set_option linter.unusedSimpArgs false
set_option linter.unusedVariables false
set_option linter.unusedSectionVars false
section
variable {w : World} {p : Nat} {W : AW} {M D : Nat → Prop} {pa : Option Addr} {pc bc bt bf bm ck fk : Nat} {L : List (Int × Nat × Nat)} {FL : List ((Int × Int) × Int × Nat)}
set_option maxRecDepth 100000 in
set_option maxHeartbeats 4000000 in
theorem open_yes (h : RepW w p W M D pa pc bc bt bf bm ck fk L FL) (hok : W.Ok) (r : Int) (x : X) (v : V) (va : Option Addr) (vc : Nat) (Dv : Nat → Prop) (z : Prop) (y : X) (hx : W.at_ r = some x) (hk6 : x.kind = 6) (hmay : v.may = true) (hrefs : allThings W v.refs = true)
    (hvk : v.k = 4) (hy : W.at_ v.r = some y) (hk7 : y.kind = 7) (hof : y.of_ = x.of_)
    (hv : RV w Dv z v (v.cells va vc)) (hD : ∀ b, Dv b → b < w.heap.size) :
    Calls Try.prog 18 #[.pointer (some ⟨p, 0, none⟩), .int .i64 r, v.agg va vc] w (OwnOut2 w y.val 0) := by
  have hz := zero_What
  have hzv := zero_Value
  have hbz := build_zero
  have dk : (v.k != 4) = false := by simp [hvk]
  have dof : (y.of_ != x.of_) = false := by simpa using hof
  have hko : kindOf W r = 6 := by unfold kindOf; rw [hx]; exact hk6
  have hkv : kindOf W v.r = 7 := by unfold kindOf; rw [hy]; exact hk7
  have his : (W.at_ r).isSome = true := by rw [hx]; rfl
  have hre : refsErr W v = 0 := by unfold refsErr; rw [if_pos hrefs]
  have hpx := hok.at_ hx
  have hpy := hok.at_ hy
  have H := Lib.hid h; clear h
  have HV := Lib.hid hv; clear hv
  have HD := Lib.hid hD; clear hD
  have HMAY := Lib.hid hmay; clear hmay
  have HKO := Lib.hid hko; clear hko
  have HKV := Lib.hid hkv; clear hkv
  have HIS := Lib.hid his; clear his
  have HRE := Lib.hid hre; clear hre
  have HPX := Lib.hid hpx; clear hpx
  have HPY := Lib.hid hpy; clear hpy
  have HX := Lib.hid hx; clear hx
  have HY := Lib.hid hy; clear hy
  clear hk6 hk7 hvk hof hrefs hok
  go_enter Try.func18, Try.ntmps18
  go_upto_region 1 with (fail)
  refine code_gen ?_
  intro W1 hW
  have hbx1 : Blk W1 w.heap.size (v.cells va vc) 37 := by rw [hW]; exact (Blk.new w _ _).alloc _
  have hby1 : Blk W1 (w.heap.size + 1) zero5 37 := by rw [hW]; have h := Blk.new (w.alloc (.cells (v.cells va vc).toArray 37)) zero5 37; rw [World.size_alloc] at h; exact h
  have hfw1 : Fr none_ w W1 := by rw [hW]; exact ((Fr.refl _ _).alloc _).alloc _
  clear hW
  have x0 : W1.cell? ⟨w.heap.size, 0, none⟩ = some (.int .u8 v.k) := hbx1.cell 0
  have x1 : W1.cell? ⟨w.heap.size, 1, none⟩ = some (.int .i64 v.n) := hbx1.cell 1
  have x2 : W1.cell? ⟨w.heap.size, 2, none⟩ = some (.string v.s) := hbx1.cell 2
  have x3 : W1.cell? ⟨w.heap.size, 3, none⟩ = some (.slice va v.l.length vc) := hbx1.cell 3
  have x4 : W1.cell? ⟨w.heap.size, 4, none⟩ = some (.int .i64 v.r) := hbx1.cell 4
  have HBX1 := Lib.hid hbx1; clear hbx1
  have HBY1 := Lib.hid hby1; clear hby1
  have HFW1 := Lib.hid hfw1; clear hfw1
  have hd : ∀ w', Fr none_ w w' → ∀ b, Dv b → b < w'.heap.size := fun w' hf b hb => Nat.lt_of_lt_of_le (HD.out b hb) hf.size
  have HDD := Lib.hid hd; clear hd
  go_wp2_with fail
  refine (sthere_any (H.out.keep HFW1.out (fun _ _ h => h) (fun _ _ h => h))).mono ?_
  rintro e W1 ⟨rfl, rfl⟩
  go_wp2_with fail
  refine (may_any Dv z v va vc _ (HV.out.fr HFW1.out (fun _ _ h => h)) (HDD.out _ HFW1.out)).mono ?_
  rintro e W2 ⟨rfl, hf2⟩
  rw [HMAY.out]
  have hby2 := HBY1.out.keep hf2 (fun h => h)
  have HBY2 := Lib.hid hby2; clear hby2
  have hbx2 := HBX1.out.keep hf2 (fun h => h)
  have hfw2 := HFW1.out.trans hf2
  clear x0 x1 x2 x3 x4
  have x0 : W2.cell? ⟨w.heap.size, 0, none⟩ = some (.int .u8 v.k) := hbx2.cell 0
  have x1 : W2.cell? ⟨w.heap.size, 1, none⟩ = some (.int .i64 v.n) := hbx2.cell 1
  have x2 : W2.cell? ⟨w.heap.size, 2, none⟩ = some (.string v.s) := hbx2.cell 2
  have x3 : W2.cell? ⟨w.heap.size, 3, none⟩ = some (.slice va v.l.length vc) := hbx2.cell 3
  have x4 : W2.cell? ⟨w.heap.size, 4, none⟩ = some (.int .i64 v.r) := hbx2.cell 4
  have HBX2 := Lib.hid hbx2; clear hbx2
  have HFW2 := Lib.hid hfw2; clear hfw2
  clear hf2
  go_wp2_with fail
  refine (is_any (H.out.keep HFW2.out (fun _ _ h => h) (fun _ _ h => h)) r).mono ?_
  rintro e W2 ⟨rfl, rfl⟩
  rw [HIS.out]
  go_wp2_with fail
  refine (sealrefs_any (H.out.keep HFW2.out (fun _ _ h => h) (fun _ _ h => h)) v va vc Dv z (HV.out.fr HFW2.out (fun _ _ h => h)) (HDD.out _ HFW2.out)).mono ?_
  rintro e W3 ⟨rfl, hf3⟩
  rw [HRE.out]
  have hby3 := HBY2.out.keep hf3 (fun h => h)
  have HBY3 := Lib.hid hby3; clear hby3
  have hbx3 := HBX2.out.keep hf3 (fun h => h)
  have hfw3 := HFW2.out.trans hf3
  clear x0 x1 x2 x3 x4
  have x0 : W3.cell? ⟨w.heap.size, 0, none⟩ = some (.int .u8 v.k) := hbx3.cell 0
  have x1 : W3.cell? ⟨w.heap.size, 1, none⟩ = some (.int .i64 v.n) := hbx3.cell 1
  have x2 : W3.cell? ⟨w.heap.size, 2, none⟩ = some (.string v.s) := hbx3.cell 2
  have x3 : W3.cell? ⟨w.heap.size, 3, none⟩ = some (.slice va v.l.length vc) := hbx3.cell 3
  have x4 : W3.cell? ⟨w.heap.size, 4, none⟩ = some (.int .i64 v.r) := hbx3.cell 4
  have HBX3 := Lib.hid hbx3; clear hbx3
  have HFW3 := Lib.hid hfw3; clear hfw3
  clear hf3
  go_wp2_with fail
  refine (kind_any (H.out.keep HFW3.out (fun _ _ h => h) (fun _ _ h => h)) r).mono ?_
  rintro e W3 ⟨rfl, rfl⟩
  rw [HKO.out]
  go_wp2_with fail
  refine (kind_any (H.out.keep HFW3.out (fun _ _ h => h) (fun _ _ h => h)) v.r).mono ?_
  rintro e W3 ⟨rfl, rfl⟩
  rw [HKV.out]
  go_wp2_with fail
  refine (what_yes (H.out.keep HFW3.out (fun _ _ h => h) (fun _ _ h => h)) v.r y HY.out HPY.out.1 HPY.out.2).mono ?_
  have hs3 := HFW3.out.size
  have hy3 := HBY3.out.lt
  have HS3 := Lib.hid hs3; clear hs3
  have HY3 := Lib.hid hy3; clear hy3
  rintro e W4 ⟨u1, rfl, hrx4, hf4⟩
  have HRX4 := Lib.hid hrx4; clear hrx4
  have hby4 := HBY3.out.keep hf4 (fun h => h)
  have HBY4 := Lib.hid hby4; clear hby4
  have hbx4 := HBX3.out.keep hf4 (fun h => h)
  have hfw4 := HFW3.out.trans hf4
  clear x0 x1 x2 x3 x4
  have x0 : W4.cell? ⟨w.heap.size, 0, none⟩ = some (.int .u8 v.k) := hbx4.cell 0
  have x1 : W4.cell? ⟨w.heap.size, 1, none⟩ = some (.int .i64 v.n) := hbx4.cell 1
  have x2 : W4.cell? ⟨w.heap.size, 2, none⟩ = some (.string v.s) := hbx4.cell 2
  have x3 : W4.cell? ⟨w.heap.size, 3, none⟩ = some (.slice va v.l.length vc) := hbx4.cell 3
  have x4 : W4.cell? ⟨w.heap.size, 4, none⟩ = some (.int .i64 v.r) := hbx4.cell 4
  have HBX4 := Lib.hid hbx4; clear hbx4
  have HFW4 := Lib.hid hfw4; clear hfw4
  clear hf4
  go_upto_region 15 with (fail)
  refine code_gen ?_
  intro W5 hW
  have hb5 : Blk W5 W4.heap.size (y.cells u1) 69 := by rw [hW]; exact Blk.new W4 _ _
  have hf5 : Fr none_ W4 W5 := by rw [hW]; exact (Fr.refl _ _).alloc _
  clear hW
  have hrx5 := HRX4.out.fr hf5 (fun _ _ h => h)
  have hs4 := HFW4.out.size
  have hl4 : W4.heap.size < W5.heap.size := hb5.lt
  have hy4 := HBY4.out.lt
  have HY4 := Lib.hid hy4; clear hy4
  have HS4 := Lib.hid hs4; clear hs4
  have HL4 := Lib.hid hl4; clear hl4
  have HRX5 := Lib.hid hrx5; clear hrx5
  have HB5 := Lib.hid hb5; clear hb5
  have hby5 := HBY4.out.keep hf5 (fun h => h)
  have HBY5 := Lib.hid hby5; clear hby5
  have hbx5 := HBX4.out.keep hf5 (fun h => h)
  have hfw5 := HFW4.out.trans hf5
  clear x0 x1 x2 x3 x4
  have x0 : W5.cell? ⟨w.heap.size, 0, none⟩ = some (.int .u8 v.k) := hbx5.cell 0
  have x1 : W5.cell? ⟨w.heap.size, 1, none⟩ = some (.int .i64 v.n) := hbx5.cell 1
  have x2 : W5.cell? ⟨w.heap.size, 2, none⟩ = some (.string v.s) := hbx5.cell 2
  have x3 : W5.cell? ⟨w.heap.size, 3, none⟩ = some (.slice va v.l.length vc) := hbx5.cell 3
  have x4 : W5.cell? ⟨w.heap.size, 4, none⟩ = some (.int .i64 v.r) := hbx5.cell 4
  have HBX5 := Lib.hid hbx5; clear hbx5
  have HFW5 := Lib.hid hfw5; clear hfw5
  clear hf5
  go_wp2_with fail
  refine (what_yes (H.out.keep HFW5.out (fun _ _ h => h) (fun _ _ h => h)) r x HX.out HPX.out.1 HPX.out.2).mono ?_
  rintro e W6 ⟨u2, rfl, hrx6, hf6⟩
  have hb6 := HB5.out.keep hf6 (fun h => h)
  have HB6 := Lib.hid hb6; clear hb6 hrx6
  have hrx6 := HRX5.out.fr hf6 (fun _ _ h => h)
  have HRX6 := Lib.hid hrx6; clear hrx6
  have hby6 := HBY5.out.keep hf6 (fun h => h)
  have HBY6 := Lib.hid hby6; clear hby6
  have hbx6 := HBX5.out.keep hf6 (fun h => h)
  have hfw6 := HFW5.out.trans hf6
  clear x0 x1 x2 x3 x4
  have x0 : W6.cell? ⟨w.heap.size, 0, none⟩ = some (.int .u8 v.k) := hbx6.cell 0
  have x1 : W6.cell? ⟨w.heap.size, 1, none⟩ = some (.int .i64 v.n) := hbx6.cell 1
  have x2 : W6.cell? ⟨w.heap.size, 2, none⟩ = some (.string v.s) := hbx6.cell 2
  have x3 : W6.cell? ⟨w.heap.size, 3, none⟩ = some (.slice va v.l.length vc) := hbx6.cell 3
  have x4 : W6.cell? ⟨w.heap.size, 4, none⟩ = some (.int .i64 v.r) := hbx6.cell 4
  have HBX6 := Lib.hid hbx6; clear hbx6
  have HFW6 := Lib.hid hfw6; clear hfw6
  clear hf6
  go_upto_region 16 with (fail)
  refine code_gen ?_
  intro W7 hW
  have hb7 : Blk W7 W6.heap.size (x.cells u2) 69 := by rw [hW]; exact Blk.new W6 _ _
  have hf7 : Fr none_ W6 W7 := by rw [hW]; exact (Fr.refl _ _).alloc _
  clear hW
  have ha7 := HB6.out.keep hf7 (fun h => h)
  have hrx7 := HRX6.out.fr hf7 (fun _ _ h => h)
  have HRX7 := Lib.hid hrx7; clear hrx7
  have hby7 := HBY6.out.keep hf7 (fun h => h)
  have HBY7 := Lib.hid hby7; clear hby7
  have hbx7 := HBX6.out.keep hf7 (fun h => h)
  have hfw7 := HFW6.out.trans hf7
  clear x0 x1 x2 x3 x4
  have x0 : W7.cell? ⟨w.heap.size, 0, none⟩ = some (.int .u8 v.k) := hbx7.cell 0
  have x1 : W7.cell? ⟨w.heap.size, 1, none⟩ = some (.int .i64 v.n) := hbx7.cell 1
  have x2 : W7.cell? ⟨w.heap.size, 2, none⟩ = some (.string v.s) := hbx7.cell 2
  have x3 : W7.cell? ⟨w.heap.size, 3, none⟩ = some (.slice va v.l.length vc) := hbx7.cell 3
  have x4 : W7.cell? ⟨w.heap.size, 4, none⟩ = some (.int .i64 v.r) := hbx7.cell 4
  have HBX7 := Lib.hid hbx7; clear hbx7
  have HFW7 := Lib.hid hfw7; clear hfw7
  clear hf7
  have z10 : W7.cell? ⟨W6.heap.size, 10, none⟩ = some (.int .i64 x.of_) := hb7.cell 10
  have y10 : W7.cell? ⟨W4.heap.size, 10, none⟩ = some (.int .i64 y.of_) := ha7.cell 10
  have y2 : W7.cell? ⟨W4.heap.size, 2, none⟩ = some (.int .u8 y.val.k) := ha7.cell 2
  have y3 : W7.cell? ⟨W4.heap.size, 3, none⟩ = some (.int .i64 y.val.n) := ha7.cell 3
  have y4 : W7.cell? ⟨W4.heap.size, 4, none⟩ = some (.string y.val.s) := ha7.cell 4
  have y5 : W7.cell? ⟨W4.heap.size, 5, none⟩ = some (.slice u1.va y.val.l.length u1.vc) := ha7.cell 5
  have y6 : W7.cell? ⟨W4.heap.size, 6, none⟩ = some (.int .i64 y.val.r) := ha7.cell 6
  clear hb7 ha7 x0 x1 x2 x3 x4
  go_wp2_with (refine wpList_stop (.store 37 (.tmp 6) (.tmp 72)) rfl ?_)
  refine Stop.mk ?_
  refine wpList_store_blk (cs := zero5) (t := 37) rfl 37 (.tmp 6) (.tmp 72) rfl (w.heap.size + 1) 0 (y.val.cells u1.va u1.vc) ?e1 ?e2 HBY7.out (by simp) size_Value rfl ?_
  case e1 => rfl
  case e2 => rfl
  refine wpList_gen ?_
  intro W8 hW
  have hb8 : Blk W8 (w.heap.size + 1) (y.val.cells u1.va u1.vc) 37 := by rw [hW]; exact HBY7.out.setCells 0 (y.val.cells u1.va u1.vc) (by simp)
  have hst : Fr (· = w.heap.size + 1) W7 W8 := by rw [hW]; exact (Fr.refl _ _).setCells _ _ _ (fun _ => rfl)
  have hout : OwnOut2 w y.val 0 (.returned (.tuple #[.agg (y.val.cells u1.va u1.vc).toArray, .int .i64 0])) W8 := by
    refine ⟨u1.va, u1.vc, rfl, ?_, HFW7.out.trans' hst (fun i hi e => by omega)⟩
    refine (HRX7.out.val.fr hst (fun i hi e => ?_)).mono (fun i hi => ?_)
    · have h1 := HS3.out
      have h2 := HY3.out
      omega
    · have h1 := HS3.out
      omega
  have HOUT := Lib.hid hout; clear hout
  have HB8 := Lib.hid hb8; clear hb8
  clear hW hst z10 y10 y2 y3 y4 y5 y6
  go_wp2
  exact ret_blk2 (g := w.heap.size + 1) (cs := y.val.cells u1.va u1.vc) (t := 37) rfl rfl HB8.out Try.underlying37 rfl size_Value rfl HOUT.out
set_option maxRecDepth 100000 in
set_option maxHeartbeats 4000000 in
theorem open_no (h : RepW w p W M D pa pc bc bt bf bm ck fk L FL) (hok : W.Ok) (r : Int) (x : X) (v : V) (va : Option Addr) (vc : Nat) (Dv : Nat → Prop) (z : Prop) (y : X) (hx : W.at_ r = some x) (hk6 : x.kind = 6) (hmay : v.may = true) (hrefs : allThings W v.refs = true)
    (hvk : v.k = 4) (hy : W.at_ v.r = some y) (hk7 : y.kind = 7) (hof : y.of_ ≠ x.of_)
    (hv : RV w Dv z v (v.cells va vc)) (hD : ∀ b, Dv b → b < w.heap.size) :
    Calls Try.prog 18 #[.pointer (some ⟨p, 0, none⟩), .int .i64 r, v.agg va vc] w (OwnOut2 w V.zero 91) := by
  have hz := zero_What
  have hzv := zero_Value
  have hbz := build_zero
  have dk : (v.k != 4) = false := by simp [hvk]
  have dof : (y.of_ != x.of_) = true := by simpa using hof
  have hko : kindOf W r = 6 := by unfold kindOf; rw [hx]; exact hk6
  have hkv : kindOf W v.r = 7 := by unfold kindOf; rw [hy]; exact hk7
  have his : (W.at_ r).isSome = true := by rw [hx]; rfl
  have hre : refsErr W v = 0 := by unfold refsErr; rw [if_pos hrefs]
  have hpx := hok.at_ hx
  have hpy := hok.at_ hy
  have H := Lib.hid h; clear h
  have HV := Lib.hid hv; clear hv
  have HD := Lib.hid hD; clear hD
  have HMAY := Lib.hid hmay; clear hmay
  have HKO := Lib.hid hko; clear hko
  have HKV := Lib.hid hkv; clear hkv
  have HIS := Lib.hid his; clear his
  have HRE := Lib.hid hre; clear hre
  have HPX := Lib.hid hpx; clear hpx
  have HPY := Lib.hid hpy; clear hpy
  have HX := Lib.hid hx; clear hx
  have HY := Lib.hid hy; clear hy
  clear hk6 hk7 hvk hof hrefs hok
  go_enter Try.func18, Try.ntmps18
  go_upto_region 1 with (fail)
  refine code_gen ?_
  intro W1 hW
  have hbx1 : Blk W1 w.heap.size (v.cells va vc) 37 := by rw [hW]; exact (Blk.new w _ _).alloc _
  have hby1 : Blk W1 (w.heap.size + 1) zero5 37 := by rw [hW]; have h := Blk.new (w.alloc (.cells (v.cells va vc).toArray 37)) zero5 37; rw [World.size_alloc] at h; exact h
  have hfw1 : Fr none_ w W1 := by rw [hW]; exact ((Fr.refl _ _).alloc _).alloc _
  clear hW
  have x0 : W1.cell? ⟨w.heap.size, 0, none⟩ = some (.int .u8 v.k) := hbx1.cell 0
  have x1 : W1.cell? ⟨w.heap.size, 1, none⟩ = some (.int .i64 v.n) := hbx1.cell 1
  have x2 : W1.cell? ⟨w.heap.size, 2, none⟩ = some (.string v.s) := hbx1.cell 2
  have x3 : W1.cell? ⟨w.heap.size, 3, none⟩ = some (.slice va v.l.length vc) := hbx1.cell 3
  have x4 : W1.cell? ⟨w.heap.size, 4, none⟩ = some (.int .i64 v.r) := hbx1.cell 4
  have HBX1 := Lib.hid hbx1; clear hbx1
  have HBY1 := Lib.hid hby1; clear hby1
  have HFW1 := Lib.hid hfw1; clear hfw1
  have hd : ∀ w', Fr none_ w w' → ∀ b, Dv b → b < w'.heap.size := fun w' hf b hb => Nat.lt_of_lt_of_le (HD.out b hb) hf.size
  have HDD := Lib.hid hd; clear hd
  go_wp2_with fail
  refine (sthere_any (H.out.keep HFW1.out (fun _ _ h => h) (fun _ _ h => h))).mono ?_
  rintro e W1 ⟨rfl, rfl⟩
  go_wp2_with fail
  refine (may_any Dv z v va vc _ (HV.out.fr HFW1.out (fun _ _ h => h)) (HDD.out _ HFW1.out)).mono ?_
  rintro e W2 ⟨rfl, hf2⟩
  rw [HMAY.out]
  have hby2 := HBY1.out.keep hf2 (fun h => h)
  have HBY2 := Lib.hid hby2; clear hby2
  have hbx2 := HBX1.out.keep hf2 (fun h => h)
  have hfw2 := HFW1.out.trans hf2
  clear x0 x1 x2 x3 x4
  have x0 : W2.cell? ⟨w.heap.size, 0, none⟩ = some (.int .u8 v.k) := hbx2.cell 0
  have x1 : W2.cell? ⟨w.heap.size, 1, none⟩ = some (.int .i64 v.n) := hbx2.cell 1
  have x2 : W2.cell? ⟨w.heap.size, 2, none⟩ = some (.string v.s) := hbx2.cell 2
  have x3 : W2.cell? ⟨w.heap.size, 3, none⟩ = some (.slice va v.l.length vc) := hbx2.cell 3
  have x4 : W2.cell? ⟨w.heap.size, 4, none⟩ = some (.int .i64 v.r) := hbx2.cell 4
  have HBX2 := Lib.hid hbx2; clear hbx2
  have HFW2 := Lib.hid hfw2; clear hfw2
  clear hf2
  go_wp2_with fail
  refine (is_any (H.out.keep HFW2.out (fun _ _ h => h) (fun _ _ h => h)) r).mono ?_
  rintro e W2 ⟨rfl, rfl⟩
  rw [HIS.out]
  go_wp2_with fail
  refine (sealrefs_any (H.out.keep HFW2.out (fun _ _ h => h) (fun _ _ h => h)) v va vc Dv z (HV.out.fr HFW2.out (fun _ _ h => h)) (HDD.out _ HFW2.out)).mono ?_
  rintro e W3 ⟨rfl, hf3⟩
  rw [HRE.out]
  have hby3 := HBY2.out.keep hf3 (fun h => h)
  have HBY3 := Lib.hid hby3; clear hby3
  have hbx3 := HBX2.out.keep hf3 (fun h => h)
  have hfw3 := HFW2.out.trans hf3
  clear x0 x1 x2 x3 x4
  have x0 : W3.cell? ⟨w.heap.size, 0, none⟩ = some (.int .u8 v.k) := hbx3.cell 0
  have x1 : W3.cell? ⟨w.heap.size, 1, none⟩ = some (.int .i64 v.n) := hbx3.cell 1
  have x2 : W3.cell? ⟨w.heap.size, 2, none⟩ = some (.string v.s) := hbx3.cell 2
  have x3 : W3.cell? ⟨w.heap.size, 3, none⟩ = some (.slice va v.l.length vc) := hbx3.cell 3
  have x4 : W3.cell? ⟨w.heap.size, 4, none⟩ = some (.int .i64 v.r) := hbx3.cell 4
  have HBX3 := Lib.hid hbx3; clear hbx3
  have HFW3 := Lib.hid hfw3; clear hfw3
  clear hf3
  go_wp2_with fail
  refine (kind_any (H.out.keep HFW3.out (fun _ _ h => h) (fun _ _ h => h)) r).mono ?_
  rintro e W3 ⟨rfl, rfl⟩
  rw [HKO.out]
  go_wp2_with fail
  refine (kind_any (H.out.keep HFW3.out (fun _ _ h => h) (fun _ _ h => h)) v.r).mono ?_
  rintro e W3 ⟨rfl, rfl⟩
  rw [HKV.out]
  go_wp2_with fail
  refine (what_yes (H.out.keep HFW3.out (fun _ _ h => h) (fun _ _ h => h)) v.r y HY.out HPY.out.1 HPY.out.2).mono ?_
  have hs3 := HFW3.out.size
  have hy3 := HBY3.out.lt
  have HS3 := Lib.hid hs3; clear hs3
  have HY3 := Lib.hid hy3; clear hy3
  rintro e W4 ⟨u1, rfl, hrx4, hf4⟩
  have HRX4 := Lib.hid hrx4; clear hrx4
  have hby4 := HBY3.out.keep hf4 (fun h => h)
  have HBY4 := Lib.hid hby4; clear hby4
  have hbx4 := HBX3.out.keep hf4 (fun h => h)
  have hfw4 := HFW3.out.trans hf4
  clear x0 x1 x2 x3 x4
  have x0 : W4.cell? ⟨w.heap.size, 0, none⟩ = some (.int .u8 v.k) := hbx4.cell 0
  have x1 : W4.cell? ⟨w.heap.size, 1, none⟩ = some (.int .i64 v.n) := hbx4.cell 1
  have x2 : W4.cell? ⟨w.heap.size, 2, none⟩ = some (.string v.s) := hbx4.cell 2
  have x3 : W4.cell? ⟨w.heap.size, 3, none⟩ = some (.slice va v.l.length vc) := hbx4.cell 3
  have x4 : W4.cell? ⟨w.heap.size, 4, none⟩ = some (.int .i64 v.r) := hbx4.cell 4
  have HBX4 := Lib.hid hbx4; clear hbx4
  have HFW4 := Lib.hid hfw4; clear hfw4
  clear hf4
  go_upto_region 15 with (fail)
  refine code_gen ?_
  intro W5 hW
  have hb5 : Blk W5 W4.heap.size (y.cells u1) 69 := by rw [hW]; exact Blk.new W4 _ _
  have hf5 : Fr none_ W4 W5 := by rw [hW]; exact (Fr.refl _ _).alloc _
  clear hW
  have hrx5 := HRX4.out.fr hf5 (fun _ _ h => h)
  have hs4 := HFW4.out.size
  have hl4 : W4.heap.size < W5.heap.size := hb5.lt
  have hy4 := HBY4.out.lt
  have HY4 := Lib.hid hy4; clear hy4
  have HS4 := Lib.hid hs4; clear hs4
  have HL4 := Lib.hid hl4; clear hl4
  have HRX5 := Lib.hid hrx5; clear hrx5
  have HB5 := Lib.hid hb5; clear hb5
  have hby5 := HBY4.out.keep hf5 (fun h => h)
  have HBY5 := Lib.hid hby5; clear hby5
  have hbx5 := HBX4.out.keep hf5 (fun h => h)
  have hfw5 := HFW4.out.trans hf5
  clear x0 x1 x2 x3 x4
  have x0 : W5.cell? ⟨w.heap.size, 0, none⟩ = some (.int .u8 v.k) := hbx5.cell 0
  have x1 : W5.cell? ⟨w.heap.size, 1, none⟩ = some (.int .i64 v.n) := hbx5.cell 1
  have x2 : W5.cell? ⟨w.heap.size, 2, none⟩ = some (.string v.s) := hbx5.cell 2
  have x3 : W5.cell? ⟨w.heap.size, 3, none⟩ = some (.slice va v.l.length vc) := hbx5.cell 3
  have x4 : W5.cell? ⟨w.heap.size, 4, none⟩ = some (.int .i64 v.r) := hbx5.cell 4
  have HBX5 := Lib.hid hbx5; clear hbx5
  have HFW5 := Lib.hid hfw5; clear hfw5
  clear hf5
  go_wp2_with fail
  refine (what_yes (H.out.keep HFW5.out (fun _ _ h => h) (fun _ _ h => h)) r x HX.out HPX.out.1 HPX.out.2).mono ?_
  rintro e W6 ⟨u2, rfl, hrx6, hf6⟩
  have hb6 := HB5.out.keep hf6 (fun h => h)
  have HB6 := Lib.hid hb6; clear hb6 hrx6
  have hrx6 := HRX5.out.fr hf6 (fun _ _ h => h)
  have HRX6 := Lib.hid hrx6; clear hrx6
  have hby6 := HBY5.out.keep hf6 (fun h => h)
  have HBY6 := Lib.hid hby6; clear hby6
  have hbx6 := HBX5.out.keep hf6 (fun h => h)
  have hfw6 := HFW5.out.trans hf6
  clear x0 x1 x2 x3 x4
  have x0 : W6.cell? ⟨w.heap.size, 0, none⟩ = some (.int .u8 v.k) := hbx6.cell 0
  have x1 : W6.cell? ⟨w.heap.size, 1, none⟩ = some (.int .i64 v.n) := hbx6.cell 1
  have x2 : W6.cell? ⟨w.heap.size, 2, none⟩ = some (.string v.s) := hbx6.cell 2
  have x3 : W6.cell? ⟨w.heap.size, 3, none⟩ = some (.slice va v.l.length vc) := hbx6.cell 3
  have x4 : W6.cell? ⟨w.heap.size, 4, none⟩ = some (.int .i64 v.r) := hbx6.cell 4
  have HBX6 := Lib.hid hbx6; clear hbx6
  have HFW6 := Lib.hid hfw6; clear hfw6
  clear hf6
  go_upto_region 16 with (fail)
  refine code_gen ?_
  intro W7 hW
  have hb7 : Blk W7 W6.heap.size (x.cells u2) 69 := by rw [hW]; exact Blk.new W6 _ _
  have hf7 : Fr none_ W6 W7 := by rw [hW]; exact (Fr.refl _ _).alloc _
  clear hW
  have ha7 := HB6.out.keep hf7 (fun h => h)
  have hrx7 := HRX6.out.fr hf7 (fun _ _ h => h)
  have HRX7 := Lib.hid hrx7; clear hrx7
  have hby7 := HBY6.out.keep hf7 (fun h => h)
  have HBY7 := Lib.hid hby7; clear hby7
  have hbx7 := HBX6.out.keep hf7 (fun h => h)
  have hfw7 := HFW6.out.trans hf7
  clear x0 x1 x2 x3 x4
  have x0 : W7.cell? ⟨w.heap.size, 0, none⟩ = some (.int .u8 v.k) := hbx7.cell 0
  have x1 : W7.cell? ⟨w.heap.size, 1, none⟩ = some (.int .i64 v.n) := hbx7.cell 1
  have x2 : W7.cell? ⟨w.heap.size, 2, none⟩ = some (.string v.s) := hbx7.cell 2
  have x3 : W7.cell? ⟨w.heap.size, 3, none⟩ = some (.slice va v.l.length vc) := hbx7.cell 3
  have x4 : W7.cell? ⟨w.heap.size, 4, none⟩ = some (.int .i64 v.r) := hbx7.cell 4
  have HBX7 := Lib.hid hbx7; clear hbx7
  have HFW7 := Lib.hid hfw7; clear hfw7
  clear hf7
  have z10 : W7.cell? ⟨W6.heap.size, 10, none⟩ = some (.int .i64 x.of_) := hb7.cell 10
  have y10 : W7.cell? ⟨W4.heap.size, 10, none⟩ = some (.int .i64 y.of_) := ha7.cell 10
  have y2 : W7.cell? ⟨W4.heap.size, 2, none⟩ = some (.int .u8 y.val.k) := ha7.cell 2
  have y3 : W7.cell? ⟨W4.heap.size, 3, none⟩ = some (.int .i64 y.val.n) := ha7.cell 3
  have y4 : W7.cell? ⟨W4.heap.size, 4, none⟩ = some (.string y.val.s) := ha7.cell 4
  have y5 : W7.cell? ⟨W4.heap.size, 5, none⟩ = some (.slice u1.va y.val.l.length u1.vc) := ha7.cell 5
  have y6 : W7.cell? ⟨W4.heap.size, 6, none⟩ = some (.int .i64 y.val.r) := ha7.cell 6
  clear hb7 ha7 x0 x1 x2 x3 x4
  go_wp2_with (refine wpList_stop (.store 37 (.tmp 6) (.tmp 70)) rfl ?_)
  refine Stop.mk ?_
  refine wpList_store_blk (cs := zero5) (t := 37) rfl 37 (.tmp 6) (.tmp 70) rfl (w.heap.size + 1) 0 (zero5) ?e1 ?e2 HBY7.out (by simp) size_Value rfl ?_
  case e1 => rfl
  case e2 => rfl
  refine wpList_gen ?_
  intro W8 hW
  have hb8 : Blk W8 (w.heap.size + 1) (zero5) 37 := by rw [hW]; exact HBY7.out.setCells 0 (zero5) (by simp)
  have hst : Fr (· = w.heap.size + 1) W7 W8 := by rw [hW]; exact (Fr.refl _ _).setCells _ _ _ (fun _ => rfl)
  have hout : OwnOut2 w V.zero 91 (.returned (.tuple #[.agg (zero5).toArray, .int .i64 91])) W8 := by
    refine ⟨none, 0, rfl, ?_, HFW7.out.trans' hst (fun i hi e => by omega)⟩
    exact RV_zero _ _ _
  have HOUT := Lib.hid hout; clear hout
  have HB8 := Lib.hid hb8; clear hb8
  clear hW hst z10 y10 y2 y3 y4 y5 y6
  go_wp2
  exact ret_blk2 (g := w.heap.size + 1) (cs := zero5) (t := 37) rfl rfl HB8.out Try.underlying37 rfl size_Value rfl HOUT.out
end
end Go.Proofs.Ytpgjbbefgacjkaa
