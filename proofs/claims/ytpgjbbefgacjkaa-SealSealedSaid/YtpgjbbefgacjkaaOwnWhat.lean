/- 'ownWhat' of package world, of things with no list of values, of code, of names. -/
import Derived.Test.YtpgjbbefgacjkaaClone
import Derived.Deep.CutBlock
namespace Go.Proofs.Ytpgjbbefgacjkaa
open Go.RowKit
set_option linter.unusedSimpArgs false
set_option linter.unusedVariables false
set_option linter.unusedSectionVars false

set_option maxRecDepth 100000 in
set_option maxHeartbeats 2000000 in
theorem ownCode_0 (a0 : Option Addr) (c : Nat) (w : World) : Calls Try.prog 80 #[.slice a0 0 c] w (Empty_ w) := by
  go_enter Try.func80, Try.ntmps80
  go_wp2_with fail
  refine (clone_Stmt a0 c w).mono ?_
  rintro e w1 ⟨a1, c1, rfl, hf⟩
  have HF := Lib.hid hf; clear hf
  go_wp2
  refine wp_loop_rounds 1 ?_
  rw [rounds_succ]
  go_wp2
  go_ret
  exact ⟨_, _, rfl, HF.out⟩
theorem wpList_gen {P : Program} {ops : Array Oper} {rest : List Oper} {a : Act} {w : World} {Q : Exit → Act → World → Prop} (h : ∀ W, W = w → wpList P ops Q rest a W) : wpList P ops Q rest a w := h w rfl
abbrev zero16 : List Value := [.int .u8 0, .int .i64 0, .int .u8 0, .int .i64 0, .string ⟨#[]⟩, .slice none 0 0, .int .i64 0, .slice none 0 0, .int .i64 0, .int .i64 0, .int .i64 0, .int .i64 0, .int .u8 0, .bool false, .slice none 0 0, .slice none 0 0]
/-- A thing with no list of values, of code, of names. -/
def X.plain (x : X) : Prop := x.vals = [] ∧ x.code = [] ∧ x.names = []
def WhatOut (w : World) (x : X) (e : Ending) (w' : World) : Prop := ∃ u, e = .returned (x.agg u) ∧ RX w' (w.heap.size ≤ ·) True x u ∧ Fr none_ w w'
set_option maxRecDepth 100000 in
set_option maxHeartbeats 4000000 in
theorem ownWhat_any (D : Nat → Prop) (z : Prop) (x : X) (u : Under) (w : World) (hp : x.plain) (hm : x.val.may = true) (hx : RX w D z x u) (hD : ∀ b, D b → b < w.heap.size) :
    Calls Try.prog 52 #[x.agg u] w (WhatOut w x) := by
  have hv0 : x.vals.length = 0 := by rw [hp.1]; rfl
  have hc0 : x.code.length = 0 := by rw [hp.2.1]; rfl
  have hn0 : x.names.length = 0 := by rw [hp.2.2]; rfl
  have hz := zero_What
  have HM := Lib.hid hm; clear hm
  have HX := Lib.hid hx; clear hx
  have HD := Lib.hid hD; clear hD
  have HP := Lib.hid hp; clear hp
  have HV0 := Lib.hid hv0; clear hv0
  have HC0 := Lib.hid hc0; clear hc0
  have HN0 := Lib.hid hn0; clear hn0
  go_enter Try.func52, Try.ntmps52
  go_upto_region 1 with (fail)
  refine code_gen ?_
  intro W1 hW
  have hbx : Blk W1 w.heap.size (x.cells u) 69 := by rw [hW]; exact (Blk.new w _ _).alloc _
  have hby : Blk W1 (w.heap.size + 1) zero16 69 := by rw [hW]; have h := Blk.new (w.alloc (.cells (x.cells u).toArray 69)) zero16 69; rw [World.size_alloc] at h; exact h
  have hf : Fr none_ w W1 := by rw [hW]; exact ((Fr.refl _ _).alloc _).alloc _
  have hs : W1.heap.size = w.heap.size + 2 := by rw [hW]; simp
  clear hW
  have y2 : W1.cell? ⟨w.heap.size, 2, none⟩ = some (.int .u8 x.val.k) := hbx.cell 2
  have y3 : W1.cell? ⟨w.heap.size, 3, none⟩ = some (.int .i64 x.val.n) := hbx.cell 3
  have y4 : W1.cell? ⟨w.heap.size, 4, none⟩ = some (.string x.val.s) := hbx.cell 4
  have y5 : W1.cell? ⟨w.heap.size, 5, none⟩ = some (.slice u.va x.val.l.length u.vc) := hbx.cell 5
  have y6 : W1.cell? ⟨w.heap.size, 6, none⟩ = some (.int .i64 x.val.r) := hbx.cell 6
  have HBX := Lib.hid hbx; clear hbx
  have HBY := Lib.hid hby; clear hby
  have HF := Lib.hid hf; clear hf
  have HS := Lib.hid hs; clear hs
  go_wp2_with fail
  refine (wown_any D z x.val u.va u.vc _ HM.out (HX.out.val.fr HF.out (fun _ _ h => h)) (fun b hd => by have := HD.out b hd; have := HS.out; omega)).mono ?_
  rintro e W2 ⟨A2, c2, rfl, hv2, hf2⟩
  have hbx2 : Blk W2 w.heap.size (x.cells u) 69 := HBX.out.keep hf2 (fun h => h)
  have hby2 : Blk W2 (w.heap.size + 1) zero16 69 := HBY.out.keep hf2 (fun h => h)
  have hfw2 := HF.out.trans hf2
  have hs2 := hf2.size
  have hv3 : RV W2 (fun b => w.heap.size + 2 ≤ b) True x.val (x.val.cells A2 c2) := hv2.mono (fun b hb => by have := HS.out; omega)
  have HV3 := Lib.hid hv3; clear hv3 hv2
  have HFW2 := Lib.hid hfw2; clear hfw2 hf2
  have HBX2 := Lib.hid hbx2; clear hbx2
  have HBY2 := Lib.hid hby2; clear hby2
  clear y2 y3 y4 y5 y6
  have hs3 : w.heap.size + 2 ≤ W2.heap.size := by have := HS.out; omega
  have HS3 := Lib.hid hs3; clear hs3 hs2
  go_wp2_with (refine wpList_stop (.store 37 (.tmp 10) (.tmp 9)) rfl ?_)
  refine Stop.mk ?_
  refine wpList_store_blk (cs := x.cells u) (t := 69) rfl 37 (.tmp 10) (.tmp 9) rfl w.heap.size 2 (x.val.cells A2 c2) ?e1 ?e2 HBX2.out (by simp) size_Value rfl ?_
  case e1 => rfl
  case e2 => rfl
  refine wpList_gen ?_
  intro W3 hW3
  have hbx3 : Blk W3 w.heap.size (x.cells { u with va := A2, vc := c2 }) 69 := by rw [hW3]; exact HBX2.out.setCells 2 (x.val.cells A2 c2) (by simp)
  have hst3 : Fr (· = w.heap.size) W2 W3 := by rw [hW3]; exact (Fr.refl _ _).setCells _ _ _ (fun _ => rfl)
  have hby3 : Blk W3 (w.heap.size + 1) zero16 69 := HBY2.out.keep hst3 (by omega)
  have hfw3 : Fr none_ w W3 := HFW2.out.trans' hst3 (fun i hi h => by omega)
  have hv4 : RV W3 (fun b => w.heap.size + 2 ≤ b) True x.val (x.val.cells A2 c2) := HV3.out.fr hst3 (fun b hb e => by omega)
  have hs4 : w.heap.size + 2 ≤ W3.heap.size := by have := HS3.out; have := hst3.size; omega
  have HS4 := Lib.hid hs4; clear hs4
  have HV4 := Lib.hid hv4; clear hv4
  have HFW3 := Lib.hid hfw3; clear hfw3
  have y7 : W3.cell? ⟨w.heap.size, 7, none⟩ = some (.slice u.la 0 u.lc) := by rw [hbx3.cell 7]; show some (Value.slice u.la x.vals.length u.lc) = _; rw [HV0.out]
  have HBX3 := Lib.hid hbx3; clear hbx3
  have HBY3 := Lib.hid hby3; clear hby3
  clear hst3 hW3
  go_wp2_with fail
  refine (clone_Value u.la u.lc W3).mono ?_
  rintro e W4 ⟨A3, c3, rfl, hf4⟩
  have hbx4 : Blk W4 w.heap.size (x.cells { u with va := A2, vc := c2 }) 69 := HBX3.out.keep hf4 (fun h => h)
  have y7' : W4.cell? ⟨w.heap.size, 7, none⟩ = some (.slice u.la 0 u.lc) := by rw [hbx4.cell 7]; show some (Value.slice u.la x.vals.length u.lc) = _; rw [HV0.out]
  have f7 := hbx4.frozen 7
  have hlt4 := hbx4.lt
  have hby4 : Blk W4 (w.heap.size + 1) zero16 69 := HBY3.out.keep hf4 (fun h => h)
  have hfw4 : Fr none_ w W4 := HFW3.out.trans hf4
  have hv5 : RV W4 (fun b => w.heap.size + 2 ≤ b) True x.val (x.val.cells A2 c2) := HV4.out.fr hf4 (fun b hb e => e)
  have hs5 : w.heap.size + 2 ≤ W4.heap.size := by have := HS4.out; have := hf4.size; omega
  have HS5 := Lib.hid hs5; clear hs5
  have HV5 := Lib.hid hv5; clear hv5
  have HFW4 := Lib.hid hfw4; clear hfw4
  have HBX4 := Lib.hid hbx4; clear hbx4
  have HBY4 := Lib.hid hby4; clear hby4
  clear hf4 y7
  go_upto_region 3 with (fail)
  refine code_gen ?_
  intro W5 hW5
  have hbx5 : Blk W5 w.heap.size (x.cells { u with va := A2, vc := c2, la := A3, lc := c3 }) 69 := by
    rw [hW5]
    have h := HBX4.out.set 7 (.slice A3 0 c3)
    have e : (x.cells { u with va := A2, vc := c2 }).set 7 (.slice A3 0 c3) = x.cells { u with va := A2, vc := c2, la := A3, lc := c3 } := by
      unfold X.cells
      rw [HV0.out]
      rfl
    rw [e] at h
    exact h
  have hst5 : Fr (· = w.heap.size) W4 W5 := by rw [hW5]; exact Fr.set1 _ _ _ _
  have hby5 : Blk W5 (w.heap.size + 1) zero16 69 := HBY4.out.keep hst5 (by omega)
  have hfw5 : Fr none_ w W5 := HFW4.out.trans' hst5 (fun i hi h => by omega)
  have hv6 : RV W5 (fun b => w.heap.size + 2 ≤ b) True x.val (x.val.cells A2 c2) := HV5.out.fr hst5 (fun b hb e => by omega)
  have hs6 : w.heap.size + 2 ≤ W5.heap.size := by have := HS5.out; have := hst5.size; omega
  have HS6 := Lib.hid hs6; clear hs6
  have HV6 := Lib.hid hv6; clear hv6
  have HFW5 := Lib.hid hfw5; clear hfw5
  have y7 : W5.cell? ⟨w.heap.size, 7, none⟩ = some (.slice A3 0 c3) := by rw [hbx5.cell 7]; show some (Value.slice A3 x.vals.length c3) = _; rw [HV0.out]
  have y15 : W5.cell? ⟨w.heap.size, 15, none⟩ = some (.slice u.na 0 u.nc) := by rw [hbx5.cell 15]; show some (Value.slice u.na x.names.length u.nc) = _; rw [HN0.out]
  have HBX5 := Lib.hid hbx5; clear hbx5
  have HBY5 := Lib.hid hby5; clear hby5
  clear hst5 hW5 y7' f7 hlt4
  go_wp2
  refine wp_loop_rounds 1 ?_
  rw [rounds_succ]
  go_wp2_with fail
  refine (clone_Name u.na u.nc W5).mono ?_
  rintro e W6 ⟨A4, c4, rfl, hf6⟩
  have hbx6 : Blk W6 w.heap.size (x.cells { u with va := A2, vc := c2, la := A3, lc := c3 }) 69 := HBX5.out.keep hf6 (fun h => h)
  have y15' : W6.cell? ⟨w.heap.size, 15, none⟩ = some (.slice u.na 0 u.nc) := by rw [hbx6.cell 15]; show some (Value.slice u.na x.names.length u.nc) = _; rw [HN0.out]
  have f15 := hbx6.frozen 15
  have hby6 : Blk W6 (w.heap.size + 1) zero16 69 := HBY5.out.keep hf6 (fun h => h)
  have hfw6 : Fr none_ w W6 := HFW5.out.trans hf6
  have hv7 : RV W6 (fun b => w.heap.size + 2 ≤ b) True x.val (x.val.cells A2 c2) := HV6.out.fr hf6 (fun b hb e => e)
  have hs7 : w.heap.size + 2 ≤ W6.heap.size := by have := HS6.out; have := hf6.size; omega
  have HS7 := Lib.hid hs7; clear hs7
  have HV7 := Lib.hid hv7; clear hv7
  have HFW6 := Lib.hid hfw6; clear hfw6
  have HBX6 := Lib.hid hbx6; clear hbx6
  have HBY6 := Lib.hid hby6; clear hby6
  clear hf6 y7 y15
  go_upto_region 9 with (fail)
  refine code_gen ?_
  intro W7 hW7
  have hbx7 : Blk W7 w.heap.size (x.cells { u with va := A2, vc := c2, la := A3, lc := c3, na := A4, nc := c4 }) 69 := by
    rw [hW7]
    have h := HBX6.out.set 15 (.slice A4 0 c4)
    have e : (x.cells { u with va := A2, vc := c2, la := A3, lc := c3 }).set 15 (.slice A4 0 c4) = x.cells { u with va := A2, vc := c2, la := A3, lc := c3, na := A4, nc := c4 } := by
      unfold X.cells
      rw [HN0.out]
      rfl
    rw [e] at h
    exact h
  have hst7 : Fr (· = w.heap.size) W6 W7 := by rw [hW7]; exact Fr.set1 _ _ _ _
  have hby7 : Blk W7 (w.heap.size + 1) zero16 69 := HBY6.out.keep hst7 (by omega)
  have hfw7 : Fr none_ w W7 := HFW6.out.trans' hst7 (fun i hi h => by omega)
  have hv8 : RV W7 (fun b => w.heap.size + 2 ≤ b) True x.val (x.val.cells A2 c2) := HV7.out.fr hst7 (fun b hb e => by omega)
  have hs8 : w.heap.size + 2 ≤ W7.heap.size := by have := HS7.out; have := hst7.size; omega
  have HS8 := Lib.hid hs8; clear hs8
  have HV8 := Lib.hid hv8; clear hv8
  have HFW7 := Lib.hid hfw7; clear hfw7
  have y15 : W7.cell? ⟨w.heap.size, 15, none⟩ = some (.slice A4 0 c4) := by rw [hbx7.cell 15]; show some (Value.slice A4 x.names.length c4) = _; rw [HN0.out]
  have y14 : W7.cell? ⟨w.heap.size, 14, none⟩ = some (.slice u.ca 0 u.cc) := by rw [hbx7.cell 14]; show some (Value.slice u.ca x.code.length u.cc) = _; rw [HC0.out]
  have HBX7 := Lib.hid hbx7; clear hbx7
  have HBY7 := Lib.hid hby7; clear hby7
  clear hst7 hW7 y15' f15
  go_wp2
  refine wp_loop_rounds 1 ?_
  rw [rounds_succ]
  go_wp2_with fail
  refine (ownCode_0 u.ca u.cc W7).mono ?_
  rintro e W8 ⟨A5, c5, rfl, hf8⟩
  have hbx8 : Blk W8 w.heap.size (x.cells { u with va := A2, vc := c2, la := A3, lc := c3, na := A4, nc := c4 }) 69 := HBX7.out.keep hf8 (fun h => h)
  have y14' : W8.cell? ⟨w.heap.size, 14, none⟩ = some (.slice u.ca 0 u.cc) := by rw [hbx8.cell 14]; show some (Value.slice u.ca x.code.length u.cc) = _; rw [HC0.out]
  have f14 := hbx8.frozen 14
  have hby8 : Blk W8 (w.heap.size + 1) zero16 69 := HBY7.out.keep hf8 (fun h => h)
  have hfw8 : Fr none_ w W8 := HFW7.out.trans hf8
  have hv9 : RV W8 (fun b => w.heap.size + 2 ≤ b) True x.val (x.val.cells A2 c2) := HV8.out.fr hf8 (fun b hb e => e)
  have hs9 : w.heap.size + 2 ≤ W8.heap.size := by have := HS8.out; have := hf8.size; omega
  have HS9 := Lib.hid hs9; clear hs9
  have HV9 := Lib.hid hv9; clear hv9
  have HFW8 := Lib.hid hfw8; clear hfw8
  have HBX8 := Lib.hid hbx8; clear hbx8
  have HBY8 := Lib.hid hby8; clear hby8
  clear hf8 y14 y15
  go_upto_region 15 with (fail)
  refine code_gen ?_
  intro W9 hW9
  have hbx9 : Blk W9 w.heap.size (x.cells ⟨A2, c2, A3, c3, A5, c5, A4, c4⟩) 69 := by
    rw [hW9]
    have h := HBX8.out.set 14 (.slice A5 0 c5)
    have e : (x.cells { u with va := A2, vc := c2, la := A3, lc := c3, na := A4, nc := c4 }).set 14 (.slice A5 0 c5) = x.cells ⟨A2, c2, A3, c3, A5, c5, A4, c4⟩ := by
      unfold X.cells
      rw [HC0.out]
      rfl
    rw [e] at h
    exact h
  have hst9 : Fr (· = w.heap.size) W8 W9 := by rw [hW9]; exact Fr.set1 _ _ _ _
  have hby9 : Blk W9 (w.heap.size + 1) zero16 69 := HBY8.out.keep hst9 (by omega)
  have hfw9 : Fr none_ w W9 := HFW8.out.trans' hst9 (fun i hi h => by omega)
  have hva : RV W9 (fun b => w.heap.size + 2 ≤ b) True x.val (x.val.cells A2 c2) := HV9.out.fr hst9 (fun b hb e => by omega)
  have HVA := Lib.hid hva; clear hva
  have HFW9 := Lib.hid hfw9; clear hfw9
  have y0 : W9.cell? ⟨w.heap.size, 0, none⟩ = some (.int .u8 x.kind) := hbx9.cell 0
  have y1 : W9.cell? ⟨w.heap.size, 1, none⟩ = some (.int .i64 x.home) := hbx9.cell 1
  have y2 : W9.cell? ⟨w.heap.size, 2, none⟩ = some (.int .u8 x.val.k) := hbx9.cell 2
  have y3 : W9.cell? ⟨w.heap.size, 3, none⟩ = some (.int .i64 x.val.n) := hbx9.cell 3
  have y4 : W9.cell? ⟨w.heap.size, 4, none⟩ = some (.string x.val.s) := hbx9.cell 4
  have y5 : W9.cell? ⟨w.heap.size, 5, none⟩ = some (.slice A2 x.val.l.length c2) := hbx9.cell 5
  have y6 : W9.cell? ⟨w.heap.size, 6, none⟩ = some (.int .i64 x.val.r) := hbx9.cell 6
  have y7 : W9.cell? ⟨w.heap.size, 7, none⟩ = some (.slice A3 x.vals.length c3) := hbx9.cell 7
  have y8 : W9.cell? ⟨w.heap.size, 8, none⟩ = some (.int .i64 x.n) := hbx9.cell 8
  have y9 : W9.cell? ⟨w.heap.size, 9, none⟩ = some (.int .i64 x.lost) := hbx9.cell 9
  have y10 : W9.cell? ⟨w.heap.size, 10, none⟩ = some (.int .i64 x.of_) := hbx9.cell 10
  have y11 : W9.cell? ⟨w.heap.size, 11, none⟩ = some (.int .i64 x.by_) := hbx9.cell 11
  have y12 : W9.cell? ⟨w.heap.size, 12, none⟩ = some (.int .u8 x.set) := hbx9.cell 12
  have y13 : W9.cell? ⟨w.heap.size, 13, none⟩ = some (.bool x.full) := hbx9.cell 13
  have y14 : W9.cell? ⟨w.heap.size, 14, none⟩ = some (.slice A5 x.code.length c5) := hbx9.cell 14
  have y15 : W9.cell? ⟨w.heap.size, 15, none⟩ = some (.slice A4 x.names.length c4) := hbx9.cell 15
  have HBX9 := Lib.hid hbx9; clear hbx9
  have HBY9 := Lib.hid hby9; clear hby9
  clear hst9 hW9 y14' f14
  go_wp2_with (refine wpList_stop (.store 69 (.tmp 2) (.tmp 55)) rfl ?_)
  refine Stop.mk ?_
  refine wpList_store_blk (cs := zero16) (t := 69) rfl 69 (.tmp 2) (.tmp 55) rfl (w.heap.size + 1) 0 (x.cells ⟨A2, c2, A3, c3, A5, c5, A4, c4⟩) ?e3 ?e4 HBY9.out (by simp) info_What rfl ?_
  case e3 => rfl
  case e4 => rfl
  refine wpList_gen ?_
  intro WA hWA
  have hbya : Blk WA (w.heap.size + 1) (x.cells ⟨A2, c2, A3, c3, A5, c5, A4, c4⟩) 69 := by rw [hWA]; exact HBY9.out.setCells 0 (x.cells ⟨A2, c2, A3, c3, A5, c5, A4, c4⟩) (by simp)
  have hsta : Fr (· = w.heap.size + 1) W9 WA := by rw [hWA]; exact (Fr.refl _ _).setCells _ _ _ (fun _ => rfl)
  have hfwa : Fr none_ w WA := HFW9.out.trans' hsta (fun i hi h => by omega)
  have hvb : RV WA (fun b => w.heap.size + 2 ≤ b) True x.val (x.val.cells A2 c2) := HVA.out.fr hsta (fun b hb e => by omega)
  have hout : WhatOut w x (.returned (.agg (x.cells ⟨A2, c2, A3, c3, A5, c5, A4, c4⟩).toArray)) WA := by
    obtain ⟨e1, e2, e3⟩ := HP.out
    refine ⟨⟨A2, c2, A3, c3, A5, c5, A4, c4⟩, rfl, { kind := HX.out.kind, home := HX.out.home, n := HX.out.n, lost := HX.out.lost, of_ := HX.out.of_, by_ := HX.out.by_, set := HX.out.set, vall := HX.out.vall, codel := HX.out.codel, namesl := HX.out.namesl, lc := by rw [e1]; exact Nat.zero_le _, cc := by rw [e2]; exact Nat.zero_le _, nc := by rw [e3]; exact Nat.zero_le _, val := hvb.mono (fun b hb => by omega), vals := by rw [e1]; unfold RVs; trivial, code := by rw [e2]; unfold RSs; trivial, names := by rw [e3]; unfold RNs; trivial }, hfwa⟩
  have HOUT := Lib.hid hout; clear hout
  have HBYA := Lib.hid hbya; clear hbya
  clear hWA hsta hfwa hvb y0 y1 y2 y3 y4 y5 y6 y7 y8 y9 y10 y11 y12 y13 y14 y15
  go_wp2
  exact ret_blk (g := w.heap.size + 1) (cs := x.cells ⟨A2, c2, A3, c3, A5, c5, A4, c4⟩) (t := 69) rfl rfl HBYA.out Try.underlying69 rfl info_What rfl HOUT.out
end Go.Proofs.Ytpgjbbefgacjkaa
