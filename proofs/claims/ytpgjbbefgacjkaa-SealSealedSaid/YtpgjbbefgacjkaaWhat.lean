/- 'What' of package world; 'there', 'refs' of package seal with a world; brand. -/
import Derived.Test.YtpgjbbefgacjkaaMake0
namespace Go.Proofs.Ytpgjbbefgacjkaa
open Go.RowKit
set_option linter.unusedSimpArgs false
set_option linter.unusedVariables false
set_option linter.unusedSectionVars false
section
variable {w : World} {p : Nat} {W : AW} {M D : Nat → Prop} {pa : Option Addr} {pc bc bt bf bm ck fk : Nat} {L : List (Int × Nat × Nat)} {FL : List ((Int × Int) × Int × Nat)}
def WhatYes (w : World) (x : X) (e : Ending) (w' : World) : Prop := ∃ u, e = .returned (.tuple #[x.agg u, .int .i64 0]) ∧ RX w' (w.heap.size ≤ ·) True x u ∧ Fr none_ w w'
def WhatNo (w : World) (n : Int) (e : Ending) (w' : World) : Prop := e = .returned (.tuple #[.agg zero16.toArray, .int .i64 n]) ∧ Fr none_ w w'
set_option maxRecDepth 100000 in
set_option maxHeartbeats 2000000 in
theorem what_no (h : RepW w p W M D pa pc bc bt bf bm ck fk L FL) (r : Int) (hr : W.at_ r = none) : Calls Try.prog 43 #[.pointer (some ⟨p, 0, none⟩), .int .i64 r] w (WhatNo w 5) := by
  have hz := zero_What
  have hbz : ∀ W : World, (Instr.build 69 #[]).run Try.prog W = .ok (.agg #[.int .u8 0, .int .i64 0, .int .u8 0, .int .i64 0, .string ⟨#[]⟩, .slice none 0 0, .int .i64 0, .slice none 0 0, .int .i64 0, .int .i64 0, .int .i64 0, .int .i64 0, .int .u8 0, .bool false, .slice none 0 0, .slice none 0 0]) W := fun W => by kernel_rfl
  have H := Lib.hid h; clear h
  have HR := Lib.hid hr; clear hr
  go_enter Try.func43, Try.ntmps43
  go_upto_region 1 with (fail)
  refine code_gen ?_
  intro W1 hW
  have hb : Blk W1 w.heap.size zero16 69 := by rw [hW]; exact Blk.new w _ _
  have hf : Fr none_ w W1 := by rw [hW]; exact (Fr.refl _ _).alloc _
  clear hW
  have h1 := H.out.keep hf (fun _ _ h => h) (fun _ _ h => h)
  have c2 := h1.c2
  have H1 := Lib.hid h1; clear h1
  have HB := Lib.hid hb; clear hb
  have HF := Lib.hid hf; clear hf
  go_wp2_with fail
  refine (none_any p bt W1 c2).mono ?_
  rintro e w' ⟨rfl, rfl⟩
  go_wp2_with fail
  refine (is_any H1.out r).mono ?_
  rintro e w' ⟨rfl, rfl⟩
  rw [HR.out]
  go_wp2_with (refine wpList_stop (.store 69 (.tmp 4) (.tmp 13)) rfl ?_)
  refine Stop.mk ?_
  refine wpList_store_blk (cs := zero16) (t := 69) rfl 69 (.tmp 4) (.tmp 13) rfl w.heap.size 0 zero16 ?e1 ?e2 HB.out (by simp) info_What rfl ?_
  case e1 => rfl
  case e2 => rfl
  go_wp2
  refine ret_blk2 (g := w.heap.size) (cs := zero16) (t := 69) rfl rfl ?_ Try.underlying69 rfl info_What rfl ?_
  · exact HB.out.setCells 0 zero16 (by simp)
  · exact ⟨rfl, HF.out.setCells _ _ _ (fun h => by omega)⟩
set_option maxRecDepth 100000 in
set_option maxHeartbeats 4000000 in
theorem what_yes (h : RepW w p W M D pa pc bc bt bf bm ck fk L FL) (r : Int) (x : X) (hr : W.at_ r = some x) (hp : x.plain) (hmay : x.val.may = true) : Calls Try.prog 43 #[.pointer (some ⟨p, 0, none⟩), .int .i64 r] w (WhatYes w x) := by
  have hz := zero_What
  have hl := look_run h r
  rcases h.look r with ⟨h1, h2⟩ | ⟨y, b, u, h1, h2, hm, hbx, hrx⟩
  · rw [hr] at h1; cases h1
  rw [hr] at h1
  injection h1 with h1
  subst h1
  have H2 := Lib.hid h2; clear h2
  have hDlt := h.dlt
  have H := Lib.hid h; clear h
  have HR := Lib.hid hr; clear hr
  have HP := Lib.hid hp; clear hp
  have HMAY := Lib.hid hmay; clear hmay
  have HRX := Lib.hid hrx; clear hrx
  have HD := Lib.hid hDlt; clear hDlt
  have HBXX := Lib.hid hbx; clear hbx
  have HM := Lib.hid hm; clear hm
  clear hl
  go_enter Try.func43, Try.ntmps43
  go_upto_region 1 with (fail)
  refine code_gen ?_
  intro W1 hW
  have hb : Blk W1 w.heap.size zero16 69 := by rw [hW]; exact Blk.new w _ _
  have hf : Fr none_ w W1 := by rw [hW]; exact (Fr.refl _ _).alloc _
  clear hW
  have h1 := H.out.keep hf (fun _ _ h => h) (fun _ _ h => h)
  have c2 := h1.c2
  have hl := look_run h1 r
  rw [H2.out] at hl
  simp only [Option.map_some] at hl
  have hbx := HBXX.out.keep hf (fun h => h)
  have y0 : W1.cell? ⟨b, 0, none⟩ = some (.int .u8 x.kind) := hbx.cell 0
  have y1 : W1.cell? ⟨b, 1, none⟩ = some (.int .i64 x.home) := hbx.cell 1
  have y2 : W1.cell? ⟨b, 2, none⟩ = some (.int .u8 x.val.k) := hbx.cell 2
  have y3 : W1.cell? ⟨b, 3, none⟩ = some (.int .i64 x.val.n) := hbx.cell 3
  have y4 : W1.cell? ⟨b, 4, none⟩ = some (.string x.val.s) := hbx.cell 4
  have y5 : W1.cell? ⟨b, 5, none⟩ = some (.slice u.va x.val.l.length u.vc) := hbx.cell 5
  have y6 : W1.cell? ⟨b, 6, none⟩ = some (.int .i64 x.val.r) := hbx.cell 6
  have y7 : W1.cell? ⟨b, 7, none⟩ = some (.slice u.la x.vals.length u.lc) := hbx.cell 7
  have y8 : W1.cell? ⟨b, 8, none⟩ = some (.int .i64 x.n) := hbx.cell 8
  have y9 : W1.cell? ⟨b, 9, none⟩ = some (.int .i64 x.lost) := hbx.cell 9
  have y10 : W1.cell? ⟨b, 10, none⟩ = some (.int .i64 x.of_) := hbx.cell 10
  have y11 : W1.cell? ⟨b, 11, none⟩ = some (.int .i64 x.by_) := hbx.cell 11
  have y12 : W1.cell? ⟨b, 12, none⟩ = some (.int .u8 x.set) := hbx.cell 12
  have y13 : W1.cell? ⟨b, 13, none⟩ = some (.bool x.full) := hbx.cell 13
  have y14 : W1.cell? ⟨b, 14, none⟩ = some (.slice u.ca x.code.length u.cc) := hbx.cell 14
  have y15 : W1.cell? ⟨b, 15, none⟩ = some (.slice u.na x.names.length u.nc) := hbx.cell 15
  have hrx1 := HRX.out.fr hf (fun _ _ h => h)
  have hd1 : ∀ i, D i → i < W1.heap.size := fun i hi => Nat.lt_of_lt_of_le (HD.out i hi) hf.size
  have hs1 := hf.size
  have HS1 := Lib.hid hs1; clear hs1
  have HD1 := Lib.hid hd1; clear hd1
  have HRX1 := Lib.hid hrx1; clear hrx1
  have H1 := Lib.hid h1; clear h1
  have HB := Lib.hid hb; clear hb
  have HF := Lib.hid hf; clear hf
  clear hbx
  go_wp2_with fail
  refine (none_any p bt W1 c2).mono ?_
  rintro e w' ⟨rfl, rfl⟩
  go_wp2_with fail
  refine (is_any H1.out r).mono ?_
  rintro e w' ⟨rfl, rfl⟩
  rw [HR.out]
  go_wp2_with fail
  refine (ownWhat_any D True x u _ HP.out HMAY.out HRX1.out HD1.out).mono ?_
  rintro e W2 ⟨u2, rfl, hrx2, hf2⟩
  have hb2 := HB.out.keep hf2 (fun h => h)
  have HB2 := Lib.hid hb2; clear hb2
  have HF2 := Lib.hid hf2; clear hf2
  have HRX2 := Lib.hid hrx2; clear hrx2
  clear y0 y1 y2 y3 y4 y5 y6 y7 y8 y9 y10 y11 y12 y13 y14 y15 hl c2
  go_wp2_with (refine wpList_stop (.store 69 (.tmp 4) (.tmp 22)) rfl ?_)
  refine Stop.mk ?_
  refine wpList_store_blk (cs := zero16) (t := 69) rfl 69 (.tmp 4) (.tmp 22) rfl w.heap.size 0 (x.cells u2) ?e1 ?e2 HB2.out (by simp) info_What rfl ?_
  case e1 => rfl
  case e2 => rfl
  refine wpList_gen ?_
  intro W3 hW
  have hb3 : Blk W3 w.heap.size (x.cells u2) 69 := by rw [hW]; exact HB2.out.setCells 0 (x.cells u2) (by simp)
  have hst : Fr (· = w.heap.size) W2 W3 := by rw [hW]; exact (Fr.refl _ _).setCells _ _ _ (fun _ => rfl)
  have hout : WhatYes w x (.returned (.tuple #[.agg (x.cells u2).toArray, .int .i64 0])) W3 := by
    refine ⟨u2, rfl, (HRX2.out.fr hst (fun i hi e => ?_)).mono (fun i hi => ?_), (HF.out.trans HF2.out).trans' hst (fun i hi e => by omega)⟩
    · have h1 := HB.out.lt
      omega
    · have h1 := HS1.out
      omega
  have HOUT := Lib.hid hout; clear hout
  have HB3 := Lib.hid hb3; clear hb3
  clear hW hst
  go_wp2
  exact ret_blk2 (g := w.heap.size) (cs := x.cells u2) (t := 69) rfl rfl HB3.out Try.underlying69 rfl info_What rfl HOUT.out
/-! ### package seal -/
set_option maxHeartbeats 1000000 in
theorem sthere_any (h : RepW w p W M D pa pc bc bt bf bm ck fk L FL) : Calls Try.prog 26 #[.pointer (some ⟨p, 0, none⟩)] w (Same (.bool true) w) := by
  have hl : (0 : Int) < W.made.length := by have := h.sides.1; omega
  have H := Lib.hid h; clear h
  go_enter Try.func26, Try.ntmps26
  go_wp2_with (refine (sides_any H.out).mono ?_; rintro e w' ⟨rfl, rfl⟩)
  go_ret
  exact ⟨ret_bool (by simpa using hl), rfl⟩
end
end Go.Proofs.Ytpgjbbefgacjkaa
