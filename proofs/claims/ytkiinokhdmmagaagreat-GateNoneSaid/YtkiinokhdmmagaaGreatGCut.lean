/- 'Cut' of package gate, at a switch that is not cut. -/
import Derived.Test.YtkiinokhdmmagaaGreatLayWf
import Derived.Test.YtkiinokhdmmagaaGreatFormG
namespace Go.Proofs.YtkiinokhdmmagaaGreat
open Go.RowKit
set_option linter.unusedSimpArgs false
set_option linter.unusedVariables false
set_option linter.unusedSectionVars false
section
variable {w : World} {p : Nat} {W : AW} {M D : Nat → Prop} {pa : Option Addr} {pc bc bt bf bm ck fk : Nat} {L : List (Int × Nat × Nat)} {FL : List ((Int × Int) × Int × Nat)}
/-- The slices under a switch need not be nil. -/
theorem names_zeroG (h : RepW w p W M D pa pc bc bt bf bm ck fk L FL) (x : X) (u : Under) (hv : x.val = V.zero) (hp : x.plain) (w' : World) (hf : Fr none_ w w') : Calls Tryz.prog 62 #[.pointer (some ⟨p, 0, none⟩), x.agg u] w' (Bool_ w' true) := by
  have hk := h.keep hf (fun _ _ h => h) (fun _ _ h => h)
  have hr : RV w' none_ True x.val (x.val.cells u.va u.vc) := by rw [hv]; exact RV_zeroG _ _ _ _ _
  have := names_0 hk x u none_ True (by rw [hp.1]; rfl) (by rw [hp.2.2]; rfl) hr (fun b hb => hb.elim)
  have e : allThings W x.val.refs = true := by rw [hv, refs_zero]; rfl
  rw [e] at this
  exact this
set_option maxRecDepth 100000 in
set_option maxHeartbeats 4000000 in
theorem gcutsw_yes (h : RepW w p W M D pa pc bc bt bf bm ck fk L FL) (hok : W.Ok) (r s o : Int) (hx : W.at_ r = some (xSw s o false)) (hs : sideB W s = true) :
    Calls Tryz.prog 26 #[.pointer (some ⟨p, 0, none⟩), .int .i64 r] w (Out_ w p (W.upd r (xSw s o true)) M D pa pc bc bt bf bm fk FL (.int .i64 0)) := by
  have hz := zero_What
  have hp := hok.at_ hx
  have H := Lib.hid h; clear h
  have HP := Lib.hid hp; clear hp
  have HX := Lib.hid hx; clear hx
  have HS := Lib.hid hs; clear hs
  clear hok
  go_enter Tryz.func26, Tryz.ntmps26
  go_wp2_with fail
  refine (gthere_any H.out).mono ?_
  rintro e w ⟨rfl, rfl⟩
  go_wp2_with fail
  refine (what_yes H.out r (xSw s o false) HX.out HP.out.1 HP.out.2).mono ?_
  rintro e W1 ⟨u, rfl, hrx, hf⟩
  have hrx1 := hrx.weak HP.out.1
  have HF := Lib.hid hf; clear hf
  have HRX := Lib.hid hrx1; clear hrx1 hrx
  go_upto_region 4 with (fail)
  refine code_gen ?_
  intro W2 hW
  have hb : Blk W2 W1.heap.size ((xSw s o false).cells u) 80 := by rw [hW]; exact Blk.new W1 _ _
  have hf2 : Fr none_ w W2 := by rw [hW]; exact HF.out.alloc _
  have hf12 : Fr none_ W1 W2 := by rw [hW]; exact (Fr.refl _ _).alloc _
  clear hW
  have y0 : W2.cell? ⟨W1.heap.size, 0, none⟩ = some (.int .u8 13) := hb.cell 0
  have y13 : W2.cell? ⟨W1.heap.size, 13, none⟩ = some (.bool false) := hb.cell 13
  have yf := hb.frozen 13
  have hs1 := HF.out.size
  have HF2 := Lib.hid hf2; clear hf2
  have HF12 := Lib.hid hf12; clear hf12
  have HB := Lib.hid hb; clear hb
  have HS1 := Lib.hid hs1; clear hs1
  go_upto_region 9 with (fail)
  refine code_gen ?_
  intro W3 hW
  have hb3 : Blk W3 W1.heap.size ((xSw s o true).cells u) 80 := by rw [hW]; exact HB.out.set 13 (.bool true)
  have hst : Fr (fun i => i = W1.heap.size) W2 W3 := by rw [hW]; exact Fr.set1 W2 _ 13 _
  clear hW
  have hf3 : Fr none_ w W3 := HF2.out.trans' hst (fun i hi e => by have := HS1.out; omega)
  have hrx3 := (HRX.out.fr HF12.out (fun _ _ h => h)).fr hst (fun i hi e => by have := hi.2; omega)
  have hrx4 : RX W3 (fun b => w.heap.size ≤ b ∧ b < W1.heap.size) True (xSw s o true) u := { hrx3 with }
  have x0 : W3.cell? ⟨W1.heap.size, 0, none⟩ = some (.int .u8 13) := hb3.cell 0
  have x1 : W3.cell? ⟨W1.heap.size, 1, none⟩ = some (.int .i64 s) := hb3.cell 1
  have x2 : W3.cell? ⟨W1.heap.size, 2, none⟩ = some (.int .u8 0) := hb3.cell 2
  have x3 : W3.cell? ⟨W1.heap.size, 3, none⟩ = some (.int .i64 0) := hb3.cell 3
  have x4 : W3.cell? ⟨W1.heap.size, 4, none⟩ = some (.string ⟨#[]⟩) := hb3.cell 4
  have x5 : W3.cell? ⟨W1.heap.size, 5, none⟩ = some (.slice u.va 0 u.vc) := hb3.cell 5
  have x6 : W3.cell? ⟨W1.heap.size, 6, none⟩ = some (.int .i64 0) := hb3.cell 6
  have x7 : W3.cell? ⟨W1.heap.size, 7, none⟩ = some (.slice u.la 0 u.lc) := hb3.cell 7
  have x8 : W3.cell? ⟨W1.heap.size, 8, none⟩ = some (.int .i64 0) := hb3.cell 8
  have x9 : W3.cell? ⟨W1.heap.size, 9, none⟩ = some (.int .i64 0) := hb3.cell 9
  have x10 : W3.cell? ⟨W1.heap.size, 10, none⟩ = some (.int .i64 o) := hb3.cell 10
  have x11 : W3.cell? ⟨W1.heap.size, 11, none⟩ = some (.int .i64 0) := hb3.cell 11
  have x12 : W3.cell? ⟨W1.heap.size, 12, none⟩ = some (.int .u8 0) := hb3.cell 12
  have x13 : W3.cell? ⟨W1.heap.size, 13, none⟩ = some (.bool true) := hb3.cell 13
  have x14 : W3.cell? ⟨W1.heap.size, 14, none⟩ = some (.slice u.ca 0 u.cc) := hb3.cell 14
  have x15 : W3.cell? ⟨W1.heap.size, 15, none⟩ = some (.slice u.na 0 u.nc) := hb3.cell 15
  have hr3 := H.out.keep hf3 (fun _ _ h => h) (fun _ _ h => h)
  have hdl : ∀ i, (w.heap.size ≤ i ∧ i < W1.heap.size) → i < W3.heap.size := fun i hi => by have := hb3.lt; omega
  have HR3 := Lib.hid hr3; clear hr3
  have HF3 := Lib.hid hf3; clear hf3
  have HRX4 := Lib.hid hrx4; clear hrx4 hrx3
  have HDL := Lib.hid hdl; clear hdl
  clear hb3 hst y0 y13 yf
  go_wp2_with fail
  refine (wlay_f HR3.out r (xSw s o false) (xSw s o true) u (fun b => w.heap.size ≤ b ∧ b < W1.heap.size) True HX.out rfl rfl rfl rfl rfl rfl HP.out.1 may_zero HRX4.out HDL.out (fun w' hf => form_13g u.va u.la u.ca u.na u.vc u.lc u.cc u.nc (HR3.out.keep hf (fun _ _ h => h) (fun _ _ h => h)) s HS.out o true) (fun w' hf => names_zeroG HR3.out (xSw s o true) u rfl HP.out.1 w' hf)).mono ?_
  rintro e W4 ⟨M4, D4, ck4, L4, rfl, h4, hM4, hD4, hf4⟩
  have hs3 := HF3.out.size
  have hout : Out_ w p (W.upd r (xSw s o true)) M D pa pc bc bt bf bm fk FL (.int .i64 0) (.returned (.int .i64 0)) W4 :=
    ⟨M4, D4, ck4, L4, rfl, h4, fun i hi => by
      rcases hM4 i hi with h | h
      · exact .inl h
      · exact .inr (by omega), fun i hi => by
      rcases hD4 i hi with h | h
      · exact .inl h
      · exact .inr (by omega), (HF3.out.mono (fun _ _ h => h.elim)).trans hf4⟩
  have HOUT := Lib.hid hout; clear hout
  clear h4 hM4 hD4 hf4
  go_wp2
  go_ret
  exact HOUT.out
end
end Go.Proofs.YtkiinokhdmmagaaGreat
