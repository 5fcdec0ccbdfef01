/- The walk of 'GateNone'. -/
import Derived.Test.YtkiinokhdmmagaaGreatGAll
import Derived.Test.YtkiinokhdmmagaaGreatAwake12
namespace Go.Proofs.YtkiinokhdmmagaaGreat
open Go.RowKit
set_option linter.unusedSimpArgs false
set_option linter.unusedVariables false
set_option linter.unusedSectionVars false
def GNoneRel (w0 : World) (cs : List Value) (n p b11 : Nat) (g : Nat) (s12 : Value) (wr : World) : Prop :=
  ∃ j : Nat, j + g = 2 ∧ s12 = .int .i64 (j : Int) ∧ Blk wr n cs 28 ∧ Blk wr b11 [.pointer none, .pointer (some ⟨p, 0, none⟩)] 39 ∧ Blk wr p noWorld 38 ∧ Fr none_ w0 wr
set_option maxRecDepth 100000 in
set_option maxHeartbeats 8000000 in
theorem gateNone_any (w : World) (D : Nat → Prop) (z : Prop) (v : V) (va : Option Addr) (vc : Nat) (a home able : Int) (la : Option Addr) (ln lc : Nat) (hv : RV w D z v (v.cells va vc)) (hD : ∀ b, D b → b < w.heap.size) :
    Calls Tryz.prog 4 #[.int .i64 a, .int .i64 home, .int .u8 able, v.agg va vc, .slice la ln lc] w fun e w' => e = .returned (.bool true) ∧ Below w.heap.size w w' := by
  have hb0 := Blk.new w (v.cells va vc) 28
  have hf0 : Fr none_ w (w.alloc (.cells (v.cells va vc).toArray 28)) := (Fr.refl none_ w).alloc _
  have hgr := great_any D z v va vc (w.alloc (.cells (v.cells va vc).toArray 28)) (hv.fr hf0 (fun _ _ h => h)) (fun b hd => by have := hD b hd; simp; omega)
  have HG := Lib.hid hgr; clear hgr hv hD
  have HB0 := Lib.hid hb0; clear hb0
  have HF0 := Lib.hid hf0; clear hf0
  have hbw : ∀ W : World, (Instr.build 38 #[]).run Tryz.prog W = .ok (.agg #[.slice none 0 0, .slice none 0 0, .map none, .map none, .int .i64 0, .slice none 0 0]) W := fun W => by kernel_rfl
  have hba : ∀ (q : Option Addr) (W : World), (Instr.build 39 #[(0, .pointer none), (1, .pointer q)]).run Tryz.prog W = .ok (.agg #[.pointer none, .pointer q]) W := fun q W => by kernel_rfl
  go_enter Tryz.func4, Tryz.ntmps4
  go_wp2_with fail
  refine HG.out.mono ?_
  rintro e W1 ⟨rfl, hf1⟩
  have HB1 := Lib.hid (HB0.out.keep hf1 (fun h => h))
  have HF1 := Lib.hid (HF0.out.trans hf1)
  clear hf1 HB0 HF0 HG
  cases hg : greatB v with
  | true =>
    go_wp2_with fail
    refine (awake12 W1).mono ?_
    rintro e W2 ⟨rfl, hf2⟩
    have HF2 := Lib.hid (HF1.out.trans hf2); clear hf2
    go_wp2
    go_ret
    exact ⟨rfl, HF2.out.below⟩
  | false =>
    by_cases hln : ((300 : Int) < (ln : Int))
    · go_wp2_with fail
      refine (awake12 W1).mono ?_
      rintro e W2 ⟨rfl, hf2⟩
      have HF2 := Lib.hid (HF1.out.trans hf2); clear hf2
      go_wp2
      go_ret
      exact ⟨rfl, HF2.out.below⟩
    go_upto_region 4 with (fail)
    refine code_gen ?_
    intro W2 hW
    have hf2 : Fr none_ W1 W2 := by rw [hW]; exact ((Fr.refl _ _).alloc _).alloc _
    have hp2 : Blk W2 W1.heap.size noWorld 38 := by rw [hW]; exact (Blk.new W1 _ _).alloc _
    have ha2 : Blk W2 (W1.heap.size + 1) [.pointer none, .pointer (some ⟨W1.heap.size, 0, none⟩)] 39 := by
      rw [hW]
      have h := Blk.new (W1.alloc (.cells noWorld.toArray 38)) [.pointer none, .pointer (some ⟨W1.heap.size, 0, none⟩)] 39
      rw [World.size_alloc] at h
      exact h
    clear hW hln
    have HB2 := Lib.hid (HB1.out.keep hf2 (fun h => h))
    have HF2 := Lib.hid (HF1.out.trans hf2)
    have HP2 := Lib.hid hp2
    have HA2 := Lib.hid ha2
    clear hf2 hp2 ha2 HB1 HF1
    go_wp2_with fail
    go_loopg [12] (2) (fun g s wr => GNoneRel w (v.cells va vc) w.heap.size W1.heap.size (W1.heap.size + 1) g s wr)
    case atStart => exact ⟨0, rfl, rfl, HB2.out, HA2.out, HP2.out, HF2.out⟩
    case round =>
      obtain ⟨j, hj, rfl, hb, ha, hp, hf⟩ := hrel
      clear HB2 HA2 HP2 HF2
      have y0 : wr.cell? ⟨W1.heap.size + 1, 0, none⟩ = some (.pointer none) := ha.cell 0
      have y1 : wr.cell? ⟨W1.heap.size + 1, 1, none⟩ = some (.pointer (some ⟨W1.heap.size, 0, none⟩)) := ha.cell 1
      have HB := Lib.hid hb; clear hb
      have HA := Lib.hid ha; clear ha
      have HP := Lib.hid hp; clear hp
      have HF := Lib.hid hf; clear hf
      rcases (show j = 0 ∨ j = 1 ∨ j = 2 by omega) with rfl | rfl | rfl
      · have HN := Lib.hid (show NoW wr none from .inl rfl)
        obtain rfl : gk = 2 := by omega
        go_wp2_with fail
        refine (gnew_no HN.out home a).mono ?_
        rintro e wr ⟨rfl, rfl⟩
        clear y0 y1
        go_wp2_with fail
        refine (giscut_no HN.out a).mono ?_
        rintro e wr ⟨rfl, rfl⟩
        go_wp2_with (refine wpList_stop (.load 28 (.tmp 8)) rfl ?_)
        refine Stop.mk ?_
        refine load_boxg rfl (.tmp 8) rfl rfl HB.out ?_
        go_wp2_with fail
        refine (gdo_no HN.out a able v va vc).mono ?_
        rintro e W2 ⟨rfl, hf2⟩
        have HG2 := Lib.hid hf2
        clear hf2
        go_upto_region 11 with (fail)
        refine code_gen ?_
        intro W4 hW
        have hf4 : Fr none_ wr W4 := by rw [hW]; exact HG2.out.alloc _
        have hy4 : Blk W4 W2.heap.size zero5 28 := by rw [hW]; exact Blk.new W2 _ _
        clear hW
        have HN4 := Lib.hid (HN.out.keep hf4)
        have HG4 := Lib.hid hf4
        have HY4 := Lib.hid hy4
        clear hf4 hy4 HG2 HN
        go_wp2_with fail
        refine (gof_no HN4.out a).mono ?_
        rintro e W4 ⟨rfl, rfl⟩
        go_wp2_with fail
        refine (ggates_no HN4.out a).mono ?_
        rintro e W4 ⟨rfl, rfl⟩
        go_wp2_with fail
        refine (gfirst_no HN4.out a).mono ?_
        rintro e W5 ⟨rfl, hf5⟩
        have HN5 := Lib.hid (HN4.out.keep hf5)
        have HG5 := Lib.hid (HG4.out.trans hf5)
        have HY5 := Lib.hid (HY4.out.keep hf5 (fun h => h))
        clear hf5 HN4 HG4 HY4
        go_wp2_with fail
        refine (gbehind_no HN5.out a).mono ?_
        rintro e W6 ⟨rfl, hf6⟩
        have HN6 := Lib.hid (HN5.out.keep hf6)
        have HG6 := Lib.hid (HG5.out.trans hf6)
        have HY6 := Lib.hid (HY5.out.keep hf6 (fun h => h))
        clear hf6 HN5 HG5 HY5
        go_wp2_with fail
        refine (gstop_no HN6.out la la ln ln lc lc).mono ?_
        rintro e W6 ⟨rfl, rfl⟩
        go_wp2_with fail
        refine (gcutE_no HN6.out a).mono ?_
        rintro e W6 ⟨rfl, rfl⟩
        have r0 : W6.cell? ⟨W2.heap.size, 0, none⟩ = some (.int .u8 0) := HY6.out.cell 0
        have r1 : W6.cell? ⟨W2.heap.size, 1, none⟩ = some (.int .i64 0) := HY6.out.cell 1
        have r2 : W6.cell? ⟨W2.heap.size, 2, none⟩ = some (.string ⟨#[]⟩) := HY6.out.cell 2
        have r3 : W6.cell? ⟨W2.heap.size, 3, none⟩ = some (.slice none 0 0) := HY6.out.cell 3
        have r4 : W6.cell? ⟨W2.heap.size, 4, none⟩ = some (.int .i64 0) := HY6.out.cell 4
        go_wp2_with fail
        refine (nothing_zero W6).mono ?_
        rintro e W7 ⟨rfl, hf7⟩
        have HN7 := Lib.hid (HN6.out.keep hf7)
        have HG7 := Lib.hid (HG6.out.trans hf7)
        clear hf7 HN6 HG6 HY6 r0 r1 r2 r3 r4
        go_wp2_with fail
        refine (walk_no HN7.out).mono ?_
        rintro e Wa ⟨rfl, hfa⟩
        have hga := HG7.out.trans hfa
        have h1 := HB.out.keep hga (fun h => h)
        have h2 := HA.out.keep hga (fun h => h)
        have h3 := HP.out.keep hga (fun h => h)
        have h4 := HF.out.trans hga
        have H1 := Lib.hid h1
        have H2 := Lib.hid h2
        have H3 := Lib.hid h3
        have H4 := Lib.hid h4
        clear hfa hga h1 h2 h3 h4 HN7 HG7 HB HA HP HF
        go_wp2_with fail
        go_roundg (2 - 1)
        case measure => omega
        case rel => exact ⟨1, rfl, rfl, H1.out, H2.out, H3.out, H4.out⟩
      · have HN := Lib.hid (show NoW wr (some ⟨W1.heap.size, 0, none⟩) from .inr ⟨_, rfl, HP.out⟩)
        obtain rfl : gk = 1 := by omega
        go_wp2_with fail
        refine (gnew_no HN.out home a).mono ?_
        rintro e wr ⟨rfl, rfl⟩
        clear y0 y1
        go_wp2_with fail
        refine (giscut_no HN.out a).mono ?_
        rintro e wr ⟨rfl, rfl⟩
        go_wp2_with (refine wpList_stop (.load 28 (.tmp 8)) rfl ?_)
        refine Stop.mk ?_
        refine load_boxg rfl (.tmp 8) rfl rfl HB.out ?_
        go_wp2_with fail
        refine (gdo_no HN.out a able v va vc).mono ?_
        rintro e W2 ⟨rfl, hf2⟩
        have HG2 := Lib.hid hf2
        clear hf2
        go_upto_region 11 with (fail)
        refine code_gen ?_
        intro W4 hW
        have hf4 : Fr none_ wr W4 := by rw [hW]; exact HG2.out.alloc _
        have hy4 : Blk W4 W2.heap.size zero5 28 := by rw [hW]; exact Blk.new W2 _ _
        clear hW
        have HN4 := Lib.hid (HN.out.keep hf4)
        have HG4 := Lib.hid hf4
        have HY4 := Lib.hid hy4
        clear hf4 hy4 HG2 HN
        go_wp2_with fail
        refine (gof_no HN4.out a).mono ?_
        rintro e W4 ⟨rfl, rfl⟩
        go_wp2_with fail
        refine (ggates_no HN4.out a).mono ?_
        rintro e W4 ⟨rfl, rfl⟩
        go_wp2_with fail
        refine (gfirst_no HN4.out a).mono ?_
        rintro e W5 ⟨rfl, hf5⟩
        have HN5 := Lib.hid (HN4.out.keep hf5)
        have HG5 := Lib.hid (HG4.out.trans hf5)
        have HY5 := Lib.hid (HY4.out.keep hf5 (fun h => h))
        clear hf5 HN4 HG4 HY4
        go_wp2_with fail
        refine (gbehind_no HN5.out a).mono ?_
        rintro e W6 ⟨rfl, hf6⟩
        have HN6 := Lib.hid (HN5.out.keep hf6)
        have HG6 := Lib.hid (HG5.out.trans hf6)
        have HY6 := Lib.hid (HY5.out.keep hf6 (fun h => h))
        clear hf6 HN5 HG5 HY5
        go_wp2_with fail
        refine (gstop_no HN6.out la la ln ln lc lc).mono ?_
        rintro e W6 ⟨rfl, rfl⟩
        go_wp2_with fail
        refine (gcutE_no HN6.out a).mono ?_
        rintro e W6 ⟨rfl, rfl⟩
        have r0 : W6.cell? ⟨W2.heap.size, 0, none⟩ = some (.int .u8 0) := HY6.out.cell 0
        have r1 : W6.cell? ⟨W2.heap.size, 1, none⟩ = some (.int .i64 0) := HY6.out.cell 1
        have r2 : W6.cell? ⟨W2.heap.size, 2, none⟩ = some (.string ⟨#[]⟩) := HY6.out.cell 2
        have r3 : W6.cell? ⟨W2.heap.size, 3, none⟩ = some (.slice none 0 0) := HY6.out.cell 3
        have r4 : W6.cell? ⟨W2.heap.size, 4, none⟩ = some (.int .i64 0) := HY6.out.cell 4
        go_wp2_with fail
        refine (nothing_zero W6).mono ?_
        rintro e W7 ⟨rfl, hf7⟩
        have HN7 := Lib.hid (HN6.out.keep hf7)
        have HG7 := Lib.hid (HG6.out.trans hf7)
        clear hf7 HN6 HG6 HY6 r0 r1 r2 r3 r4
        go_wp2_with fail
        refine (walk_no HN7.out).mono ?_
        rintro e Wa ⟨rfl, hfa⟩
        have hga := HG7.out.trans hfa
        have h1 := HB.out.keep hga (fun h => h)
        have h2 := HA.out.keep hga (fun h => h)
        have h3 := HP.out.keep hga (fun h => h)
        have h4 := HF.out.trans hga
        have H1 := Lib.hid h1
        have H2 := Lib.hid h2
        have H3 := Lib.hid h3
        have H4 := Lib.hid h4
        clear hfa hga h1 h2 h3 h4 HN7 HG7 HB HA HP HF
        go_wp2_with fail
        go_roundg (1 - 1)
        case measure => omega
        case rel => exact ⟨2, rfl, rfl, H1.out, H2.out, H3.out, H4.out⟩
      · obtain rfl : gk = 0 := by omega
        clear y0 y1
        go_wp2_with fail
        refine (awake12 wr).mono ?_
        rintro e W2 ⟨rfl, hf2⟩
        have HF2 := Lib.hid (HF.out.trans hf2); clear hf2
        go_wp2
        go_ret
        exact ⟨rfl, HF2.out.below⟩
end Go.Proofs.YtkiinokhdmmagaaGreat
