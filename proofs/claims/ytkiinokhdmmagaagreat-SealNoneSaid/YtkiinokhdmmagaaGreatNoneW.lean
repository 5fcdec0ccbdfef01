/- The walk of 'SealNone'. -/
import Derived.Test.YtkiinokhdmmagaaGreatNoneP
import Derived.Test.YtkiinokhdmmagaaGreatAwake9
namespace Go.Proofs.YtkiinokhdmmagaaGreat
open Go.RowKit
set_option linter.unusedSimpArgs false
set_option linter.unusedVariables false
set_option linter.unusedSectionVars false
def NoneRel (w0 : World) (cs : List Value) (n p b11 : Nat) (g : Nat) (s12 : Value) (wr : World) : Prop :=
  ∃ j : Nat, j + g = 2 ∧ s12 = .int .i64 (j : Int) ∧ Blk wr n cs 28 ∧ Blk wr b11 [.pointer none, .pointer (some ⟨p, 0, none⟩)] 39 ∧ Blk wr p noWorld 38 ∧ Fr none_ w0 wr
theorem load_box {ops : Array Oper} {rest : List Oper} {op : Oper} {a : Act} {w : World} {Q : Exit → Act → World → Prop} {n t : Nat} {v : V} {va : Option Addr} {vc : Nat} (hgd : op.guard = none) (x : Operand) (ho : op.op = .load 28 x)
    (hx : a.eval x = .pointer (some ⟨n, 0, none⟩)) (hb : Blk w n (v.cells va vc) t) (h : wpList Tryz.prog ops Q rest (a.put op.dst (v.agg va vc)) w) : wpList Tryz.prog ops Q (op :: rest) a w :=
  wpList_load_mid hgd 28 x ho n 0 hx (v.cells va vc) _ hb.rangeAll Tryz.underlying28 rfl size_Value h
set_option maxRecDepth 100000 in
set_option maxHeartbeats 8000000 in
theorem sealNone_any (w : World) (D : Nat → Prop) (z : Prop) (v : V) (va : Option Addr) (vc : Nat) (a b home able : Int) (hv : RV w D z v (v.cells va vc)) (hD : ∀ b, D b → b < w.heap.size) :
    Calls Tryz.prog 3 #[.int .i64 a, .int .i64 b, .int .i64 home, .int .u8 able, v.agg va vc] w fun e w' => e = .returned (.bool true) ∧ Below w.heap.size w w' := by
  have hb0 := Blk.new w (v.cells va vc) 28
  have hf0 : Fr none_ w (w.alloc (.cells (v.cells va vc).toArray 28)) := (Fr.refl none_ w).alloc _
  have hgr := great_any D z v va vc (w.alloc (.cells (v.cells va vc).toArray 28)) (hv.fr hf0 (fun _ _ h => h)) (fun b hd => by have := hD b hd; simp; omega)
  have HG := Lib.hid hgr; clear hgr hv hD
  have HB0 := Lib.hid hb0; clear hb0
  have HF0 := Lib.hid hf0; clear hf0
  have hbw : ∀ W : World, (Instr.build 38 #[]).run Tryz.prog W = .ok (.agg #[.slice none 0 0, .slice none 0 0, .map none, .map none, .int .i64 0, .slice none 0 0]) W := fun W => by kernel_rfl
  have hba : ∀ (q : Option Addr) (W : World), (Instr.build 39 #[(0, .pointer none), (1, .pointer q)]).run Tryz.prog W = .ok (.agg #[.pointer none, .pointer q]) W := fun q W => by kernel_rfl
  go_enter Tryz.func3, Tryz.ntmps3
  go_wp2_with fail
  refine HG.out.mono ?_
  rintro e W1 ⟨rfl, hf1⟩
  have HB1 := Lib.hid (HB0.out.keep hf1 (fun h => h))
  have HF1 := Lib.hid (HF0.out.trans hf1)
  clear hf1 HB0 HF0 HG
  cases hg : greatB v with
  | true =>
    go_wp2_with fail
    refine (awake9 W1).mono ?_
    rintro e W2 ⟨rfl, hf2⟩
    have HF2 := Lib.hid (HF1.out.trans hf2); clear hf2
    go_wp2
    go_ret
    exact ⟨rfl, HF2.out.below⟩
  | false =>
    go_upto_region 4 with (fail)
    refine code_gen ?_
    intro W2 hW
    have hf2 : Fr none_ W1 W2 := by rw [hW]; exact ((Fr.refl _ _).alloc _).alloc _
    have hp2 : Blk W2 W1.heap.size noWorld 38 := by rw [hW]; exact (Blk.new W1 _ _).alloc _
    have ha2 : Blk W2 (W1.heap.size + 1) [.pointer none, .pointer (some ⟨W1.heap.size, 0, none⟩)] 39 := by
      rw [hW]
      have h := Blk.new (W1.alloc (.cells noWorld.toArray 38)) [.pointer none, .pointer (some ⟨W1.heap.size, 0, none⟩)] 39
      rw [World.size_alloc] at h
      exact h
    clear hW
    have HB2 := Lib.hid (HB1.out.keep hf2 (fun h => h))
    have HF2 := Lib.hid (HF1.out.trans hf2)
    have HP2 := Lib.hid hp2
    have HA2 := Lib.hid ha2
    clear hf2 hp2 ha2 HB1 HF1
    go_wp2_with fail
    go_loopg [12] (2) (fun g s wr => NoneRel w (v.cells va vc) w.heap.size W1.heap.size (W1.heap.size + 1) g s wr)
    case atStart => exact ⟨0, rfl, rfl, HB2.out, HA2.out, HP2.out, HF2.out⟩
    case round =>
      obtain ⟨j, hj, rfl, hb, ha, hp, hf⟩ := hrel
      clear HB2 HA2 HP2 HF2
      have y0 : wr.cell? ⟨W1.heap.size + 1, 0, none⟩ = some (.pointer none) := ha.cell 0
      have y1 : wr.cell? ⟨W1.heap.size + 1, 1, none⟩ = some (.pointer (some ⟨W1.heap.size, 0, none⟩)) := ha.cell 1
      have HB := Lib.hid hb; clear hb
      have HA := Lib.hid ha; clear ha
      have HP := Lib.hid hp; clear hp
      have HF := Lib.hid hf; clear hf
      rcases (show j = 0 ∨ j = 1 ∨ j = 2 by omega) with rfl | rfl | rfl
      · have HN := Lib.hid (show NoW wr none from .inl rfl)
        obtain rfl : gk = 2 := by omega
        go_wp2_with fail
        refine (pair_no HN.out home).mono ?_
        rintro e wr ⟨rfl, rfl⟩
        clear y0 y1
        go_wp2_with (refine wpList_stop (.load 28 (.tmp 9)) rfl ?_)
        refine Stop.mk ?_
        refine load_box rfl (.tmp 9) rfl rfl HB.out ?_
        go_wp2_with fail
        refine (seal_no HN.out a v va vc).mono ?_
        rintro e W2 ⟨rfl, hf2⟩
        have HB2 := Lib.hid (HB.out.keep hf2 (fun h => h))
        have HN2 := Lib.hid (HN.out.keep hf2)
        have HG2 := Lib.hid hf2
        clear hf2
        go_wp2_with (refine wpList_stop (.load 28 (.tmp 9)) rfl ?_)
        refine Stop.mk ?_
        refine load_box rfl (.tmp 9) rfl rfl HB2.out ?_
        go_wp2_with fail
        refine (sopen_no HN2.out a v va vc).mono ?_
        rintro e W3 ⟨rfl, hf3⟩
        have HG3 := Lib.hid hf3
        clear hf3
        go_upto_region 11 with (fail)
        refine code_gen ?_
        intro W4 hW
        have hf4 : Fr none_ W2 W4 := by rw [hW]; exact HG3.out.alloc _
        have hy4 : Blk W4 W3.heap.size zero5 28 := by rw [hW]; exact Blk.new W3 _ _
        clear hW
        have HB4 := Lib.hid (HB2.out.keep hf4 (fun h => h))
        have HN4 := Lib.hid (HN2.out.keep hf4)
        have HG4 := Lib.hid (HG2.out.trans hf4)
        have HY4 := Lib.hid hy4
        clear hf4 hy4 HG2 HG3 HB2 HN2
        go_wp2_with (refine wpList_stop (.load 28 (.tmp 9)) rfl ?_)
        refine Stop.mk ?_
        refine load_box rfl (.tmp 9) rfl rfl HB4.out ?_
        go_wp2_with fail
        refine (do_no HN4.out a able v va vc).mono ?_
        rintro e W5 ⟨rfl, hf5⟩
        have HG5 := Lib.hid hf5
        clear hf5
        go_upto_region 12 with (fail)
        refine code_gen ?_
        intro W6 hW
        have hf6 : Fr none_ W4 W6 := by rw [hW]; exact HG5.out.alloc _
        have hz6 : Blk W6 W5.heap.size zero5 28 := by rw [hW]; exact Blk.new W5 _ _
        clear hW
        have HB6 := Lib.hid (HB4.out.keep hf6 (fun h => h))
        have HN6 := Lib.hid (HN4.out.keep hf6)
        have HG6 := Lib.hid (HG4.out.trans hf6)
        have HY6 := Lib.hid (HY4.out.keep hf6 (fun h => h))
        have HZ6 := Lib.hid hz6
        clear hf6 hz6 HG4 HG5 HB4 HN4 HY4
        go_wp2_with fail
        refine (smark_no HN6.out a).mono ?_
        rintro e W6 ⟨rfl, rfl⟩
        go_wp2_with fail
        refine (same_no HN6.out a b).mono ?_
        rintro e W6 ⟨rfl, rfl⟩
        go_wp2_with fail
        refine (boxes_no HN6.out a).mono ?_
        rintro e W6 ⟨rfl, rfl⟩
        go_wp2_with (refine wpList_stop (.load 28 (.tmp 9)) rfl ?_)
        refine Stop.mk ?_
        refine load_box rfl (.tmp 9) rfl rfl HB6.out ?_
        go_wp2_with fail
        refine (unlocked_no HN6.out v va vc).mono ?_
        rintro e W7 ⟨rfl, hf7⟩
        have hy7 := HY6.out.keep hf7 (fun h => h)
        have HZ7 := Lib.hid (HZ6.out.keep hf7 (fun h => h))
        have HN7 := Lib.hid (HN6.out.keep hf7)
        have HG7 := Lib.hid (HG6.out.trans hf7)
        clear hf7 HY6 HZ6 HB6 HG6 HN6
        have r0 : W7.cell? ⟨W3.heap.size, 0, none⟩ = some (.int .u8 0) := hy7.cell 0
        have r1 : W7.cell? ⟨W3.heap.size, 1, none⟩ = some (.int .i64 0) := hy7.cell 1
        have r2 : W7.cell? ⟨W3.heap.size, 2, none⟩ = some (.string ⟨#[]⟩) := hy7.cell 2
        have r3 : W7.cell? ⟨W3.heap.size, 3, none⟩ = some (.slice none 0 0) := hy7.cell 3
        have r4 : W7.cell? ⟨W3.heap.size, 4, none⟩ = some (.int .i64 0) := hy7.cell 4
        clear hy7
        go_wp2_with fail
        refine (nothing_zero W7).mono ?_
        rintro e W8 ⟨rfl, hf8⟩
        have hz8 := HZ7.out.keep hf8 (fun h => h)
        have HN8 := Lib.hid (HN7.out.keep hf8)
        have HG8 := Lib.hid (HG7.out.trans hf8)
        clear hf8 HZ7 HN7 HG7 r0 r1 r2 r3 r4
        have r0 : W8.cell? ⟨W5.heap.size, 0, none⟩ = some (.int .u8 0) := hz8.cell 0
        have r1 : W8.cell? ⟨W5.heap.size, 1, none⟩ = some (.int .i64 0) := hz8.cell 1
        have r2 : W8.cell? ⟨W5.heap.size, 2, none⟩ = some (.string ⟨#[]⟩) := hz8.cell 2
        have r3 : W8.cell? ⟨W5.heap.size, 3, none⟩ = some (.slice none 0 0) := hz8.cell 3
        have r4 : W8.cell? ⟨W5.heap.size, 4, none⟩ = some (.int .i64 0) := hz8.cell 4
        clear hz8
        go_wp2_with fail
        refine (nothing_zero W8).mono ?_
        rintro e W9 ⟨rfl, hf9⟩
        have HN9 := Lib.hid (HN8.out.keep hf9)
        have HG9 := Lib.hid (HG8.out.trans hf9)
        clear hf9 HN8 HG8 r0 r1 r2 r3 r4
        go_wp2_with fail
        refine (pairs_no HN9.out).mono ?_
        rintro e Wa ⟨rfl, hfa⟩
        have hga := HG9.out.trans hfa
        have h1 := HB.out.keep hga (fun h => h)
        have h2 := HA.out.keep hga (fun h => h)
        have h3 := HP.out.keep hga (fun h => h)
        have h4 := HF.out.trans hga
        have H1 := Lib.hid h1
        have H2 := Lib.hid h2
        have H3 := Lib.hid h3
        have H4 := Lib.hid h4
        clear hfa hga h1 h2 h3 h4 HN9 HG9 HB HA HP HF
        go_wp2_with fail
        go_roundg (2 - 1)
        case measure => omega
        case rel => exact ⟨1, rfl, rfl, H1.out, H2.out, H3.out, H4.out⟩
      · have HN := Lib.hid (show NoW wr (some ⟨W1.heap.size, 0, none⟩) from .inr ⟨_, rfl, HP.out⟩)
        obtain rfl : gk = 1 := by omega
        go_wp2_with fail
        refine (pair_no HN.out home).mono ?_
        rintro e wr ⟨rfl, rfl⟩
        clear y0 y1
        go_wp2_with (refine wpList_stop (.load 28 (.tmp 9)) rfl ?_)
        refine Stop.mk ?_
        refine load_box rfl (.tmp 9) rfl rfl HB.out ?_
        go_wp2_with fail
        refine (seal_no HN.out a v va vc).mono ?_
        rintro e W2 ⟨rfl, hf2⟩
        have HB2 := Lib.hid (HB.out.keep hf2 (fun h => h))
        have HN2 := Lib.hid (HN.out.keep hf2)
        have HG2 := Lib.hid hf2
        clear hf2
        go_wp2_with (refine wpList_stop (.load 28 (.tmp 9)) rfl ?_)
        refine Stop.mk ?_
        refine load_box rfl (.tmp 9) rfl rfl HB2.out ?_
        go_wp2_with fail
        refine (sopen_no HN2.out a v va vc).mono ?_
        rintro e W3 ⟨rfl, hf3⟩
        have HG3 := Lib.hid hf3
        clear hf3
        go_upto_region 11 with (fail)
        refine code_gen ?_
        intro W4 hW
        have hf4 : Fr none_ W2 W4 := by rw [hW]; exact HG3.out.alloc _
        have hy4 : Blk W4 W3.heap.size zero5 28 := by rw [hW]; exact Blk.new W3 _ _
        clear hW
        have HB4 := Lib.hid (HB2.out.keep hf4 (fun h => h))
        have HN4 := Lib.hid (HN2.out.keep hf4)
        have HG4 := Lib.hid (HG2.out.trans hf4)
        have HY4 := Lib.hid hy4
        clear hf4 hy4 HG2 HG3 HB2 HN2
        go_wp2_with (refine wpList_stop (.load 28 (.tmp 9)) rfl ?_)
        refine Stop.mk ?_
        refine load_box rfl (.tmp 9) rfl rfl HB4.out ?_
        go_wp2_with fail
        refine (do_no HN4.out a able v va vc).mono ?_
        rintro e W5 ⟨rfl, hf5⟩
        have HG5 := Lib.hid hf5
        clear hf5
        go_upto_region 12 with (fail)
        refine code_gen ?_
        intro W6 hW
        have hf6 : Fr none_ W4 W6 := by rw [hW]; exact HG5.out.alloc _
        have hz6 : Blk W6 W5.heap.size zero5 28 := by rw [hW]; exact Blk.new W5 _ _
        clear hW
        have HB6 := Lib.hid (HB4.out.keep hf6 (fun h => h))
        have HN6 := Lib.hid (HN4.out.keep hf6)
        have HG6 := Lib.hid (HG4.out.trans hf6)
        have HY6 := Lib.hid (HY4.out.keep hf6 (fun h => h))
        have HZ6 := Lib.hid hz6
        clear hf6 hz6 HG4 HG5 HB4 HN4 HY4
        go_wp2_with fail
        refine (smark_no HN6.out a).mono ?_
        rintro e W6 ⟨rfl, rfl⟩
        go_wp2_with fail
        refine (same_no HN6.out a b).mono ?_
        rintro e W6 ⟨rfl, rfl⟩
        go_wp2_with fail
        refine (boxes_no HN6.out a).mono ?_
        rintro e W6 ⟨rfl, rfl⟩
        go_wp2_with (refine wpList_stop (.load 28 (.tmp 9)) rfl ?_)
        refine Stop.mk ?_
        refine load_box rfl (.tmp 9) rfl rfl HB6.out ?_
        go_wp2_with fail
        refine (unlocked_no HN6.out v va vc).mono ?_
        rintro e W7 ⟨rfl, hf7⟩
        have hy7 := HY6.out.keep hf7 (fun h => h)
        have HZ7 := Lib.hid (HZ6.out.keep hf7 (fun h => h))
        have HN7 := Lib.hid (HN6.out.keep hf7)
        have HG7 := Lib.hid (HG6.out.trans hf7)
        clear hf7 HY6 HZ6 HB6 HG6 HN6
        have r0 : W7.cell? ⟨W3.heap.size, 0, none⟩ = some (.int .u8 0) := hy7.cell 0
        have r1 : W7.cell? ⟨W3.heap.size, 1, none⟩ = some (.int .i64 0) := hy7.cell 1
        have r2 : W7.cell? ⟨W3.heap.size, 2, none⟩ = some (.string ⟨#[]⟩) := hy7.cell 2
        have r3 : W7.cell? ⟨W3.heap.size, 3, none⟩ = some (.slice none 0 0) := hy7.cell 3
        have r4 : W7.cell? ⟨W3.heap.size, 4, none⟩ = some (.int .i64 0) := hy7.cell 4
        clear hy7
        go_wp2_with fail
        refine (nothing_zero W7).mono ?_
        rintro e W8 ⟨rfl, hf8⟩
        have hz8 := HZ7.out.keep hf8 (fun h => h)
        have HN8 := Lib.hid (HN7.out.keep hf8)
        have HG8 := Lib.hid (HG7.out.trans hf8)
        clear hf8 HZ7 HN7 HG7 r0 r1 r2 r3 r4
        have r0 : W8.cell? ⟨W5.heap.size, 0, none⟩ = some (.int .u8 0) := hz8.cell 0
        have r1 : W8.cell? ⟨W5.heap.size, 1, none⟩ = some (.int .i64 0) := hz8.cell 1
        have r2 : W8.cell? ⟨W5.heap.size, 2, none⟩ = some (.string ⟨#[]⟩) := hz8.cell 2
        have r3 : W8.cell? ⟨W5.heap.size, 3, none⟩ = some (.slice none 0 0) := hz8.cell 3
        have r4 : W8.cell? ⟨W5.heap.size, 4, none⟩ = some (.int .i64 0) := hz8.cell 4
        clear hz8
        go_wp2_with fail
        refine (nothing_zero W8).mono ?_
        rintro e W9 ⟨rfl, hf9⟩
        have HN9 := Lib.hid (HN8.out.keep hf9)
        have HG9 := Lib.hid (HG8.out.trans hf9)
        clear hf9 HN8 HG8 r0 r1 r2 r3 r4
        go_wp2_with fail
        refine (pairs_no HN9.out).mono ?_
        rintro e Wa ⟨rfl, hfa⟩
        have hga := HG9.out.trans hfa
        have h1 := HB.out.keep hga (fun h => h)
        have h2 := HA.out.keep hga (fun h => h)
        have h3 := HP.out.keep hga (fun h => h)
        have h4 := HF.out.trans hga
        have H1 := Lib.hid h1
        have H2 := Lib.hid h2
        have H3 := Lib.hid h3
        have H4 := Lib.hid h4
        clear hfa hga h1 h2 h3 h4 HN9 HG9 HB HA HP HF
        go_wp2_with fail
        go_roundg (1 - 1)
        case measure => omega
        case rel => exact ⟨2, rfl, rfl, H1.out, H2.out, H3.out, H4.out⟩
      · obtain rfl : gk = 0 := by omega
        clear y0 y1
        go_wp2_with fail
        refine (awake9 wr).mono ?_
        rintro e W2 ⟨rfl, hf2⟩
        have HF2 := Lib.hid (HF.out.trans hf2); clear hf2
        go_wp2
        go_ret
        exact ⟨rfl, HF2.out.below⟩
end Go.Proofs.YtkiinokhdmmagaaGreat
