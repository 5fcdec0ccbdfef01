/- 'awake' of the law of layer 9. -/
import Derived.Test.YtpgjbbefgacjkaaNew2
import Derived.Test.YtpgjbbefgacjkaaOpen
import Derived.Test.YtpgjbbefgacjkaaMark
import Derived.Deep.CutBlock
namespace Go.Proofs.Ytpgjbbefgacjkaa
open Go.RowKit
set_option linter.unusedSimpArgs false
set_option linter.unusedVariables false
set_option linter.unusedSectionVars false
def numV (n : Int) : V := .mk 1 n ⟨#[]⟩ [] 0
theorem numV_may (n : Int) : (numV n).may = true := by unfold numV V.may; rw [show (512 : Nat) = 511 + 1 from rfl, takeV]; rfl
theorem numV_refs (n : Int) : (numV n).refs = [] := by
  unfold V.refs numV refsV refsL
  split <;> simp
theorem refV_refs (r : Int) (h : 1 ≤ r) : (refV r).refs = [r] := by
  unfold V.refs
  rw [if_pos (refV_may r h)]
  unfold refV refsV refsL
  simp
theorem RV_num (w : World) (D : Nat → Prop) (z : Prop) (n : Int) (hn : I64 n) : RV w D z (numV n) ((numV n).cells none 0) := by
  unfold numV RV
  exact ⟨by unfold U8; omega, hn, by unfold I64; omega, Nat.zero_le _, by simp, none, 0, rfl, Nat.le_refl _, by unfold RVs; trivial⟩
theorem new0_Ok : AW.new0.Ok := ⟨fun t h => absurd h (List.not_mem_nil), fun t h => absurd h (List.not_mem_nil)⟩
theorem AW.Ok.pair {W : AW} (h : W.Ok) (h0 : 0 ≤ W.last) (s : Int) : (W.pair s).Ok := by
  unfold AW.pair
  exact (h.lay (xOf_plain _ _ _ _) may_zero h0).lay (xOf_plain _ _ _ _) may_zero (Int.le_refl _)
abbrev awA : AW := AW.new0.pair 0
abbrev awB : AW := awA.pair 0
abbrev awC : AW := awB.lay (xOf 7 0 1 (numV 7))
theorem awA_Ok : awA.Ok := new0_Ok.pair (by decide) 0
theorem awB_Ok : awB.Ok := awA_Ok.pair (by decide) 0
theorem awC_Ok : awC.Ok := awB_Ok.lay (xOf_plain _ _ _ _) (numV_may 7) (by decide)
theorem at1 : awB.at_ 1 = some (xOf 5 0 0 V.zero) := rfl
theorem atC2 : awC.at_ 2 = some (xOf 6 0 1 V.zero) := rfl
theorem atC4 : awC.at_ 4 = some (xOf 6 0 3 V.zero) := rfl
theorem atC5 : awC.at_ 5 = some (xOf 7 0 1 (numV 7)) := rfl
theorem pC2 : pairOf awC 2 = some 1 := rfl
theorem pC5 : pairOf awC 5 = some 1 := rfl
theorem allB : allThings awB (numV 7).refs = true := by rw [numV_refs]; rfl
theorem allC : allThings awC (refV 5).refs = true := by rw [refV_refs 5 (by omega)]; rfl
set_option maxRecDepth 100000 in
set_option maxHeartbeats 4000000 in
theorem awake9 (w : World) : Calls Try.prog 7 #[] w fun e w' => e = .returned (.bool true) ∧ Fr none_ w w' := by
  have hb7 : ∀ W : World, (Instr.build 37 #[(0, .int .u8 1), (1, .int .i64 7)]).run Try.prog W = .ok (.agg #[.int .u8 1, .int .i64 7, .string ⟨#[]⟩, .slice none 0 0, .int .i64 0]) W := fun W => by kernel_rfl
  have hb5 : ∀ W : World, (Instr.build 37 #[(0, .int .u8 4), (4, .int .i64 5)]).run Try.prog W = .ok (.agg #[.int .u8 4, .int .i64 0, .string ⟨#[]⟩, .slice none 0 0, .int .i64 5]) W := fun W => by kernel_rfl
  have hzv := zero_Value
  go_enter Try.func7, Try.ntmps7
  go_wp2_with fail
  refine (new_0 w).mono ?_
  rintro e W1 ⟨M1, D1, p, bc, bt, bf, bm, rfl, h1, hf1, hn1⟩
  have H1 := Lib.hid h1; clear h1
  have HF1 := Lib.hid hf1; clear hf1
  have hS : ∀ i, i < w.heap.size → ¬ (i = p ∨ i = bt ∨ i = bm) := by
    rintro i hi (e | e | e)
    · have := hn1 p H1.out.m.1; omega
    · have := hn1 bt H1.out.m.2.2.1; omega
    · have := hn1 bm H1.out.m.2.2.2.2; omega
  have HS := Lib.hid hS; clear hS hn1
  go_wp2_with fail
  refine (pair_yes H1.out new0_Ok 0 rfl (by decide)).mono ?_
  rintro e W2 ⟨M2, D2, ck2, L2, rfl, h2, _, _, hf2⟩
  have hg2 := HF1.out.trans' hf2 (fun i hi h => HS.out i hi h)
  have HF2 := Lib.hid hg2; clear hg2 hf2
  have H2 := Lib.hid h2; clear h2
  rw [show AW.new0.last + 1 = (1 : Int) from rfl, show AW.new0.last + 2 = (2 : Int) from rfl]
  go_wp2_with fail
  refine (pair_yes H2.out awA_Ok 0 rfl (by decide)).mono ?_
  rintro e W3 ⟨M3, D3, ck3, L3, rfl, h3, _, _, hf3⟩
  have hg3 := HF2.out.trans' hf3 (fun i hi h => HS.out i hi h)
  have HF3 := Lib.hid hg3; clear hg3 hf3
  have H3 := Lib.hid h3; clear h3
  rw [show awA.last + 1 = (3 : Int) from rfl, show awA.last + 2 = (4 : Int) from rfl]
  go_wp2_with fail
  refine (seal_yes H3.out 1 (xOf 5 0 0 V.zero) (numV 7) none 0 none_ True (by unfold I64; omega) at1 rfl rfl (numV_may 7) allB (RV_num _ _ _ _ (by unfold I64; omega)) (fun b h => h.elim) (by decide)).mono ?_
  rintro e W4 ⟨M4, D4, ck4, L4, rfl, h4, _, _, hf4⟩
  have hg4 := HF3.out.trans' hf4 (fun i hi h => HS.out i hi h)
  have HF4 := Lib.hid hg4; clear hg4 hf4
  have H4 := Lib.hid h4; clear h4
  rw [show awB.last + 1 = (5 : Int) from rfl]
  go_wp2_with fail
  refine (open_yes H4.out awC_Ok 2 (xOf 6 0 1 V.zero) (refV 5) none 0 none_ True (xOf 7 0 1 (numV 7)) atC2 rfl (refV_may 5 (by omega)) allC rfl atC5 rfl rfl (RV_ref _ _ _ 5 (by unfold I64; omega)) (fun b h => h.elim)).mono ?_
  rintro e W5 ⟨A5, c5, rfl, _, hf5⟩
  have HF5 := Lib.hid hf5; clear hf5
  go_upto_region 6 with (fail)
  refine code_gen ?_
  intro W6 hW
  have hb6 : Blk W6 W5.heap.size ((numV 7).cells A5 c5) 37 := by rw [hW]; exact Blk.new W5 _ _
  have hf6 : Fr none_ W4 W6 := by rw [hW]; exact HF5.out.alloc _
  clear hW
  have h6 := H4.out.keep hf6 (fun _ _ h => h) (fun _ _ h => h)
  have hg6 := HF4.out.trans hf6
  have HF6 := Lib.hid hg6; clear hg6 hf6
  have H6 := Lib.hid h6; clear h6
  have HB6 := Lib.hid hb6; clear hb6
  go_wp2_with fail
  refine (open_no H6.out awC_Ok 4 (xOf 6 0 3 V.zero) (refV 5) none 0 none_ True (xOf 7 0 1 (numV 7)) atC4 rfl (refV_may 5 (by omega)) allC rfl atC5 rfl (by decide) (RV_ref _ _ _ 5 (by unfold I64; omega)) (fun b h => h.elim)).mono ?_
  rintro e W7 ⟨A7, c7, rfl, _, hf7⟩
  have hb7' := HB6.out.keep hf7 (fun h => h)
  have HB7 := Lib.hid hb7'; clear hb7'
  have HF7 := Lib.hid hf7; clear hf7
  go_upto_region 7 with (fail)
  refine code_gen ?_
  intro W8 hW
  have hf8 : Fr none_ W7 W8 := by rw [hW]; exact (Fr.refl _ _).alloc _
  clear hW
  have hb8 := HB7.out.keep hf8 (fun h => h)
  have hf68 := HF7.out.trans hf8
  have h8 := H6.out.keep hf68 (fun _ _ h => h) (fun _ _ h => h)
  have hg8 := HF6.out.trans hf68
  have HF8 := Lib.hid hg8; clear hg8 hf68 hf8
  have H8 := Lib.hid h8; clear h8
  have HB8 := Lib.hid hb8; clear hb8
  go_wp2_with fail
  refine (same_any H8.out awC_Ok 2 5 1 1 pC2 pC5 (by unfold I64; omega) (by unfold I64; omega) (by omega) (by omega)).mono ?_
  rintro e W9 ⟨rfl, hf9⟩
  have hb9 := HB8.out.keep hf9 (fun h => h)
  have y1 : W9.cell? ⟨W5.heap.size, 1, none⟩ = some (.int .i64 7) := hb9.cell 1
  have hg9 := HF8.out.trans hf9
  have HF9 := Lib.hid hg9; clear hg9 hf9 hb9
  go_wp2
  go_ret
  exact ⟨rfl, HF9.out⟩
end Go.Proofs.Ytpgjbbefgacjkaa
