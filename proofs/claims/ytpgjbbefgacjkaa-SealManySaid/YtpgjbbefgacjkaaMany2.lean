/- The walk of 'SealMany'. -/
import Derived.Test.YtpgjbbefgacjkaaMany
import Derived.Test.YtpgjbbefgacjkaaAwake9
namespace Go.Proofs.Ytpgjbbefgacjkaa
open Go.RowKit
set_option linter.unusedSimpArgs false
set_option linter.unusedVariables false
set_option linter.unusedSectionVars false
/-- What stands at the head of the loop; g: how many boxes are to come. -/
def ManyRel (w0 : World) (p : Nat) (pa : Option Addr) (pc bc bt bf bm fk : Nat) (FL : List ((Int × Int) × Int × Nat)) (g : Nat) (wr : World) : Prop :=
  ∃ W M D ck L m, m + g = 511 ∧ RepW wr p W M D pa pc bc bt bf bm ck fk L FL ∧ Mny W m ∧ Fr none_ w0 wr
theorem rd_one (w : World) (x : Int) (t : Nat) : RdI (w.alloc (.cells #[.int .i64 x] t)) (some ⟨w.heap.size, 0, none⟩) [x] := by
  intro j hj
  have : j = 0 := by simp at hj; omega
  subst this
  exact ⟨_, _, rfl, (Blk.new w [.int .i64 x] t).cell 0⟩
theorem one_ok : ∀ i (h : i < [(0 : Int)].length), 0 ≤ [(0 : Int)][i] ∧ [(0 : Int)][i] ≤ i := by
  intro i hi
  have : i = 0 := by simp at hi; omega
  subst this
  simp
theorem allThings_zero (W : AW) : allThings W V.zero.refs = true := by rw [refs_zero]; rfl
set_option maxRecDepth 100000 in
set_option maxHeartbeats 8000000 in
theorem many_any (w : World) : Calls Try.prog 4 #[] w fun e w' => e = .returned (.bool true) ∧ Below w.heap.size w w' := by
  have hbs : ∀ W : World, (Instr.buildSlice 56 1 #[(0, .int .i64 0)]).run Try.prog W = .ok (.slice (some ⟨W.heap.size, 0, none⟩) 1 1) (W.alloc (.cells #[.int .i64 0] 27)) := fun W => by kernel_rfl
  have hb0 : ∀ W : World, (Instr.build 37 #[]).run Try.prog W = .ok (.agg #[.int .u8 0, .int .i64 0, .string ⟨#[]⟩, .slice none 0 0, .int .i64 0]) W := fun W => by kernel_rfl
  go_enter Try.func4, Try.ntmps4
  go_wp2_with fail
  refine (newP_yes (some ⟨w.heap.size, 0, none⟩) 1 [0] _ (fun h => by cases h) (rd_one w 0 _) (by simp) one_ok).mono ?_
  rintro e W1 ⟨M1, D1, p, pa, pc, bc, bt, bf, bm, rfl, h1, hf1, hn1, _⟩
  have hf1' : Fr none_ w W1 := ((Fr.refl _ _).alloc _).trans hf1
  have hS : ∀ i, i < w.heap.size → ¬ (i = p ∨ i = bt ∨ i = bm) := by
    have hz : (w.alloc (.cells #[.int .i64 0] 27)).heap.size = w.heap.size + 1 := by simp
    rintro i hi (e | e | e)
    · have := hn1 p h1.m.1; omega
    · have := hn1 bt h1.m.2.2.1; omega
    · have := hn1 bm h1.m.2.2.2.2; omega
  have HS := Lib.hid hS; clear hS hn1 hf1
  have H1 := Lib.hid h1; clear h1
  have HF1 := Lib.hid hf1'; clear hf1'
  go_wp2_with fail
  refine (pair_yes H1.out ⟨fun t h => absurd h (List.not_mem_nil), fun t h => absurd h (List.not_mem_nil)⟩ 0 rfl (by decide)).mono ?_
  rintro e W2 ⟨M2, D2, ck2, L2, rfl, h2, _, _, hf2⟩
  have hg2 := HF1.out.trans' hf2 (fun i hi h => HS.out i hi h)
  have HF2 := Lib.hid hg2; clear hg2 hf2
  have H2 := Lib.hid h2; clear h2
  rw [show (AW.newP [0]).last + 1 = (1 : Int) from rfl, show (AW.newP [0]).last + 2 = (2 : Int) from rfl]
  go_wp2_with fail
  go_loopg [6] (509) (fun g _ wr => ManyRel w p pa pc bc bt bf bm 0 [] g wr)
  case atStart => exact ⟨_, _, _, _, _, 2, rfl, H2.out, many_first, HF2.out⟩
  case round =>
    obtain ⟨W, M, D, ck, L, m, hmg, hr, hm, hfr⟩ := hrel
    clear H2 HF2
    have HR := Lib.hid hr; clear hr
    have HM := Lib.hid hm; clear hm
    have HFR := Lib.hid hfr; clear hfr
    go_wp2_with fail
    refine (made_any HR.out 0).mono ?_
    rintro e wr ⟨rfl, rfl⟩
    rw [HM.out.madeOf]
    by_cases hlt : m < 511
    · have d0 : ((m : Int) < 511) := by omega
      go_wp2_with fail
      refine (made_any HR.out 0).mono ?_
      rintro e wr ⟨rfl, rfl⟩
      rw [HM.out.madeOf]
      go_wp2_with fail
      refine (seal_yes HR.out 1 (xOf 5 0 0 V.zero) V.zero none 0 none_ True (by unfold I64; omega) HM.out.a1 rfl HM.out.side may_zero (allThings_zero _) (RV_zero _ _ _) (fun b h => h.elim) (by have := HM.out.made; rw [this]; simp; omega)).mono ?_
      rintro e W4 ⟨M4, D4, ck4, L4, rfl, h4, _, _, hf4⟩
      have hg4 := HFR.out.trans' hf4 (fun i hi h => HS.out i hi h)
      have HF4 := Lib.hid hg4; clear hg4 hf4
      have hm4 : Mny (W.lay (xOf 7 0 1 V.zero)) (m + 1) := HM.out.next HR.out.lowL
      have HM4 := Lib.hid hm4; clear hm4
      have H4 := Lib.hid h4; clear h4
      go_wp2_with fail
      refine (made_any H4.out 0).mono ?_
      rintro e W4 ⟨rfl, rfl⟩
      have e4 : madeOf (W.lay (xOf 7 (xOf 5 0 0 V.zero).home 1 V.zero)) 0 = (m : Int) + 1 := by have := HM4.out.madeOf; rw [show (xOf 5 0 0 V.zero).home = 0 from rfl, this]; simp
      rw [e4]
      clear e4
      go_wp2
      go_roundg (gk - 1)
      case measure => omega
      case rel => exact ⟨_, _, _, _, _, m + 1, by omega, H4.out, HM4.out, HF4.out⟩
    · obtain rfl : m = 511 := by omega
      clear hlt hmg
      rw [show ((511 : Nat) : Int) = 511 from rfl]
      go_wp2_with fail
      refine (pair_full HR.out 0 HM.out.side (by rw [HM.out.madeOf]; decide)).mono ?_
      rintro e wr ⟨rfl, rfl⟩
      go_wp2_with fail
      refine (made_any HR.out 0).mono ?_
      rintro e wr ⟨rfl, rfl⟩
      rw [HM.out.madeOf, show ((511 : Nat) : Int) = 511 from rfl]
      go_wp2_with fail
      refine (len_any HR.out).mono ?_
      rintro e wr ⟨rfl, rfl⟩
      rw [HM.out.n, show ((511 : Nat) : Int) = 511 from rfl]
      go_wp2_with fail
      refine (seal_yes HR.out 1 (xOf 5 0 0 V.zero) V.zero none 0 none_ True (by unfold I64; omega) HM.out.a1 rfl HM.out.side may_zero (allThings_zero _) (RV_zero _ _ _) (fun b h => h.elim) (by have := HM.out.made; rw [this]; decide)).mono ?_
      rintro e W4 ⟨M4, D4, ck4, L4, rfl, h4, _, _, hf4⟩
      have hg4 := HFR.out.trans' hf4 (fun i hi h => HS.out i hi h)
      have HF4 := Lib.hid hg4; clear hg4 hf4
      have hm4 : Mny (W.lay (xOf 7 (xOf 5 0 0 V.zero).home 1 V.zero)) 512 := HM.out.next HR.out.lowL
      have HM4 := Lib.hid hm4; clear hm4
      have H4 := Lib.hid h4; clear h4
      go_wp2_with fail
      refine (seal_full H4.out 1 (xOf 5 0 0 V.zero) V.zero none 0 none_ True (by unfold I64; omega) HM4.out.a1 rfl HM4.out.side may_zero (allThings_zero _) (RV_zero _ _ _) (fun b h => h.elim) (by have := HM4.out.made; rw [this]; rfl)).mono ?_
      rintro e W5 ⟨rfl, hf5⟩
      have h5 := H4.out.keep hf5 (fun _ _ h => h) (fun _ _ h => h)
      have hg5 := HF4.out.trans hf5
      have HF5 := Lib.hid hg5; clear hg5 hf5
      have H5 := Lib.hid h5; clear h5
      go_wp2_with fail
      refine (pair_yes H5.out HM4.out.ok 1 (by unfold sideB; rw [HM4.out.made]; rfl) (by unfold madeOf sideB; rw [HM4.out.made]; decide)).mono ?_
      rintro e W6 ⟨M6, D6, ck6, L6, rfl, h6, _, _, hf6⟩
      have hg6 := HF5.out.trans' hf6 (fun i hi h => HS.out i hi h)
      have HF6 := Lib.hid hg6; clear hg6 hf6 h6
      go_wp2_with fail
      refine (awake9 _).mono ?_
      rintro e W7 ⟨rfl, hf7⟩
      have hg7 := HF6.out.trans hf7
      have HF7 := Lib.hid hg7; clear hg7 hf7
      go_wp2
      go_ret
      exact ⟨rfl, HF7.out.below⟩
end Go.Proofs.Ytpgjbbefgacjkaa
