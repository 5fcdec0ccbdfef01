/- 'may' of the law; 'Seal' with a value that may not be; 'hold'; the references within bounds. -/
import Derived.Test.YtpgjbbefgacjkaaSLaw
import Derived.Test.YtpgjbbefgacjkaaAwake9
namespace Go.Proofs.Ytpgjbbefgacjkaa
open Go.RowKit
set_option linter.unusedSimpArgs false
set_option linter.unusedVariables false
set_option linter.unusedSectionVars false
set_option maxRecDepth 100000 in
set_option maxHeartbeats 1000000 in
theorem lmay_any (D : Nat → Prop) (z : Prop) (v : V) (A : Option Addr) (c : Nat) (w : World) (hv : RV w D z v (v.cells A c)) (hD : ∀ b, D b → b < w.heap.size) :
    Calls Try.prog 17 #[v.agg A c] w (Bool_ w (!greatB v && v.may)) := by
  have hb := Blk.new w (v.cells A c) 37
  have hlm := look_may hv
  have HLM := Lib.hid hlm; clear hlm
  have hf0 : Fr none_ w (w.alloc (.cells (v.cells A c).toArray 37)) := (Fr.refl _ _).alloc _
  have HF0 := Lib.hid hf0; clear hf0
  have HB := Lib.hid hb; clear hb
  have HV := Lib.hid hv; clear hv
  have HD := Lib.hid hD; clear hD
  go_enter Try.func17, Try.ntmps17
  go_wp2_with fail
  refine (great_any D z v A c _ (HV.out.fr HF0.out (fun _ _ h => h)) (fun b hb => Nat.lt_of_lt_of_le (HD.out b hb) HF0.out.size)).mono ?_
  rintro e W1 ⟨rfl, hf1⟩
  have hb1 := HB.out.keep hf1 (fun h => h)
  have x0 : W1.cell? ⟨w.heap.size, 0, none⟩ = some (.int .u8 v.k) := hb1.cell 0
  have x1 : W1.cell? ⟨w.heap.size, 1, none⟩ = some (.int .i64 v.n) := hb1.cell 1
  have x2 : W1.cell? ⟨w.heap.size, 2, none⟩ = some (.string v.s) := hb1.cell 2
  have x3 : W1.cell? ⟨w.heap.size, 3, none⟩ = some (.slice A v.l.length c) := hb1.cell 3
  have x4 : W1.cell? ⟨w.heap.size, 4, none⟩ = some (.int .i64 v.r) := hb1.cell 4
  have HF1 := Lib.hid (HF0.out.trans hf1)
  clear hb1 hf1 HB
  cases hg : greatB v with
  | true =>
    go_wp2
    go_ret
    exact ⟨ret_bool (by simp [hg]), HF1.out⟩
  | false =>
    go_wp2_with fail
    refine (look_any D z v v (List.mem_singleton_self v) A c 512 16 W1 (HV.out.fr HF1.out (fun _ _ h => h)) (fun b hb => Nat.lt_of_lt_of_le (HD.out b hb) HF1.out.size) (by omega) (by omega) (by omega) (by omega)).mono ?_
    rintro e W2 ⟨rfl, hf2⟩
    have HF2 := Lib.hid (HF1.out.trans hf2)
    have hlm := HLM.out
    clear hf2 x0 x1 x2 x3 x4 HLM
    generalize lookV v 512 16 = q at hlm ⊢
    cases hm : v.may with
    | true =>
      rw [hm] at hlm
      have HM := Lib.hid hm; clear hm
      go_wp2
      go_ret
      exact ⟨ret_bool (by rw [hg, HM.out]; rfl), HF2.out⟩
    | false =>
      rw [hm] at hlm
      have HM := Lib.hid hm; clear hm
      go_wp2
      go_ret
      exact ⟨ret_bool (by rw [hg, HM.out]; rfl), HF2.out⟩
set_option maxRecDepth 100000 in
set_option maxHeartbeats 1000000 in
theorem hold_any (r : Int) (w : World) : Calls Try.prog 19 #[.int .i64 r] w fun e w' => e = .returned ((refV r).agg none 0) ∧ Fr none_ w w' := by
  have hz := zero_Value
  have hb5 : ∀ (r : Int) (W : World), (Instr.build 37 #[(0, .int .u8 4), (4, .int .i64 r)]).run Try.prog W = .ok (.agg #[.int .u8 4, .int .i64 0, .string ⟨#[]⟩, .slice none 0 0, .int .i64 r]) W := fun r W => by kernel_rfl
  go_enter Try.func19, Try.ntmps19
  go_wp2
  refine ret_blk (g := w.heap.size) (cs := (refV r).cells none 0) (t := 37) rfl rfl ?_ Try.underlying37 rfl size_Value rfl ?_
  · exact Blk.new w ((refV r).cells none 0) 37
  · exact ⟨rfl, (Fr.refl _ _).alloc _⟩
section
variable {w : World} {p : Nat} {W : AW} {M D : Nat → Prop} {pa : Option Addr} {pc bc bt bf bm ck fk : Nat} {L : List (Int × Nat × Nat)} {FL : List ((Int × Int) × Int × Nat)}
set_option maxRecDepth 100000 in
set_option maxHeartbeats 1000000 in
theorem seal_arg (h : RepW w p W M D pa pc bc bt bf bm ck fk L FL) (r : Int) (v : V) (va : Option Addr) (vc : Nat) (Dv : Nat → Prop) (z : Prop) (hmay : v.may = false) (hv : RV w Dv z v (v.cells va vc)) (hD : ∀ b, Dv b → b < w.heap.size) :
    Calls Try.prog 11 #[.pointer (some ⟨p, 0, none⟩), .int .i64 r, v.agg va vc] w (MakeNo w 2) := by
  have H := Lib.hid h; clear h
  have HV := Lib.hid hv; clear hv
  have HD := Lib.hid hD; clear hD
  have HMAY := Lib.hid hmay; clear hmay
  go_enter Try.func11, Try.ntmps11
  go_upto_region 1 with (fail)
  refine code_gen ?_
  intro W1 hW
  have hbx1 : Blk W1 w.heap.size (v.cells va vc) 37 := by rw [hW]; exact Blk.new w _ _
  have hfw1 : Fr none_ w W1 := by rw [hW]; exact (Fr.refl _ _).alloc _
  clear hW
  have x0 : W1.cell? ⟨w.heap.size, 0, none⟩ = some (.int .u8 v.k) := hbx1.cell 0
  have x1 : W1.cell? ⟨w.heap.size, 1, none⟩ = some (.int .i64 v.n) := hbx1.cell 1
  have x2 : W1.cell? ⟨w.heap.size, 2, none⟩ = some (.string v.s) := hbx1.cell 2
  have x3 : W1.cell? ⟨w.heap.size, 3, none⟩ = some (.slice va v.l.length vc) := hbx1.cell 3
  have x4 : W1.cell? ⟨w.heap.size, 4, none⟩ = some (.int .i64 v.r) := hbx1.cell 4
  have HFW1 := Lib.hid hfw1; clear hfw1
  clear hbx1
  go_wp2_with fail
  refine (sthere_any (H.out.keep HFW1.out (fun _ _ h => h) (fun _ _ h => h))).mono ?_
  rintro e W1 ⟨rfl, rfl⟩
  go_wp2_with fail
  refine (may_any Dv z v va vc _ (HV.out.fr HFW1.out (fun _ _ h => h)) (fun b hb => Nat.lt_of_lt_of_le (HD.out b hb) HFW1.out.size)).mono ?_
  rintro e W2 ⟨rfl, hf2⟩
  rw [HMAY.out]
  have HF2 := Lib.hid (HFW1.out.trans hf2)
  clear hf2 x0 x1 x2 x3 x4
  go_wp2
  go_ret2
  exact ⟨rfl, HF2.out⟩
end
theorem take_nolist {k n : Int} {s : ByteArray} {l : List V} {r : Int} {p m q : Nat} (h : takeV (.mk k n s l r) (p + 1) m = some q) (h3 : k ≠ 3) : l = [] := by
  by_cases h0 : k = 0
  · subst h0
    rw [take_k0] at h
    split at h
    · rename_i hc; exact List.eq_nil_of_length_eq_zero hc.2.2.2
    · cases h
  by_cases h1 : k = 1
  · subst h1
    rw [take_k1] at h
    split at h
    · rename_i hc; exact List.eq_nil_of_length_eq_zero hc.2.2
    · cases h
  by_cases h2 : k = 2
  · subst h2
    rw [take_k2] at h
    split at h
    · rename_i hc; exact List.eq_nil_of_length_eq_zero hc.2.2.2
    · cases h
  by_cases h4 : k = 4
  · subst h4
    rw [take_k4] at h
    split at h
    · rename_i hc; exact List.eq_nil_of_length_eq_zero hc.2.2.2
    · cases h
  rw [take_kx k n s l r p m h0 h1 h2 h3 h4] at h
  cases h
theorem refsL_in (last : Int) (l : List V) (hx : ∀ x, x ∈ l → ∀ p m q, takeV (inV last x) p m = some q → ∀ y, y ∈ refsV (inV last x) → 1 ≤ y ∧ y ≤ last) : ∀ p m q, takeVs (inL last l) p m = some q → ∀ y, y ∈ refsL (inL last l) → 1 ≤ y ∧ y ≤ last := by
  induction l with
  | nil => intro p m q _ y hy; unfold inL refsL at hy; cases hy
  | cons v l ih =>
    intro p m q h y hy
    unfold inL takeVs at h
    unfold inL refsL at hy
    obtain ⟨p1, h1, h2⟩ := Option.bind_eq_some_iff.1 h
    rcases List.mem_append.1 hy with hy | hy
    · exact hx v (List.mem_cons_self ..) p m p1 h1 y hy
    · exact ih (fun x hx' => hx x (List.mem_cons_of_mem _ hx')) p1 m q h2 y hy
theorem refsV_in (last : Int) (h0 : 12 ≤ last) (v : V) : ∀ p m q, takeV (inV last v) p m = some q → ∀ y, y ∈ refsV (inV last v) → 1 ≤ y ∧ y ≤ last := by
  induction v using V.ind with
  | h k n s l r ih =>
    intro p m q h y hy
    unfold inV at h hy
    unfold refsV at hy
    cases p with
    | zero => rw [take_zero] at h; cases h
    | succ p =>
      by_cases hk : k = 4
      · subst hk
        rw [take_k4] at h
        split at h
        case isFalse => cases h
        case isTrue hc =>
          obtain ⟨h1, _, _, h4⟩ := hc
          have hl := List.eq_nil_of_length_eq_zero h4
          rw [hl] at hy
          unfold refsL at hy
          simp at hy
          subst hy
          refine ⟨h1, ?_⟩
          unfold inR
          split
          · have := Int.emod_lt_of_pos r (show 0 < last by omega)
            omega
          · rename_i hc
            have : ¬ last < r := fun e => hc ⟨rfl, e⟩
            omega
      · rw [if_neg hk, List.nil_append] at hy
        by_cases h3 : k = 3
        · subst h3
          cases m with
          | zero => rw [take_k3z] at h; cases h
          | succ m =>
            rw [take_k3] at h
            split at h
            · obtain ⟨q1, h1, _⟩ := Option.bind_eq_some_iff.1 h
              exact refsL_in last l ih p m q1 h1 y hy
            · cases h
        · have hl : inL last l = [] := take_nolist h h3
          rw [hl] at hy
          unfold refsL at hy
          cases hy
theorem refs_in (last : Int) (h0 : 12 ≤ last) (W : AW) (hW : ∀ r, 1 ≤ r → r ≤ last → (W.at_ r).isSome = true) (v : V) : allThings W (inV last v).refs = true := by
  unfold V.refs
  split
  · rename_i hm
    unfold V.may at hm
    obtain ⟨q, hq⟩ := Option.isSome_iff_exists.1 hm
    unfold allThings
    rw [List.all_eq_true]
    intro y hy
    obtain ⟨h1, h2⟩ := refsV_in last h0 v 512 16 q hq y hy
    exact hW y h1 h2
  · rfl
end Go.Proofs.Ytpgjbbefgacjkaa
