/- 'pairsOf' of the law of layer 9: six pairs on a new world. -/
import Derived.Test.YtpgjbbefgacjkaaSAw
namespace Go.Proofs.Ytpgjbbefgacjkaa
open Go.RowKit
set_option linter.unusedSimpArgs false
set_option linter.unusedVariables false
set_option linter.unusedSectionVars false
def sers (k : Nat) : List Int := (List.range k).map fun i : Nat => 2 * (i : Int) + 1
def opns (k : Nat) : List Int := (List.range k).map fun i : Nat => 2 * (i : Int) + 2
theorem sers_len (k : Nat) : (sers k).length = k := by simp [sers]
theorem opns_len (k : Nat) : (opns k).length = k := by simp [opns]
theorem sers_succ (k : Nat) : sers (k + 1) = sers k ++ [2 * (k : Int) + 1] := by simp [sers, List.range_succ]
theorem opns_succ (k : Nat) : opns (k + 1) = opns k ++ [2 * (k : Int) + 2] := by simp [opns, List.range_succ]
def PRel (w : World) (p bc bt bf bm : Nat) (g : Nat) (s2 s3 s4 s5 : Value) (wr : World) : Prop :=
  ∃ (k : Nat) (M D : Nat → Prop) (ck : Nat) (L : List (Int × Nat × Nat)) (sa : Option Addr) (sc : Nat) (oa : Option Addr) (oc : Nat), k + g = 6 ∧ s2 = .pointer (some ⟨p, 0, none⟩) ∧ s5 = .int .i64 (k : Int) ∧ s3 = .slice sa k sc ∧ s4 = .slice oa k oc ∧ RepW wr p (prs k) M D none 0 bc bt bf bm ck 0 L [] ∧
    OwnI wr w.heap.size 28 (.slice sa k sc) (sers k) ∧ OwnI wr w.heap.size 28 (.slice oa k oc) (opns k) ∧ (∀ b, (Value.slice sa k sc).ownBlock = some b → (Value.slice oa k oc).ownBlock ≠ some b) ∧
    (∀ b, ((Value.slice sa k sc).ownBlock = some b ∨ (Value.slice oa k oc).ownBlock = some b) → ¬ M b ∧ ¬ D b) ∧ (∀ i, M i → w.heap.size ≤ i) ∧ Fr none_ w wr
theorem prel_start {w W1 : World} {p bc bt bf bm : Nat} {M D : Nat → Prop} (h1 : RepW W1 p AW.new0 M D none 0 bc bt bf bm 0 0 [] []) (hn : ∀ i, M i → w.heap.size ≤ i) (hf : Fr none_ w W1) : PRel w p bc bt bf bm 6 (.pointer (some ⟨p, 0, none⟩)) (.slice none 0 0) (.slice none 0 0) (.int .i64 0) W1 := by
  have h0 : RepW W1 p (prs 0) M D none 0 bc bt bf bm 0 0 [] [] := by rw [prs_zero]; exact h1
  refine ⟨0, M, D, 0, [], none, 0, none, 0, rfl, rfl, rfl, rfl, rfl, h0, ?_, ?_, ?_, ?_, hn, hf⟩
  · exact World.ownsRow_nil _ _ _ _
  · exact World.ownsRow_nil _ _ _ _
  · intro b h; cases h
  · rintro b (h | h) <;> cases h
def PairsOf (w : World) (e : Ending) (w' : World) : Prop :=
  ∃ (p bc bt bf bm : Nat) (M D : Nat → Prop) (ck : Nat) (L : List (Int × Nat × Nat)) (sa : Option Addr) (sc : Nat) (oa : Option Addr) (oc : Nat), e = .returned (.tuple #[.pointer (some ⟨p, 0, none⟩), .slice sa 6 sc, .slice oa 6 oc]) ∧ RepW w' p (prs 6) M D none 0 bc bt bf bm ck 0 L [] ∧
    OwnI w' w.heap.size 28 (.slice sa 6 sc) (sers 6) ∧ OwnI w' w.heap.size 28 (.slice oa 6 oc) (opns 6) ∧ (∀ b, ((Value.slice sa 6 sc).ownBlock = some b ∨ (Value.slice oa 6 oc).ownBlock = some b) → ¬ M b ∧ ¬ D b) ∧ (∀ i, M i → w.heap.size ≤ i) ∧ Fr none_ w w'
theorem ownI_lt {w : World} {B : Nat} {e : TypeId} {v : Value} {xs : List Int} (h : OwnI w B e v xs) (b : Nat) (hb : v.ownBlock = some b) : B ≤ b ∧ b < w.heap.size := ownsRow_ge h b hb
/-- One number appended to a row of the call's own, beside a world and another row. -/
theorem app_step {w W w1 : World} {B : Nat} {t : TypeId} {p : Nat} {A0 : AW} {M D : Nat → Prop} {pa : Option Addr} {pc bc bt bf bm ck fk : Nat} {L : List (Int × Nat × Nat)} {FL : List ((Int × Int) × Int × Nat)} {v v' : Value} {xs ys : List Int} {g : Nat}
    (h : RepW W p A0 M D pa pc bc bt bf bm ck fk L FL) (hv : OwnI W B t v xs) (hv' : OwnI W B t v' ys) (hB : w.heap.size ≤ B) (hne : ∀ b, v.ownBlock = some b → v'.ownBlock ≠ some b) (hmd : ∀ b, (v.ownBlock = some b ∨ v'.ownBlock = some b) → ¬ M b ∧ ¬ D b)
    (hf : Fr none_ w W) (hg : W.grownBy w1 v.ownBlock) (hat : v.ownBlock = some g ∨ W.heap.size ≤ g) :
    RepW w1 p A0 M D pa pc bc bt bf bm ck fk L FL ∧ OwnI w1 B t v' ys ∧ v'.ownBlock ≠ some g ∧ (¬ M g ∧ ¬ D g) ∧ Fr none_ w w1 := by
  have hfr := grownBy_fr hg
  refine ⟨h.keep hfr (fun b hb e => (hmd b (.inl e)).1 hb) (fun b hb e => (hmd b (.inl e)).2 hb), hv'.keep hfr (fun b hb e => hne b e hb), ?_, ?_, hf.trans' hfr (fun i hi e => by have := (ownI_lt hv i e).1; omega)⟩
  · rcases hat with hat | hat
    · exact hne g hat
    · intro e
      have := (ownI_lt hv' g e).2
      omega
  · rcases hat with hat | hat
    · exact hmd g (.inl hat)
    · exact ⟨fun hm => by have := h.mlt g hm; omega, fun hd => by have := h.dlt g hd; omega⟩
set_option maxRecDepth 100000 in
set_option maxHeartbeats 8000000 in
theorem pairsOf_6 (w : World) : Calls Try.prog 14 #[.int .i64 6] w (PairsOf w) := by
  go_enter Try.func14, Try.ntmps14
  go_wp2_with fail
  refine (new_0 w).mono ?_
  rintro e W1 ⟨M1, D1, p, bc, bt, bf, bm, rfl, h1, hf1, hn1⟩
  have H1 := Lib.hid h1; clear h1
  have HF1 := Lib.hid hf1; clear hf1
  have HN1 := Lib.hid hn1; clear hn1
  go_wp2_with fail
  go_loopg [2, 3, 4, 5] (6) (fun g s2 s3 s4 s5 wr => PRel w p bc bt bf bm g s2 s3 s4 s5 wr)
  case atStart => exact prel_start H1.out HN1.out HF1.out
  case round =>
    obtain ⟨k, M, D, ck, L, sa, sc, oa, oc, hkg, rfl, rfl, rfl, rfl, hr, hs, ho, hso, hmd, hml, hf⟩ := hrel
    clear H1 HF1 HN1
    have HR := Lib.hid hr; clear hr
    have HS := Lib.hid hs; clear hs
    have HO := Lib.hid ho; clear ho
    have HSO := Lib.hid hso; clear hso
    have HMD := Lib.hid hmd; clear hmd
    have HML := Lib.hid hml; clear hml
    have HF := Lib.hid hf; clear hf
    by_cases hlt : k < 6
    · have hk6 : ((k : Int) < 6) := by omega
      go_wp2_with fail
      refine (pair_yes HR.out (prs_ok k).1 0 (prs_side k) (by rw [prs_mof]; omega)).mono ?_
      rintro e W2 ⟨M2, D2, ck2, L2, rfl, h2, hM2, hD2, hf2⟩
      rw [prs_last]
      have hpm := HR.out.m
      have hs2 := HS.out.keep hf2 (fun b hb e => by
        have := (HMD.out b (.inl hb)).1
        rcases e with rfl | rfl | rfl
        · exact this hpm.1
        · exact this hpm.2.2.1
        · exact this hpm.2.2.2.2)
      have ho2 := HO.out.keep hf2 (fun b hb e => by
        have := (HMD.out b (.inr hb)).1
        rcases e with rfl | rfl | rfl
        · exact this hpm.1
        · exact this hpm.2.2.1
        · exact this hpm.2.2.2.2)
      have hmd2 : ∀ b, ((Value.slice sa k sc).ownBlock = some b ∨ (Value.slice oa k oc).ownBlock = some b) → ¬ M2 b ∧ ¬ D2 b := by
        intro b hb
        have hbl : b < wr.heap.size := by
          rcases hb with hb | hb
          · exact (ownI_lt HS.out b hb).2
          · exact (ownI_lt HO.out b hb).2
        have := HMD.out b hb
        exact ⟨fun h => by rcases hM2 b h with h | h; exact this.1 h; omega, fun h => by rcases hD2 b h with h | h; exact this.2 h; omega⟩
      have hml2 : ∀ i, M2 i → w.heap.size ≤ i := fun i hi => by
        rcases hM2 i hi with h | h
        · exact HML.out i h
        · exact Nat.le_trans HF.out.size h
      have hg2 : Fr none_ w W2 := HF.out.trans' hf2 (fun i hi e => by
        rcases e with rfl | rfl | rfl
        · have := HML.out _ hpm.1; omega
        · have := HML.out _ hpm.2.2.1; omega
        · have := HML.out _ hpm.2.2.2.2; omega)
      have HS2 := Lib.hid hs2; clear hs2
      have HO2 := Lib.hid ho2; clear ho2
      have HMD2 := Lib.hid hmd2; clear hmd2
      have HML2 := Lib.hid hml2; clear hml2
      have HG2 := Lib.hid hg2; clear hg2
      have H2 := Lib.hid h2; clear h2
      have hbase := HG2.out.size
      clear hM2 hD2 hf2 hpm HR HS HO HMD HML HF
      go_wp2_with (refine wpList_stop (.call { callee := .builtin .append, args := #[.tmp 26, .tmp 28], argTypes := #[40, 40] }) rfl ?_)
      refine Stop.mk ?_
      refine wpList_append1 (W := W2) w.heap.size rfl (.tmp 26) (.tmp 28) 40 28 rfl Try.underlying40 info_Ref (.slice sa k sc) (sers k) (2 * (k : Int) + 1) rfl rfl HS2.out hbase (by rw [sers_len]; omega) ?_
      intro g1 cap1 w1 hown1 hg1 hat1
      obtain ⟨r1, o1, ne1, md1, f1⟩ := app_step H2.out HS2.out HO2.out (Nat.le_refl _) HSO.out HMD2.out HG2.out hg1 hat1
      rw [sers_len, ← sers_succ] at hown1
      have R1 := Lib.hid r1
      have S1 := Lib.hid hown1
      have O1 := Lib.hid o1
      have F1 := Lib.hid f1
      have NE1 := Lib.hid ne1
      have MD1 := Lib.hid md1
      have hb1 := f1.size
      rw [sers_len]
      clear r1 o1 ne1 md1 f1 hown1 hg1 hat1 H2 HS2 HO2 HG2 hbase
      go_wp2_with (refine wpList_stop (.call { callee := .builtin .append, args := #[.tmp 30, .tmp 32], argTypes := #[40, 40] }) rfl ?_)
      refine Stop.mk ?_
      refine wpList_append1 (W := w1) w.heap.size rfl (.tmp 30) (.tmp 32) 40 28 rfl Try.underlying40 info_Ref (.slice oa k oc) (opns k) (2 * (k : Int) + 2) rfl rfl O1.out hb1 (by rw [opns_len]; omega) ?_
      intro g2 cap2 w2 hown2 hg2 hat2
      obtain ⟨r2, o2, ne2, md2, f2⟩ := app_step R1.out O1.out S1.out (Nat.le_refl _) (fun b hb e => NE1.out (by rw [hb]; exact e.symm)) (fun b hb => by
        rcases hb with hb | hb
        · exact HMD2.out b (.inr hb)
        · injection hb with hb
          have hb : g1 = b := hb
          rw [← hb]
          exact MD1.out) F1.out hg2 hat2
      rw [opns_len, ← opns_succ] at hown2
      have hrel : PRel w p bc bt bf bm (gk - 1) (.pointer (some ⟨p, 0, none⟩)) (.slice (some ⟨g1, 0, none⟩) (k + 1) cap1) (.slice (some ⟨g2, 0, none⟩) (k + 1) cap2) (.int .i64 ((k : Int) + 1)) w2 := by
        refine ⟨k + 1, M2, D2, ck2, L2, _, _, _, _, by omega, rfl, by simp, rfl, rfl, by rw [prs_succ]; exact r2, o2, hown2, fun b hb e => ?_, fun b hb => ?_, HML2.out, f2⟩
        · apply ne2
          rw [hb]
          exact e.symm
        · rcases hb with hb | hb
          · injection hb with hb
            have hb : g1 = b := hb
            rw [← hb]
            exact MD1.out
          · injection hb with hb
            have hb : g2 = b := hb
            rw [← hb]
            exact md2
      have HREL := Lib.hid hrel
      rw [opns_len]
      clear r2 o2 ne2 md2 f2 hown2 hg2 hat2 hrel R1 S1 O1 F1 NE1 MD1 hb1
      go_wp2
      go_roundg (gk - 1)
      case measure => omega
      case rel => exact HREL.out
    · obtain rfl : k = 6 := by omega
      obtain rfl : gk = 0 := by omega
      clear hlt
      go_wp2
      go_ret3
      exact ⟨p, bc, bt, bf, bm, M, D, ck, L, sa, sc, oa, oc, rfl, HR.out, HS.out, HO.out, HMD.out, HML.out, HF.out⟩
end Go.Proofs.Ytpgjbbefgacjkaa
