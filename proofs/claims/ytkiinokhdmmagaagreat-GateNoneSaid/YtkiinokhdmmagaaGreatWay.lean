/- 'Way' of package world: a thing, what it stands before, and so on. -/
import Derived.Test.YtkiinokhdmmagaaGreatMake0
import Derived.Test.YtkiinokhdmmagaaGreatNewP
namespace Go.Proofs.YtkiinokhdmmagaaGreat
open Go.RowKit
set_option linter.unusedSimpArgs false
set_option linter.unusedVariables false
set_option linter.unusedSectionVars false
abbrev wrapsB (k : Int) : Bool := k == 14 || k == 15 || k == 16
inductive WayOf (W : AW) : Int → List Int → Prop where
  | none (r : Int) : W.at_ r = none → WayOf W r []
  | stop (r : Int) (x : X) : W.at_ r = some x → wrapsB x.kind = false → WayOf W r [r]
  | step (r : Int) (x : X) (l : List Int) : W.at_ r = some x → wrapsB x.kind = true → WayOf W x.of_ l → WayOf W r (r :: l)
/-- The references handed back. -/
def RefsBack (w : World) (xs : List Int) (e : Ending) (w' : World) : Prop := ∃ v, e = .returned v ∧ OwnI w' w.heap.size 22 v xs ∧ Fr none_ w w'
def WayRel (w : World) (W : AW) (l : List Int) (g : Nat) (s1 s5 : Value) (wr : World) : Prop :=
  ∃ (done rest : List Int) (r : Int), s1 = .int .i64 r ∧ done ++ rest = l ∧ rest.length = g ∧ WayOf W r rest ∧ OwnI wr w.heap.size 22 s5 done ∧ Fr none_ w wr
section
variable {w : World} {p : Nat} {W : AW} {M D : Nat → Prop} {pa : Option Addr} {pc bc bt bf bm ck fk : Nat} {L : List (Int × Nat × Nat)} {FL : List ((Int × Int) × Int × Nat)}
set_option maxRecDepth 100000 in
set_option maxHeartbeats 4000000 in
theorem way_any (h : RepW w p W M D pa pc bc bt bf bm ck fk L FL) (r : Int) (l : List Int) (hw : WayOf W r l) (hl : l.length ≤ 1000000) :
    Calls Tryz.prog 55 #[.pointer (some ⟨p, 0, none⟩), .int .i64 r] w (RefsBack w l) := by
  have H := Lib.hid h; clear h
  have HW := Lib.hid hw; clear hw
  have HL := Lib.hid hl; clear hl
  go_enter Tryz.func55, Tryz.ntmps55
  go_wp2
  go_loopg [1, 5] (l.length) (fun g s1 s5 wr => WayRel w W l g s1 s5 wr)
  case atStart => exact ⟨[], l, r, rfl, rfl, rfl, HW.out, World.ownsRow_nil _ _ _ _, Fr.refl _ _⟩
  case round =>
    obtain ⟨done, rest, r', rfl, hdl, hlen, hway, hown, hfr⟩ := hrel
    have hr' := H.out.keep hfr (fun _ _ h => h) (fun _ _ h => h)
    have HR := Lib.hid hr'; clear hr'
    have HFR := Lib.hid hfr; clear hfr
    have HOWN := Lib.hid hown; clear hown
    have HDL := Lib.hid hdl; clear hdl
    have HLEN := Lib.hid hlen; clear hlen
    cases hway with
    | none _ h0 =>
      have h1 : (W.at_ r').isSome = false := by rw [h0]; rfl
      have H1 := Lib.hid h1; clear h1 h0
      go_wp2_with fail
      refine (is_any HR.out r').mono ?_
      rintro e w' ⟨rfl, rfl⟩
      rw [H1.out]
      go_wp2
      go_ret
      have := HDL.out
      rw [List.append_nil] at this
      subst this
      exact ⟨_, rfl, HOWN.out, HFR.out⟩
    | stop _ x h0 hwr =>
      have h1 : (W.at_ r').isSome = true := by rw [h0]; rfl
      obtain ⟨b, hbl, u', hbk, hbM⟩ : ∃ b, blkOf L r' = some b ∧ ∃ u', Blk wr b (x.cells u') 80 ∧ M b := by
        rcases HR.out.look r' with ⟨h1, h2⟩ | ⟨x', b, u', h1, h2, hm, hbx, hrx⟩
        · rw [h0] at h1; cases h1
        · rw [h0] at h1; injection h1 with h1; subst h1; exact ⟨b, h2, u', hbx, hm⟩
      have hblt := H.out.mlt b hbM
      have hdone : done.length + 1 ≤ 17592186044416 := by
        have h2 := HL.out
        rw [← HDL.out, List.length_append] at h2
        omega
      have H1 := Lib.hid h1; clear h1 h0
      have HBL := Lib.hid hbl; clear hbl
      have HBK := Lib.hid hbk; clear hbk hbM
      have HWR := Lib.hid hwr; clear hwr
      have HDONE := Lib.hid hdone; clear hdone
      go_wp2_with fail
      refine (is_any HR.out r').mono ?_
      rintro e w' ⟨rfl, rfl⟩
      rw [H1.out]
      go_wp2_with (refine wpList_stop (.call { callee := .builtin .append, args := #[.tmp 10, .tmp 12], argTypes := #[54, 54] }) rfl ?_)
      refine Stop.mk ?_
      refine wpList_append1 (W := w') w.heap.size rfl (.tmp 10) (.tmp 12) 54 22 rfl Tryz.underlying54 info_Ref u5 done r' ?e1 ?e2 HOWN.out HFR.out.size HDONE.out ?_
      case e1 => rfl
      case e2 => rfl
      intro g cap w1 hown1 hg1 _
      have hf1 : Fr none_ w w1 := HFR.out.trans' (grownBy_fr hg1) (fun i hi e => by have := (World.ownsRow.lt HOWN.out i e).1; omega)
      have hbk1 : Blk w1 b (x.cells u') 80 := HBK.out.keep (grownBy_fr hg1) (fun e => by have := (World.ownsRow.lt HOWN.out b e).1; omega)
      have hr1 := H.out.keep hf1 (fun _ _ h => h) (fun _ _ h => h)
      have c2 : w1.cell? ⟨p, 2, none⟩ = some (.map (some bt)) := hr1.c2
      have hlk := look_run hr1 r'
      rw [HBL.out] at hlk
      have hlk2 : (Instr.lookup 34 (.map (some bt)) (.int .i64 r') false).run Tryz.prog w1 = .ok (.pointer (some ⟨b, 0, none⟩)) w1 := hlk
      clear hlk
      have k0 : w1.cell? ⟨b, 0, none⟩ = some (.int .u8 x.kind) := hbk1.cell 0
      have HR1 := Lib.hid hr1; clear hr1
      have HF1 := Lib.hid hf1; clear hf1
      have HOWN1 := Lib.hid hown1; clear hown1 hg1 hbk1
      go_wp2_with fail
      refine (wraps_any x.kind _).mono ?_
      rintro e w' ⟨rfl, rfl⟩
      rw [show (x.kind == 14 || x.kind == 15 || x.kind == 16) = false from HWR.out]
      go_wp2
      go_ret
      have := HDL.out
      subst this
      exact ⟨_, rfl, by simpa using HOWN1.out, HF1.out⟩
    | step _ x l' h0 hwr hrest =>
      have h1 : (W.at_ r').isSome = true := by rw [h0]; rfl
      obtain ⟨b, hbl, u', hbk, hbM⟩ : ∃ b, blkOf L r' = some b ∧ ∃ u', Blk wr b (x.cells u') 80 ∧ M b := by
        rcases HR.out.look r' with ⟨h1, h2⟩ | ⟨x', b, u', h1, h2, hm, hbx, hrx⟩
        · rw [h0] at h1; cases h1
        · rw [h0] at h1; injection h1 with h1; subst h1; exact ⟨b, h2, u', hbx, hm⟩
      have hblt := H.out.mlt b hbM
      have hdone : done.length + 1 ≤ 17592186044416 := by
        have h2 := HL.out
        rw [← HDL.out, List.length_append] at h2
        omega
      have H1 := Lib.hid h1; clear h1 h0
      have HBL := Lib.hid hbl; clear hbl
      have HBK := Lib.hid hbk; clear hbk hbM
      have HWR := Lib.hid hwr; clear hwr
      have HDONE := Lib.hid hdone; clear hdone
      have HREST := Lib.hid hrest; clear hrest
      go_wp2_with fail
      refine (is_any HR.out r').mono ?_
      rintro e w' ⟨rfl, rfl⟩
      rw [H1.out]
      go_wp2_with (refine wpList_stop (.call { callee := .builtin .append, args := #[.tmp 10, .tmp 12], argTypes := #[54, 54] }) rfl ?_)
      refine Stop.mk ?_
      refine wpList_append1 (W := w') w.heap.size rfl (.tmp 10) (.tmp 12) 54 22 rfl Tryz.underlying54 info_Ref u5 done r' ?e1 ?e2 HOWN.out HFR.out.size HDONE.out ?_
      case e1 => rfl
      case e2 => rfl
      intro g cap w1 hown1 hg1 _
      have hf1 : Fr none_ w w1 := HFR.out.trans' (grownBy_fr hg1) (fun i hi e => by have := (World.ownsRow.lt HOWN.out i e).1; omega)
      have hbk1 : Blk w1 b (x.cells u') 80 := HBK.out.keep (grownBy_fr hg1) (fun e => by have := (World.ownsRow.lt HOWN.out b e).1; omega)
      have hr1 := H.out.keep hf1 (fun _ _ h => h) (fun _ _ h => h)
      have c2 : w1.cell? ⟨p, 2, none⟩ = some (.map (some bt)) := hr1.c2
      have hlk := look_run hr1 r'
      rw [HBL.out] at hlk
      have hlk2 : (Instr.lookup 34 (.map (some bt)) (.int .i64 r') false).run Tryz.prog w1 = .ok (.pointer (some ⟨b, 0, none⟩)) w1 := hlk
      clear hlk
      have k0 : w1.cell? ⟨b, 0, none⟩ = some (.int .u8 x.kind) := hbk1.cell 0
      have k10 : w1.cell? ⟨b, 10, none⟩ = some (.int .i64 x.of_) := hbk1.cell 10
      have HR1 := Lib.hid hr1; clear hr1
      have HF1 := Lib.hid hf1; clear hf1
      have HOWN1 := Lib.hid hown1; clear hown1 hg1 hbk1
      go_wp2_with fail
      refine (wraps_any x.kind _).mono ?_
      rintro e w' ⟨rfl, rfl⟩
      rw [show (x.kind == 14 || x.kind == 15 || x.kind == 16) = true from HWR.out]
      go_wp2
      go_roundg (gk - 1)
      case measure => have := HLEN.out; simp at this; omega
      case rel =>
        have h1 := HLEN.out
        simp at h1
        exact ⟨done ++ [r'], l', x.of_, rfl, by rw [← HDL.out]; simp, by omega, HREST.out, by simpa using HOWN1.out, HF1.out⟩
end
end Go.Proofs.YtkiinokhdmmagaaGreat
