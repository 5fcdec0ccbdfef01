/- A sealer, an opener, a box made. -/
import Derived.Test.YtpgjbbefgacjkaaMakeFF
import Derived.Test.YtpgjbbefgacjkaaMakeTF
import Derived.Test.YtpgjbbefgacjkaaMakelimit
import Derived.Test.YtpgjbbefgacjkaaFormA
import Derived.Test.YtpgjbbefgacjkaaFormB
import Derived.Test.YtpgjbbefgacjkaaWhat
namespace Go.Proofs.Ytpgjbbefgacjkaa
open Go.RowKit
set_option linter.unusedSimpArgs false
set_option linter.unusedVariables false
set_option linter.unusedSectionVars false
abbrev xOf (k h of_ : Int) (v : V) : X := { kind := k, home := h, val := v, vals := [], n := 0, lost := 0, of_ := of_, by_ := 0, set := 0, full := false, code := [], names := [] }
abbrev uOf (A : Option Addr) (c : Nat) : Under := ⟨A, c, none, 0, none, 0, none, 0⟩
theorem xOf_plain (k h of_ : Int) (v : V) : (xOf k h of_ v).plain := ⟨rfl, rfl, rfl⟩
theorem xOf_RX {w : World} {D : Nat → Prop} {z : Prop} {k h of_ : Int} {v : V} {A : Option Addr} {c : Nat} (hk : U8 k) (hh : I64 h) (ho : I64 of_) (hv : RV w D z v (v.cells A c)) : RX w D z (xOf k h of_ v) (uOf A c) :=
  { kind := hk, home := hh, n := by show I64 0; unfold I64; omega, lost := by show I64 0; unfold I64; omega, of_ := ho, by_ := by show I64 0; unfold I64; omega, set := by show U8 0; unfold U8; omega, vall := Nat.zero_le _, codel := Nat.zero_le _, namesl := Nat.zero_le _, lc := Nat.le_refl _, cc := Nat.le_refl _, nc := Nat.le_refl _, val := hv, vals := by show RVs w D z [] none; unfold RVs; trivial, code := by show RSs w D [] none; unfold RSs; trivial, names := by show RNs w D z [] none; unfold RNs; trivial }
theorem refs_zero : V.zero.refs = [] := by
  unfold V.refs V.zero refsV refsL
  split <;> simp
theorem allThings_nil (W : AW) : allThings W [] = true := rfl
theorem at_lay {W : AW} (x : X) (hl : ∀ t, t ∈ W.things → t.1 ≤ W.last) (r : Int) : (W.lay x).at_ r = if r = W.last + 1 then some x else W.at_ r := by
  unfold AW.at_ AW.lay
  simp only [List.find?_append]
  by_cases hr : r = W.last + 1
  · have h0 : W.things.find? (fun t => t.1 == r) = none := by
      rw [List.find?_eq_none]
      intro t ht
      have := hl t ht
      simp
      omega
    rw [h0]
    simp [hr]
  · have h1 : (W.last + 1 == r) = false := by simpa using fun e => hr e.symm
    cases h0 : W.things.find? (fun t => t.1 == r) with
    | none => simp [hr, h1]
    | some t => simp [hr]
section
variable {w : World} {p : Nat} {W : AW} {M D : Nat → Prop} {pa : Option Addr} {pc bc bt bf bm ck fk : Nat} {L : List (Int × Nat × Nat)} {FL : List ((Int × Int) × Int × Nat)}
theorem RepW.lowL (h : RepW w p W M D pa pc bc bt bf bm ck fk L FL) : ∀ t, t ∈ W.things → t.1 ≤ W.last := fun t ht => (h.low t ht).2
theorem side_I64 (h : RepW w p W M D pa pc bc bt bf bm ck fk L FL) {s : Int} (hs : sideB W s = true) : I64 s := by
  have h1 := (sideB_iff h s).1 hs
  have h2 := h.sides.2.2
  unfold I64
  omega
theorem make_sealer (h : RepW w p W M D pa pc bc bt bf bm ck fk L FL) (s : Int) (hs : sideB W s = true) (hm : W.made.getD s.toNat 0 < 512) :
    Calls Try.prog 28 #[.pointer (some ⟨p, 0, none⟩), (xOf 5 s 0 V.zero).agg (uOf none 0)] w (MakeOut w p W M D pa pc bc bt bf bm fk FL (xOf 5 s 0 V.zero)) := by
  have hk : ∀ w', Fr none_ w w' → RepW w' p W M D pa pc bc bt bf bm ck fk L FL := fun w' hf => h.keep hf (fun _ _ h => h) (fun _ _ h => h)
  refine make_FF h (xOf 5 s 0 V.zero) (uOf none 0) none_ True (xOf_plain _ _ _ _) may_zero (xOf_RX (by unfold U8; omega) (side_I64 h hs) (by unfold I64; omega) (RV_zero _ _ _)) (fun i hi => hi.elim) (by simp) (by simp) (by simp) rfl rfl (fun w' hf => form_5 (hk w' hf) s hs) (fun w' hf => ?_) (fun w' hf => fits_t 0 _ _ (by simp) w') hs hm
  have := names_0 (hk w' hf) (xOf 5 s 0 V.zero) (uOf none 0) none_ True rfl rfl (RV_zero _ _ _) (fun b hb => hb.elim)
  have e : allThings W (xOf 5 s 0 V.zero).val.refs = true := by show allThings W V.zero.refs = true; rw [refs_zero]; rfl
  rw [e] at this
  exact this
theorem make_opener (h : RepW w p W M D pa pc bc bt bf bm ck fk L FL) (s of_ : Int) (hs : sideB W s = true) (ho : I64 of_) (hof : thereB W of_ 5 s = true) (hoth : otherB W 0 6 of_ = false) (hm : W.made.getD s.toNat 0 < 512) :
    Calls Try.prog 28 #[.pointer (some ⟨p, 0, none⟩), (xOf 6 s of_ V.zero).agg (uOf none 0)] w (MakeOut w p W M D pa pc bc bt bf bm fk FL (xOf 6 s of_ V.zero)) := by
  have hk : ∀ w', Fr none_ w w' → RepW w' p W M D pa pc bc bt bf bm ck fk L FL := fun w' hf => h.keep hf (fun _ _ h => h) (fun _ _ h => h)
  have hsm : (W.at_ of_).isSome = true := by unfold thereB at hof; cases hw : W.at_ of_ with | none => rw [hw] at hof; cases hof | some x => rfl
  refine make_TF h (xOf 6 s of_ V.zero) (uOf none 0) none_ True (xOf_plain _ _ _ _) may_zero (xOf_RX (by unfold U8; omega) (side_I64 h hs) ho (RV_zero _ _ _)) (fun i hi => hi.elim) (by simp) (by simp) (by simp) rfl hsm rfl (fun w' hf => form_6 (hk w' hf) s hs of_) (fun w' hf => ?_) (fun w' hf => ?_) hs hm
  · have := names_0 (hk w' hf) (xOf 6 s of_ V.zero) (uOf none 0) none_ True rfl rfl (RV_zero _ _ _) (fun b hb => hb.elim)
    have e : allThings W (xOf 6 s of_ V.zero).val.refs = true := by show allThings W V.zero.refs = true; rw [refs_zero]; rfl
    rw [e] at this
    exact this
  · have := fits_6 (hk w' hf) 0 (xOf 6 s of_ V.zero) (uOf none 0) rfl
    have e : (thereB W (xOf 6 s of_ V.zero).of_ 5 (xOf 6 s of_ V.zero).home && !otherB W 0 6 (xOf 6 s of_ V.zero).of_) = true := by show (thereB W of_ 5 s && !otherB W 0 6 of_) = true; rw [hof, hoth]; rfl
    rw [e] at this
    exact this
theorem form_7 (h : RepW w p W M D pa pc bc bt bf bm ck fk L FL) (s of_ : Int) (v : V) (A : Option Addr) (c : Nat) (Dv : Nat → Prop) (z : Prop) (hs : sideB W s = true) (hv : RV w Dv z v (v.cells A c)) (hD : ∀ b, Dv b → b < w.heap.size) :
    Calls Try.prog 46 #[.pointer (some ⟨p, 0, none⟩), (xOf 7 s of_ v).agg (uOf A c)] w (Bool_ w v.may) := by
  cases hb : blankB v with
  | true => exact form_7b h s hs v A c of_ Dv z hv hD hb
  | false => exact form_7n h s hs v A c of_ Dv z hv hD hb
theorem box_parts (h : RepW w p W M D pa pc bc bt bf bm ck fk L FL) (s of_ : Int) (v : V) (A : Option Addr) (c : Nat) (Dv : Nat → Prop) (z : Prop) (hs : sideB W s = true) (hmay : v.may = true) (hrefs : allThings W v.refs = true) (hof : thereB W of_ 5 s = true) (hv : RV w Dv z v (v.cells A c)) (hD : ∀ b, Dv b → b < w.heap.size) :
    (∀ w', Fr none_ w w' → Calls Try.prog 46 #[.pointer (some ⟨p, 0, none⟩), (xOf 7 s of_ v).agg (uOf A c)] w' (Bool_ w' true)) ∧
    (∀ w', Fr none_ w w' → Calls Try.prog 47 #[.pointer (some ⟨p, 0, none⟩), (xOf 7 s of_ v).agg (uOf A c)] w' (Bool_ w' true)) ∧
    (∀ w', Fr none_ w w' → Calls Try.prog 50 #[.pointer (some ⟨p, 0, none⟩), .int .i64 0, (xOf 7 s of_ v).agg (uOf A c)] w' (Bool_ w' true)) := by
  have hk : ∀ w', Fr none_ w w' → RepW w' p W M D pa pc bc bt bf bm ck fk L FL := fun w' hf => h.keep hf (fun _ _ h => h) (fun _ _ h => h)
  refine ⟨fun w' hf => ?_, fun w' hf => ?_, fun w' hf => ?_⟩
  · have := form_7 (hk w' hf) s of_ v A c Dv z hs (hv.fr hf (fun _ _ h => h)) (fun b hb => Nat.lt_of_lt_of_le (hD b hb) hf.size)
    rw [hmay] at this
    exact this
  · have := names_0 (hk w' hf) (xOf 7 s of_ v) (uOf A c) Dv z rfl rfl (hv.fr hf (fun _ _ h => h)) (fun b hb => Nat.lt_of_lt_of_le (hD b hb) hf.size)
    have e : allThings W (xOf 7 s of_ v).val.refs = true := hrefs
    rw [e] at this
    exact this
  · have := fits_7 (hk w' hf) 0 (xOf 7 s of_ v) (uOf A c) rfl
    have e : thereB W (xOf 7 s of_ v).of_ 5 (xOf 7 s of_ v).home = true := hof
    rw [e] at this
    exact this
theorem there_isSome {W : AW} {of_ k s : Int} (hof : thereB W of_ k s = true) : (W.at_ of_).isSome = true := by
  unfold thereB at hof; cases hw : W.at_ of_ with | none => rw [hw] at hof; cases hof | some x => rfl
theorem make_box (h : RepW w p W M D pa pc bc bt bf bm ck fk L FL) (s of_ : Int) (v : V) (A : Option Addr) (c : Nat) (Dv : Nat → Prop) (z : Prop) (hs : sideB W s = true) (ho : I64 of_) (hmay : v.may = true) (hrefs : allThings W v.refs = true) (hof : thereB W of_ 5 s = true) (hv : RV w Dv z v (v.cells A c)) (hD : ∀ b, Dv b → b < w.heap.size) (hm : W.made.getD s.toNat 0 < 512) :
    Calls Try.prog 28 #[.pointer (some ⟨p, 0, none⟩), (xOf 7 s of_ v).agg (uOf A c)] w (MakeOut w p W M D pa pc bc bt bf bm fk FL (xOf 7 s of_ v)) := by
  obtain ⟨h1, h2, h3⟩ := box_parts h s of_ v A c Dv z hs hmay hrefs hof hv hD
  exact make_TF h (xOf 7 s of_ v) (uOf A c) Dv z (xOf_plain _ _ _ _) hmay (xOf_RX (by unfold U8; omega) (side_I64 h hs) ho hv) hD (by simp) (by simp) (by simp) rfl (there_isSome hof) rfl h1 h2 h3 hs hm
theorem make_box_full (h : RepW w p W M D pa pc bc bt bf bm ck fk L FL) (s of_ : Int) (v : V) (A : Option Addr) (c : Nat) (Dv : Nat → Prop) (z : Prop) (hs : sideB W s = true) (ho : I64 of_) (hmay : v.may = true) (hrefs : allThings W v.refs = true) (hof : thereB W of_ 5 s = true) (hv : RV w Dv z v (v.cells A c)) (hD : ∀ b, Dv b → b < w.heap.size) (hm : W.made.getD s.toNat 0 = 512) :
    Calls Try.prog 28 #[.pointer (some ⟨p, 0, none⟩), (xOf 7 s of_ v).agg (uOf A c)] w (MakeNo w 8) := by
  obtain ⟨h1, h2, h3⟩ := box_parts h s of_ v A c Dv z hs hmay hrefs hof hv hD
  exact make_limit h (xOf 7 s of_ v) (uOf A c) Dv z (xOf_plain _ _ _ _) hmay (xOf_RX (by unfold U8; omega) (side_I64 h hs) ho hv) hD (by simp) (by simp) (by simp) rfl (there_isSome hof) rfl h1 h2 h3 hs hm
end
end Go.Proofs.Ytpgjbbefgacjkaa
