/- 'names' of package world: are the references in a thing things? 'refs' of package seal. -/
import Derived.Test.YtpgjbbefgacjkaaForm0
namespace Go.Proofs.Ytpgjbbefgacjkaa
open Go.RowKit
set_option linter.unusedSimpArgs false
set_option linter.unusedVariables false
set_option linter.unusedSectionVars false

/-- A slice that reads these numbers. -/
def RdI (w : World) (A : Option Addr) (xs : List Int) : Prop := ∀ j (h : j < xs.length), ∃ b o, A = some ⟨b, o, none⟩ ∧ w.cell? ⟨b, o + j, none⟩ = some (.int .i64 xs[j])
theorem OwnI.rd {w : World} {B : Nat} {e : TypeId} {v : Value} {xs : List Int} (h : OwnI w B e v xs) : ∃ A c, v = .slice A xs.length c ∧ RdI w A xs ∧ xs.length ≤ 9223372036854775807 ∧ xs.length ≤ c ∧ (A = none → xs = []) := by
  obtain ⟨h1, h2⟩ := h
  rcases h2 with ⟨rfl, h0⟩ | ⟨g, cap, cur, rfl, hb, hg, hnc, hm, hs, ht⟩
  · refine ⟨none, 0, by rw [h0], fun j hj => by omega, by omega, by omega, fun _ => List.eq_nil_of_length_eq_zero h0⟩
  · refine ⟨some ⟨g, 0, none⟩, cap, rfl, fun j hj => ⟨g, 0, rfl, ?_⟩, by simp only [maxLen] at hm; omega, hnc, fun h => by cases h⟩
    rw [Nat.zero_add, cell_of_row w g j cur e (0, 0) hg]
    have hl : (rowI xs)[j]? = some (.int .i64 xs[j]) := by simp [rowI, List.getElem?_eq_getElem hj]
    rw [← ht, List.getElem?_take] at hl
    split at hl
    · simpa using hl
    · cases hl
theorem RdI.keep {S : Nat → Prop} {w w' : World} {A : Option Addr} {xs : List Int} (h : RdI w A xs) (k : Fr S w w') (hn : ∀ b o, A = some ⟨b, o, none⟩ → ¬ S b) : RdI w' A xs := fun j hj => by
  obtain ⟨b, o, h1, h2⟩ := h j hj
  exact ⟨b, o, h1, cell_keep (fun hb => k.block b hb (hn b o h1)) h2⟩
def isThing (W : AW) (r : Int) : Bool := (W.at_ r).isSome
def allThings (W : AW) (l : List Int) : Bool := l.all (isThing W)

section
variable {p : Nat} {W : AW} {M D : Nat → Prop} {pa : Option Addr} {pc bc bt bf bm ck fk : Nat} {L : List (Int × Nat × Nat)} {FL : List ((Int × Int) × Int × Nat)}
set_option maxHeartbeats 400000 in
theorem notthing_any {w : World} (h : RepW w p W M D pa pc bc bt bf bm ck fk L FL) (bw : Nat) (r : Int) (hb : w.cell? ⟨bw, 0, none⟩ = some (.pointer (some ⟨p, 0, none⟩))) :
    Calls Try.prog 71 #[.int .i64 r, .pointer (some ⟨bw, 0, none⟩)] w (Same (.bool (!isThing W r)) w) := by
  have H := Lib.hid h; clear h
  go_enter Try.func71, Try.ntmps71
  go_wp2_with (refine (is_any H.out r).mono ?_; rintro e w' ⟨rfl, rfl⟩)
  go_ret
  exact ⟨ret_bool (by unfold isThing; cases W.at_ r <;> rfl), rfl⟩
def FindRel (W : AW) (xs : List Int) (w : World) (k : Nat) (i : Value) (wr : World) : Prop := ∃ j : Nat, j + k = xs.length ∧ i = .int .i64 (j : Int) ∧ (∀ x, x ∈ xs.take j → isThing W x = true) ∧ wr = w
def IdxR (W : AW) (xs : List Int) (w : World) (e : Ending) (w' : World) : Prop := ∃ i : Int, e = .returned (.int .i64 i) ∧ decide (0 ≤ i) = !allThings W xs ∧ -1 ≤ i ∧ w' = w
set_option maxRecDepth 100000 in
set_option maxHeartbeats 1000000 in
theorem indexref_any {w : World} (h : RepW w p W M D pa pc bc bt bf bm ck fk L FL) (bw : Nat) (A : Option Addr) (c : Nat) (xs : List Int) (hx : RdI w A xs) (hl : (xs.length : Int) ≤ 9223372036854775806) (hb : w.cell? ⟨bw, 0, none⟩ = some (.pointer (some ⟨p, 0, none⟩))) :
    Calls Try.prog 91 #[.slice A xs.length c, .func (.func 71) #[] #[.pointer (some ⟨bw, 0, none⟩)]] w (IdxR W xs w) := by
  have H := Lib.hid h; clear h
  have HX := Lib.hid hx; clear hx
  go_enter Try.func91, Try.ntmps91
  go_wp2
  go_loopg [8] (xs.length) (fun k' i wr => FindRel W xs w k' i wr)
  case atStart => exact ⟨0, by omega, rfl, by simp, rfl⟩
  case round =>
    obtain ⟨j, hjk, rfl, hall, hwr⟩ := hrel
    subst hwr
    have HA := Lib.hid hall; clear hall
    by_cases hlt : j < xs.length
    · obtain ⟨b, o, hA, e0⟩ := HX.out j hlt
      subst hA
      have hjb : (j : Int) < xs.length := by omega
      have hj2 : (j : Int) ≤ 9223372036854775805 := by omega
      go_wp2_with fail
      refine (notthing_any H.out bw xs[j] hb).mono ?_
      rintro e w' ⟨rfl, rfl⟩
      cases hm : isThing W xs[j] with
      | true =>
        have HM := Lib.hid hm; clear hm
        rw [Bool.not_true]
        go_wp2
        go_roundg (gk - 1)
        case measure => omega
        case rel =>
          refine ⟨j + 1, by omega, by go_num, ?_, rfl⟩
          rw [List.take_succ_eq_append_getElem hlt]
          intro x hx
          rcases List.mem_append.1 hx with hx | hx
          · exact HA.out x hx
          · rw [List.mem_singleton.1 hx]; exact HM.out
      | false =>
        have HM := Lib.hid hm; clear hm
        rw [Bool.not_false]
        go_wp2
        go_ret
        refine ⟨j, rfl, ?_, by omega, rfl⟩
        have hf : allThings W xs = false := by
          unfold allThings
          rw [List.all_eq_false]
          exact ⟨xs[j], List.getElem_mem _, by simp [HM.out]⟩
        rw [hf]
        simp
    · go_wp2
      go_ret
      refine ⟨-1, rfl, ?_, by omega, rfl⟩
      have hf : allThings W xs = true := by
        unfold allThings
        rw [List.all_eq_true]
        have := HA.out
        rwa [List.take_of_length_le (by omega)] at this
      rw [hf]
      rfl
set_option maxRecDepth 100000 in
set_option maxHeartbeats 1000000 in
theorem containsref_any {w : World} (h : RepW w p W M D pa pc bc bt bf bm ck fk L FL) (bw : Nat) (A : Option Addr) (c : Nat) (xs : List Int) (hx : RdI w A xs) (hl : (xs.length : Int) ≤ 9223372036854775806) (hb : w.cell? ⟨bw, 0, none⟩ = some (.pointer (some ⟨p, 0, none⟩))) :
    Calls Try.prog 69 #[.slice A xs.length c, .func (.func 71) #[] #[.pointer (some ⟨bw, 0, none⟩)]] w (Same (.bool (!allThings W xs)) w) := by
  have H := Lib.hid h; clear h
  have HX := Lib.hid hx; clear hx
  go_enter Try.func69, Try.ntmps69
  go_wp2_with fail
  refine (indexref_any H.out bw A c xs HX.out hl hb).mono ?_
  rintro e w1 ⟨i, rfl, hi, hi1, rfl⟩
  have HI := Lib.hid hi; clear hi
  go_wp2
  go_ret
  exact ⟨ret_bool HI.out, rfl⟩
set_option maxRecDepth 100000 in
set_option maxHeartbeats 2000000 in
/-- 'held', of a thing with a value alone. -/
theorem held_0 (x : X) (u : Under) (Dv : Nat → Prop) (z : Prop) (w : World) (hvs : x.vals.length = 0) (hns : x.names.length = 0) (hv : RV w Dv z x.val (x.val.cells u.va u.vc)) (hD : ∀ b, Dv b → b < w.heap.size) :
    Calls Try.prog 70 #[x.agg u] w (RefsOut w x.val.refs) := by
  have HV := Lib.hid hv; clear hv
  have HD := Lib.hid hD; clear hD
  have HVS := Lib.hid hvs; clear hvs
  have HNS := Lib.hid hns; clear hns
  go_enter Try.func70, Try.ntmps70
  go_wp2_with fail
  refine (Refs_any Dv z x.val u.va u.vc _ (HV.out.fr ((Fr.refl none_ w).alloc _) (fun _ _ h => h)) (fun b hd => by have := HD.out b hd; simp; omega)).mono ?_
  rintro e w1 ⟨sv, rfl, hown, hf⟩
  have hbx : Blk w1 w.heap.size (x.cells u) 69 := Blk.keep (S := none_) (Blk.new w _ _) hf (fun h => h)
  have x7 : w1.cell? ⟨w.heap.size, 7, none⟩ = some (.slice u.la 0 u.lc) := by have := hbx.cell 7; rw [show (x.cells u)[7]? = some (.slice u.la x.vals.length u.lc) from rfl, HVS.out] at this; exact this
  have x15 : w1.cell? ⟨w.heap.size, 15, none⟩ = some (.slice u.na 0 u.nc) := by have := hbx.cell 15; rw [show (x.cells u)[15]? = some (.slice u.na x.names.length u.nc) from rfl, HNS.out] at this; exact this
  have hfw := ((Fr.refl none_ w).alloc (.cells (x.cells u).toArray 69)).trans hf
  have HFW := Lib.hid hfw; clear hfw hf
  have HO := Lib.hid hown; clear hown
  clear hbx
  go_wp2
  refine wp_loop_rounds 1 ?_
  rw [rounds_succ]
  go_wp2
  refine wp_loop_rounds 1 ?_
  rw [rounds_succ]
  go_wp2
  go_ret
  exact ⟨sv, rfl, ownsRow_base HO.out (by simp), HFW.out⟩
set_option maxRecDepth 100000 in
set_option maxHeartbeats 2000000 in
theorem names_0 {w : World} (h : RepW w p W M D pa pc bc bt bf bm ck fk L FL) (x : X) (u : Under) (Dv : Nat → Prop) (z : Prop) (hvs : x.vals.length = 0) (hns : x.names.length = 0) (hv : RV w Dv z x.val (x.val.cells u.va u.vc)) (hD : ∀ b, Dv b → b < w.heap.size) :
    Calls Try.prog 47 #[.pointer (some ⟨p, 0, none⟩), x.agg u] w (Bool_ w (allThings W x.val.refs)) := by
  have H := Lib.hid h; clear h
  have HV := Lib.hid hv; clear hv
  have HD := Lib.hid hD; clear hD
  have HVS := Lib.hid hvs; clear hvs
  have HNS := Lib.hid hns; clear hns
  have hmf : ∀ (fn : Fn) (first cap : Array Value) (w : World), (Instr.makeFunc fn first cap).run Try.prog w = .ok (.func fn first cap) w := fun _ _ _ _ => rfl
  go_enter Try.func47, Try.ntmps47
  go_wp2_with fail
  refine (held_0 x u Dv z _ HVS.out HNS.out (HV.out.fr (((Fr.refl none_ w).alloc _).alloc _) (fun _ _ h => h)) (fun b hd => by have := HD.out b hd; simp; omega)).mono ?_
  rintro e w1 ⟨sv, rfl, hown, hf⟩
  have hbx : Blk w1 w.heap.size [.pointer (some ⟨p, 0, none⟩)] 23 := Blk.keep (S := none_) ((Blk.new w _ _).alloc _) hf (fun h => h)
  have x0 : w1.cell? ⟨w.heap.size, 0, none⟩ = some (.pointer (some ⟨p, 0, none⟩)) := hbx.cell 0
  have hfw : Fr none_ w w1 := Fr.trans (((Fr.refl none_ w).alloc _).alloc _) hf
  obtain ⟨A, c, rfl, hrd, hln, hcap, _⟩ := OwnI.rd hown
  have h512 : x.val.refs.length ≤ 512 := by
    unfold V.refs
    split
    · exact refsV_512 _ (by assumption)
    · simp
  have h513 : (x.val.refs.length : Int) ≤ 9223372036854775806 := by omega
  have HFW := Lib.hid hfw; clear hfw hf
  have HRD := Lib.hid hrd; clear hrd hown
  clear hbx
  go_wp2_with fail
  refine (containsref_any (H.out.keep HFW.out (fun _ _ h => h) (fun _ _ h => h)) w.heap.size A c _ HRD.out h513 x0).mono ?_
  rintro e w' ⟨rfl, rfl⟩
  go_wp2
  go_ret
  exact ⟨ret_bool (by simp), HFW.out⟩

/-! ### 'refs' of package seal -/
def RefsRel (W : AW) (xs : List Int) (w : World) (k : Nat) (i : Value) (wr : World) : Prop := ∃ j : Nat, j + k = xs.length ∧ i = .int .i64 (j : Int) ∧ (∀ x, x ∈ xs.take j → isThing W x = true) ∧ wr = w
def refsErr (W : AW) (v : V) : Int := if allThings W v.refs = true then 0 else 5
set_option maxRecDepth 100000 in
set_option maxHeartbeats 2000000 in
theorem sealrefs_any {w : World} (h : RepW w p W M D pa pc bc bt bf bm ck fk L FL) (v : V) (A : Option Addr) (c : Nat) (Dv : Nat → Prop) (z : Prop) (hv : RV w Dv z v (v.cells A c)) (hD : ∀ b, Dv b → b < w.heap.size) :
    Calls Try.prog 32 #[.pointer (some ⟨p, 0, none⟩), v.agg A c] w (Int_ w (refsErr W v)) := by
  have H := Lib.hid h; clear h
  have HV := Lib.hid hv; clear hv
  have HD := Lib.hid hD; clear hD
  go_enter Try.func32, Try.ntmps32
  go_wp2_with fail
  refine (Refs_any Dv z v A c _ (HV.out.fr ((Fr.refl none_ w).alloc _) (fun _ _ h => h)) (fun b hd => by have := HD.out b hd; simp; omega)).mono ?_
  rintro e w1 ⟨sv, rfl, hown, hf⟩
  have hfw := ((Fr.refl none_ w).alloc (.cells (v.cells A c).toArray 37)).trans hf
  obtain ⟨A2, c2, rfl, hrd, hln, hcap, _⟩ := OwnI.rd hown
  have h512 : v.refs.length ≤ 512 := by
    unfold V.refs
    split
    · exact refsV_512 _ (by assumption)
    · simp
  have hr1 := H.out.keep hfw (fun _ _ h => h) (fun _ _ h => h)
  have HR1 := Lib.hid hr1; clear hr1
  have HFW := Lib.hid hfw; clear hfw hf
  have HRD := Lib.hid hrd; clear hrd hown
  go_wp2
  go_loopg [10] (v.refs.length) (fun k' i wr => RefsRel W v.refs w1 k' i wr)
  case atStart => exact ⟨0, by omega, rfl, by simp, rfl⟩
  case round =>
    obtain ⟨j, hjk, rfl, hall, hwr⟩ := hrel
    subst hwr
    have HA := Lib.hid hall; clear hall
    by_cases hlt : j < v.refs.length
    · obtain ⟨b, o, hA, e0⟩ := HRD.out j hlt
      subst hA
      have hjb : (j : Int) < v.refs.length := by omega
      have hj2 : (j : Int) ≤ 9223372036854775805 := by omega
      go_wp2_with fail
      refine (is_any HR1.out v.refs[j]).mono ?_
      rintro e w' ⟨rfl, rfl⟩
      cases hm : isThing W v.refs[j] with
      | true =>
        have hm' : (W.at_ v.refs[j]).isSome = true := hm
        have HM := Lib.hid hm; clear hm
        rw [hm']
        clear hm'
        go_wp2
        go_roundg (gk - 1)
        case measure => omega
        case rel =>
          refine ⟨j + 1, by omega, by go_num, ?_, rfl⟩
          rw [List.take_succ_eq_append_getElem hlt]
          intro x hx
          rcases List.mem_append.1 hx with hx | hx
          · exact HA.out x hx
          · rw [List.mem_singleton.1 hx]; exact HM.out
      | false =>
        have hm' : (W.at_ v.refs[j]).isSome = false := hm
        have HM := Lib.hid hm; clear hm
        rw [hm']
        clear hm'
        go_wp2
        go_ret
        have hf : allThings W v.refs = false := by
          unfold allThings
          rw [List.all_eq_false]
          exact ⟨v.refs[j], List.getElem_mem _, by simp [HM.out]⟩
        exact ⟨ret_int (by unfold refsErr; rw [hf]; rfl), HFW.out⟩
    · go_wp2
      go_ret
      have hf : allThings W v.refs = true := by
        unfold allThings
        rw [List.all_eq_true]
        have := HA.out
        rwa [List.take_of_length_le (by omega)] at this
      exact ⟨ret_int (by unfold refsErr; rw [hf]; rfl), HFW.out⟩
end
end Go.Proofs.Ytpgjbbefgacjkaa
