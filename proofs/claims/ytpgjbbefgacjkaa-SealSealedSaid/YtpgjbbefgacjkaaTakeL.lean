/- 'take' of package value at a list, by induction on the value; 'measure', 'May'. -/
import Derived.Test.YtpgjbbefgacjkaaTake
namespace Go.Proofs.Ytpgjbbefgacjkaa
open Go.RowKit
set_option linter.unusedSimpArgs false
set_option linter.unusedVariables false

def TakeRel (w : World) (q : Nat) (l : List V) (p m : Nat) (box : List Value) (k : Nat) (i : Value) (wr : World) : Prop :=
  ∃ j p' : Nat, j + k = l.length ∧ i = .int .i64 (j : Int) ∧ p' ≤ p ∧ takeVs (l.drop j) p' m = takeVs l p m ∧ Blk wr q [.int .i64 p', .int .i64 m] 128 ∧ Blk wr (w.heap.size + 1) box 37 ∧ Fr (· = q) w wr

/-- What the recursion gives for the list's elements. -/
def TakeAll (D : Nat → Prop) (z : Prop) (l : List V) : Prop := ∀ x, x ∈ l → ∀ (q p m : Nat) (A : Option Addr) (c : Nat) (w : World), p ≤ 512 → m ≤ 16 → RV w D z x (x.cells A c) → ¬ D q → (∀ b, D b → b < w.heap.size) → Blk w q [.int .i64 p, .int .i64 m] 128 →
  Calls Try.prog 81 #[.pointer (some ⟨q, 0, none⟩), x.agg A c] w (TakeOut w q x p m)

theorem takeVs_drop (l : List V) (j p m : Nat) (h : j < l.length) : takeVs (l.drop j) p m = (takeV l[j] p m).bind fun q => takeVs (l.drop (j + 1)) q m := by
  rw [List.drop_eq_getElem_cons h]; rfl

set_option maxRecDepth 100000 in
set_option maxHeartbeats 4000000 in
theorem take_w3 (D : Nat → Prop) (z : Prop) (q p m : Nat) (n r : Int) (s : ByteArray) (l : List V) (A : Option Addr) (c : Nat) (w : World) (hp : (p : Int) < 512) (hm : (m : Int) < 16) (hl : l.length ≤ p)
    (hx : TakeAll D z l) (hq : ¬ D q) (hD : ∀ b, D b → b < w.heap.size) (hs : RVs w D z l A)
    (hb : Blk w q [.int .i64 ((p : Int) + 1), .int .i64 ((m : Int) + 1)] 128) :
    Calls Try.prog 81 #[.pointer (some ⟨q, 0, none⟩), .agg #[.int .u8 3, .int .i64 n, .string s, .slice A l.length c, .int .i64 r]] w (TakeOut w q (.mk 3 n s l r) (p + 1) (m + 1)) := by
  have hql := hb.lt
  have c0 : w.cell? ⟨q, 0, none⟩ = some (.int .i64 ((p : Int) + 1)) := hb.cell 0
  have c1 : w.cell? ⟨q, 1, none⟩ = some (.int .i64 ((m : Int) + 1)) := hb.cell 1
  have f0 := hb.frozen 0
  have f1 := hb.frozen 1
  have d4 : ((p : Int) + 1 == 0) = false := by simp; omega
  have d1 : ((m : Int) + 1 == 0) = false := by simp; omega
  have d2 : decide ((p : Int) < l.length) = false := by simp; omega
  have d3 : decide (p < l.length) = false := by simp; omega
  have es := size_toList s
  have HB := Lib.hid hb; clear hb
  have HL := Lib.hid hl; clear hl
  have ES := Lib.hid es; clear es
  have HX := Lib.hid hx; clear hx
  have HS := Lib.hid hs; clear hs
  have HQ := Lib.hid hq; clear hq
  have HD := Lib.hid hD; clear hD
  have hlb : l.length < 512 := by have := HL.out; omega
  go_enter Try.func81, Try.ntmps81
  go_wp2
  go_quiet (fail)
  go_wp2
  go_loopg [68] (l.length) (fun k i wr => TakeRel w q l p m [.int .u8 3, .int .i64 n, .string s, .slice A l.length c, .int .i64 r] k i wr)
  case atStart =>
    refine ⟨0, p, by omega, rfl, Nat.le_refl _, rfl, ?_, ?_, ?_⟩
    · exact (Blk.set (((HB.out.set 0 (.int .i64 (p : Int))).alloc _).alloc _) 1 _)
    · refine Blk.other ?_ _ _ (by simp; omega)
      have h := Blk.new ((w.setCell ⟨q, 0, none⟩ (.int .i64 (p : Int))).alloc (.cells #[.int .u8 3, .int .i64 n, .string s, .slice A l.length c, .int .i64 r] 37)) [.int .u8 3, .int .i64 n, .string s, .slice A l.length c, .int .i64 r] 37
      have e : ((w.setCell ⟨q, 0, none⟩ (.int .i64 (p : Int))).alloc (.cells #[.int .u8 3, .int .i64 n, .string s, .slice A l.length c, .int .i64 r] 37)).heap.size = w.heap.size + 1 := by simp
      rw [e] at h
      exact h
    · exact ((((Fr.set1 w q 0 _).alloc _).alloc _).drewN _).set _ _
  case round =>
    obtain ⟨j, p', hjk, rfl, hp', htk, hbq, hbx, hfr⟩ := hrel
    have HT := Lib.hid htk; clear htk
    have HBQ := Lib.hid hbq; clear hbq
    have HBX := Lib.hid hbx; clear hbx
    have HFR := Lib.hid hfr; clear hfr
    by_cases hlt : j < l.length
    · have hs' := HS.out.fr HFR.out (fun b hd e => HQ.out (e ▸ hd))
      obtain ⟨b1, o1, A1, c1', he, hd1, e0, e1, e2, e3, e4, hv⟩ := hs'.elem hlt
      subst he
      have HV := Lib.hid hv; clear hv
      have HDX := Lib.hid hd1; clear hd1
      clear hs'
      have hjb : (j : Int) < 512 := by omega
      go_wp2_with fail
      refine (HX.out l[j] (List.getElem_mem _) q p' m A1 c1' _ (by omega) (by omega) (HV.out.fr ((Fr.refl none_ wr).alloc _) (fun _ _ h => h)) HQ.out (fun b hd => by have := HD.out b hd; have := HFR.out.size; simp; omega) (HBQ.out.alloc _)).mono ?_
      rintro e w1 (⟨p2, ht2, rfl, hp2, hb2, hf2⟩ | ⟨ht2, rfl, hf2⟩)
      · have HT2 := Lib.hid ht2; clear ht2
        have HB2 := Lib.hid hb2; clear hb2
        have HF2 := Lib.hid hf2; clear hf2
        go_wp2
        go_roundg (gk - 1)
        case measure => omega
        case rel =>
          refine ⟨j + 1, p2, by omega, by go_num, by omega, ?_, HB2.out, ?_, ?_⟩
          · have h1 := HT.out
            rw [takeVs_drop l j p' m hlt, HT2.out] at h1
            exact h1
          · exact (HBX.out.alloc _).keep HF2.out (by have := hql; omega)
          · exact (HFR.out.alloc _).trans' HF2.out (fun _ _ h => h)
      · have HT2 := Lib.hid ht2; clear ht2
        have HF2 := Lib.hid hf2; clear hf2
        go_wp2
        go_ret
        refine TakeOut.none_ ?_ ((HFR.out.alloc _).trans' HF2.out (fun _ _ h => h))
        have h1 := HT.out
        rw [takeVs_drop l j p' m hlt, HT2.out] at h1
        rw [take_k3, if_pos HL.out, ← h1]; rfl
    · obtain rfl : j = l.length := by omega
      have hn : q ≠ w.heap.size + 1 := by omega
      have b1 : wr.cell? ⟨q, 1, none⟩ = some (.int .i64 (m : Int)) := HBQ.out.cell 1
      have b2 := HBQ.out.frozen 1
      have x1 : wr.cell? ⟨w.heap.size + 1, 1, none⟩ = some (.int .i64 n) := HBX.out.cell 1
      have x2 : wr.cell? ⟨w.heap.size + 1, 2, none⟩ = some (.string s) := HBX.out.cell 2
      have x3 : wr.cell? ⟨w.heap.size + 1, 3, none⟩ = some (.slice A l.length c) := HBX.out.cell 3
      have x4 : wr.cell? ⟨w.heap.size + 1, 4, none⟩ = some (.int .i64 r) := HBX.out.cell 4
      have x5 := HBX.out.frozen 3
      have ht := HT.out
      rw [List.drop_length] at ht
      have HT2 := Lib.hid ht; clear ht
      go_wp2
      all_goals
        go_ret
        first
          | (refine TakeOut.some_ (p' := p') ?_ (by omega) (((HBQ.out.set 1 _).other _ _ hn)) (((HFR.out.set 1 _).setNew (by simp) 3 _)))
          | (refine TakeOut.none_ ?_ (((HFR.out.set 1 _).setNew (by simp) 3 _)))
        rw [take_k3, if_pos HL.out, ← HT2.out]
        unfold takeVs
        simp [ES.out, *]

theorem Blk.nat1 {w : World} {q p m : Nat} {t : Nat} (h : Blk w q [.int .i64 ((p + 1 : Nat) : Int), .int .i64 (m : Int)] t) : Blk w q [.int .i64 ((p : Int) + 1), .int .i64 (m : Int)] t := by simpa using h
theorem Blk.nat2 {w : World} {q p m : Nat} {t : Nat} (h : Blk w q [.int .i64 ((p + 1 : Nat) : Int), .int .i64 ((m + 1 : Nat) : Int)] t) : Blk w q [.int .i64 ((p : Int) + 1), .int .i64 ((m : Int) + 1)] t := by simpa using h
set_option maxRecDepth 100000 in
set_option maxHeartbeats 1000000 in
theorem take_nothing (q m : Nat) (k n r : Int) (s : ByteArray) (ln : Nat) (v : V) (A : Option Addr) (c : Nat) (w : World)
    (hb : Blk w q [.int .i64 0, .int .i64 m] 128) :
    Calls Try.prog 81 #[.pointer (some ⟨q, 0, none⟩), .agg #[.int .u8 k, .int .i64 n, .string s, .slice A ln c, .int .i64 r]] w (TakeOut w q v 0 m) := by
  have hq := hb.lt
  have c0 : w.cell? ⟨q, 0, none⟩ = some (.int .i64 0) := hb.cell 0
  have HB := Lib.hid hb; clear hb
  go_enter Try.func81, Try.ntmps81
  go_wp2
  go_ret
  exact TakeOut.none_ (take_zero v m) ((Fr.refl _ _).alloc _)

/-- **'take', at every value that is read.** -/
theorem take_any (D : Nat → Prop) (z : Prop) (v : V) : TakeAll D z [v] := by
  induction v using V.ind with
  | h k n s l r ih =>
    intro x hx q p m A c w hp hm hv hq hD hb
    obtain rfl : x = .mk k n s l r := by simpa using hx
    cases p with
    | zero => exact take_nothing q m k n r s _ _ A c w hb
    | succ p =>
      have hb1 := hb.nat1
      have hp1 : (p : Int) < 512 := by omega
      by_cases h0 : k = 0
      · subst h0; exact take_w0 q p m n r s l A c w hp1 hb1
      by_cases h1 : k = 1
      · subst h1; exact take_w1 q p m n r s l A c w hp1 hb1
      by_cases h2 : k = 2
      · subst h2
        by_cases hs : s.size ≤ 256
        · exact take_w2a q p m n r s l A c w hp1 hs hb1
        · exact take_w2b q p m n r s l A c w hp1 (by omega) hb1
      by_cases h4 : k = 4
      · subst h4
        by_cases hr : 1 ≤ r
        · exact take_w4a q p m n r s l A c w hp1 hr hb1
        · exact take_w4b q p m n r s l A c w hp1 (by omega) hb1
      by_cases h3 : k = 3
      · subst h3
        cases m with
        | zero => exact take_w3z q p n r s l A c w hp1 hb1
        | succ m =>
          by_cases hl : l.length ≤ p
          · unfold RV at hv
            obtain ⟨_, _, _, _, _, A', c', hcs, _, hs⟩ := hv
            obtain ⟨rfl, rfl⟩ : A = A' ∧ c = c' := by simpa [V.cells, V.k, V.n, V.s, V.l, V.r] using hcs
            exact take_w3 D z q p m n r s l A c w hp1 (by omega) hl (fun y hy => ih y hy y (List.mem_singleton_self y)) hq hD hs hb.nat2
          · exact take_w3b q p m n r s l A c w hp1 (by omega) hb.nat2
      exact take_wx q p m k n r s l A c w hp1 (by simpa using h0) (by simpa using h1) (by simpa using h2) (by simpa using h3) (by simpa using h4) hb1

/-! ### measure, May -/
def Bool_ (w : World) (b : Bool) (e : Ending) (w' : World) : Prop := e = .returned (.bool b) ∧ Fr none_ w w'
def Int_ (w : World) (n : Int) (e : Ending) (w' : World) : Prop := e = .returned (.int .i64 n) ∧ Fr none_ w w'
def V.parts (v : V) : Nat := match takeV v 512 16 with | some p => 512 - p | none => 0
set_option maxRecDepth 100000 in
set_option maxHeartbeats 1000000 in
theorem measure_any (D : Nat → Prop) (z : Prop) (v : V) (A : Option Addr) (c : Nat) (w : World) (hv : RV w D z v (v.cells A c)) (hD : ∀ b, D b → b < w.heap.size) :
    Calls Try.prog 53 #[v.agg A c] w (Int_ w v.parts) := by
  have HV := Lib.hid hv; clear hv
  have HD := Lib.hid hD; clear hD
  have hmb : ∀ W : World, (Instr.build 128 #[(0, .int .i64 512), (1, .int .i64 16)]).run Try.prog W = .ok (.agg #[.int .i64 512, .int .i64 16]) W := fun W => by kernel_rfl
  go_enter Try.func53, Try.ntmps53
  go_wp2_with fail
  refine (take_any D z v v (List.mem_singleton_self v) (w.heap.size + 1) 512 16 A c _ (by omega) (by omega) (HV.out.fr (((Fr.refl none_ w).alloc _).alloc _) (fun _ _ h => h)) (fun h => by have := HD.out _ h; omega) (fun b hd => by have := HD.out b hd; simp; omega) ?_).mono ?_
  · have h := Blk.new (w.alloc (.cells #[.int .u8 v.k, .int .i64 v.n, .string v.s, .slice A v.l.length c, .int .i64 v.r] 37)) [.int .i64 512, .int .i64 16] 128
    have e : (w.alloc (.cells #[.int .u8 v.k, .int .i64 v.n, .string v.s, .slice A v.l.length c, .int .i64 v.r] 37)).heap.size = w.heap.size + 1 := by simp
    rw [e] at h
    exact h
  rintro e w1 (⟨p2, ht2, rfl, hp2, hb2, hf2⟩ | ⟨ht2, rfl, hf2⟩)
  · have b0 : w1.cell? ⟨w.heap.size + 1, 0, none⟩ = some (.int .i64 (p2 : Int)) := hb2.cell 0
    have HT := Lib.hid ht2; clear ht2
    have HF := Lib.hid hf2; clear hf2
    have HB := Lib.hid hb2; clear hb2
    go_wp2
    go_ret
    refine ⟨?_, ((((Fr.refl none_ w).alloc _).alloc _).trans' HF.out (fun i hi h => by omega))⟩
    unfold V.parts
    rw [HT.out]
    exact ret_int (show (512 : Int) - p2 = ((512 - p2 : Nat) : Int) by omega)
  · have HT := Lib.hid ht2; clear ht2
    have HF := Lib.hid hf2; clear hf2
    go_wp2
    go_ret
    refine ⟨?_, ((((Fr.refl none_ w).alloc _).alloc _).trans' HF.out (fun i hi h => by omega))⟩
    unfold V.parts
    rw [HT.out]
    rfl
theorem takeVs_le (l : List V) (h : ∀ x, x ∈ l → ∀ p m q, takeV x p m = some q → q < p) : ∀ p m q, takeVs l p m = some q → q ≤ p := by
  induction l with
  | nil => intro p m q hq; unfold takeVs at hq; injection hq with hq; omega
  | cons x l ih =>
    intro p m q hq
    unfold takeVs at hq
    obtain ⟨p1, h1, h2⟩ := Option.bind_eq_some_iff.1 hq
    have := h x (List.mem_cons_self ..) p m p1 h1
    have := ih (fun y hy => h y (List.mem_cons_of_mem _ hy)) p1 m q h2
    omega
theorem takeV_lt (v : V) : ∀ p m q, takeV v p m = some q → q < p := by
  induction v using V.ind with
  | h k n s l r ih =>
    intro p m q hq
    cases p with
    | zero => rw [take_zero] at hq; cases hq
    | succ p =>
      have hl := takeVs_le l ih
      unfold takeV at hq
      simp only at hq
      repeat' (split at hq)
      all_goals first
        | (injection hq with hq; omega)
        | cases hq
        | (obtain ⟨p1, h1, h2⟩ := Option.bind_eq_some_iff.1 hq
           first
             | (have := hl _ _ _ h1; injection h2 with h2; omega)
             | cases h2)
theorem V.parts_pos (v : V) : decide ((v.parts : Int) > 0) = v.may := by
  unfold V.parts V.may
  cases h : takeV v 512 16 with
  | none => rfl
  | some p => have := takeV_lt v 512 16 p h; simp; omega
set_option maxRecDepth 100000 in
set_option maxHeartbeats 1000000 in
/-- **'May' of package value.** -/
theorem may_any (D : Nat → Prop) (z : Prop) (v : V) (A : Option Addr) (c : Nat) (w : World) (hv : RV w D z v (v.cells A c)) (hD : ∀ b, D b → b < w.heap.size) :
    Calls Try.prog 30 #[v.agg A c] w (Bool_ w v.may) := by
  have hpp := v.parts_pos
  have HP := Lib.hid hpp; clear hpp
  have HV := Lib.hid hv; clear hv
  have HD := Lib.hid hD; clear hD
  go_enter Try.func30, Try.ntmps30
  go_wp2_with fail
  refine (measure_any D z v A c _ (HV.out.fr ((Fr.refl none_ w).alloc _) (fun _ _ h => h)) (fun b hd => by have := HD.out b hd; simp; omega)).mono ?_
  rintro e w1 ⟨rfl, hf⟩
  have HF := Lib.hid hf; clear hf
  go_wp2
  go_ret
  exact ⟨by rw [← HP.out]; simp, ((Fr.refl none_ w).alloc _).trans' HF.out (fun i hi h => h)⟩
end Go.Proofs.Ytpgjbbefgacjkaa
