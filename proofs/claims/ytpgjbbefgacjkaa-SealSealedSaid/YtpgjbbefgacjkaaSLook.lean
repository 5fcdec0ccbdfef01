/- 'look' and 'may' of the law of layer 9: what they answer, and that it is what package value says. -/
import Derived.Test.YtpgjbbefgacjkaaSLook0
import Derived.LoopN
namespace Go.Proofs.Ytpgjbbefgacjkaa
open Go.RowKit
set_option linter.unusedSimpArgs false
set_option linter.unusedVariables false
set_option linter.unusedSectionVars false
theorem sz0 {s : ByteArray} (h : s.size = 0) : s = ⟨#[]⟩ := by
  obtain ⟨a⟩ := s
  have : a = #[] := Array.eq_empty_of_size_eq_zero h
  rw [this]
def LookAll (D : Nat → Prop) (z : Prop) (l : List V) : Prop := ∀ x, x ∈ l → ∀ (A : Option Addr) (c : Nat) (left deep : Int) (w : World), RV w D z x (x.cells A c) → (∀ b, D b → b < w.heap.size) → 0 ≤ left → left ≤ 512 → 0 ≤ deep → deep ≤ 16 → (Calls Try.prog 42 #[x.agg A c, .int .i64 left, .int .i64 deep] w fun e w' => e = .returned (.int .i64 (lookV x left deep)) ∧ Fr none_ w w')
def LookRel (w : World) (A : Option Addr) (c : Nat) (l : List V) (n0 deep : Int) (g : Nat) (s1 s8 : Value) (wr : World) : Prop :=
  ∃ (j : Nat) (n : Int) (cs : List Value), j + g = l.length ∧ s8 = .int .i64 (j : Int) ∧ s1 = .int .i64 n ∧ 0 ≤ n ∧ n ≤ 512 ∧ lookL (l.drop j) n deep = lookL l n0 deep ∧ cs[3]? = some (.slice A l.length c) ∧ Blk wr w.heap.size cs 37 ∧ Fr none_ w wr
theorem lookL_le0 (l : List V) (hx : ∀ x, x ∈ l → ∀ (left deep : Int), lookV x left deep ≤ left ∨ lookV x left deep = -1) : ∀ (left deep : Int), lookL l left deep ≤ left ∨ lookL l left deep = -1 := by
  induction l with
  | nil => intro left deep; unfold lookL; exact .inl (Int.le_refl _)
  | cons v l ih =>
    intro left deep
    unfold lookL
    split
    · exact .inr rfl
    · have h1 := hx v (List.mem_cons_self ..) left deep
      rcases ih (fun x hx' => hx x (List.mem_cons_of_mem _ hx')) (lookV v left deep) deep with h | h
      · exact .inl (by omega)
      · exact .inr h
theorem lookV_le0 (v : V) : ∀ (left deep : Int), lookV v left deep ≤ left ∨ lookV v left deep = -1 := by
  induction v using V.ind with
  | h k n s l r ih =>
    intro left deep
    unfold lookV
    split
    · rcases lookL_le0 l ih (left - 1) (deep - 1) with h | h
      · exact .inl (by omega)
      · exact .inr h
    · exact .inr rfl
set_option maxRecDepth 100000 in
set_option maxHeartbeats 8000000 in
theorem look_good (D : Nat → Prop) (z : Prop) (k n r : Int) (s : ByteArray) (l : List V) (A : Option Addr) (c : Nat) (left deep : Int) (w : World) (hk : 0 ≤ k) (hb : headB k n s l.length r left deep = true) (h512 : left ≤ 512) (h16 : deep ≤ 16) (hd0 : 0 ≤ deep)
    (hlb : l.length ≤ 2199023255552) (hx : LookAll D z l) (hD : ∀ b, D b → b < w.heap.size) (hs : RVs w D z l A) :
    Calls Try.prog 42 #[.agg #[.int .u8 k, .int .i64 n, .string s, .slice A l.length c, .int .i64 r], .int .i64 left, .int .i64 deep] w fun e w' => e = .returned (.int .i64 (lookL l (left - 1) (deep - 1))) ∧ Fr none_ w w' := by
  have hb' := hb
  unfold headB zeroB at hb'
  simp only [Bool.and_eq_true, Bool.or_eq_true, decide_eq_true_eq, beq_iff_eq, bne_iff_ne, ne_eq] at hb'
  obtain ⟨⟨⟨⟨⟨hl1, ⟨⟨f1, f2⟩, f3⟩, f4⟩, hk4⟩, hr1⟩, hs256⟩, hd1⟩ := hb'
  have dl : decide (left < 1) = false := by simp; omega
  have d5 : decide ((256 : Int) < s.size) = false := by simp; omega
  have HX := Lib.hid hx; clear hx
  have HD := Lib.hid hD; clear hD
  have HS := Lib.hid hs; clear hs
  clear hb
  have hne1 : k ≠ 1 → n = 0 := fun h => f1.resolve_left h
  have hne2 : k ≠ 2 → s = ⟨#[]⟩ := fun h => sz0 (f2.resolve_left h)
  have hne4 : k ≠ 4 → r = 0 := fun h => f4.resolve_left h
  have hne3 : k ≠ 3 → l.length = 0 := fun h => f3.resolve_left h
  clear f1 f2 f3 f4
  rcases (show k = 0 ∨ k = 1 ∨ k = 2 ∨ k = 3 ∨ k = 4 by omega) with rfl | rfl | rfl | rfl | rfl
  · obtain rfl := hne1 (by decide)
    obtain rfl := hne2 (by decide)
    obtain rfl := hne4 (by decide)
    have hl0 : l = [] := List.eq_nil_of_length_eq_zero (hne3 (by decide))
    subst hl0
    clear hne1 hne2 hne3 hne4 hd1
    go_enter Try.func42, Try.ntmps42
    go_wp2
    refine wp_loop_rounds 1 ?_
    rw [rounds_succ]
    go_wp2
    go_ret
    exact ⟨rfl, (Fr.refl _ _).alloc _⟩
  · obtain rfl := hne2 (by decide)
    obtain rfl := hne4 (by decide)
    have hl0 : l = [] := List.eq_nil_of_length_eq_zero (hne3 (by decide))
    subst hl0
    clear hne1 hne2 hne3 hne4 hd1
    go_enter Try.func42, Try.ntmps42
    go_wp2
    refine wp_loop_rounds 1 ?_
    rw [rounds_succ]
    go_wp2
    go_ret
    exact ⟨rfl, (Fr.refl _ _).alloc _⟩
  · obtain rfl := hne1 (by decide)
    obtain rfl := hne4 (by decide)
    have hl0 : l = [] := List.eq_nil_of_length_eq_zero (hne3 (by decide))
    subst hl0
    clear hne1 hne2 hne3 hne4 hd1
    go_enter Try.func42, Try.ntmps42
    go_wp2
    refine wp_loop_rounds 1 ?_
    rw [rounds_succ]
    go_wp2
    go_ret
    exact ⟨rfl, (Fr.refl _ _).alloc _⟩
  · obtain rfl := hne1 (by decide)
    obtain rfl := hne2 (by decide)
    obtain rfl := hne4 (by decide)
    have dd : decide (deep < 1) = false := by simp at hd1 ⊢; omega
    have hd1' : 1 ≤ deep := by simpa using hd1
    have hbk0 := Blk.new w [.int .u8 3, .int .i64 0, .string ⟨#[]⟩, .slice A l.length c, .int .i64 0] 37
    have HB0 := Lib.hid hbk0; clear hbk0
    clear hne1 hne2 hne3 hne4 hd1 hr1
    go_enter Try.func42, Try.ntmps42
    go_wp2
    go_loopg [1, 8] (l.length) (fun g s1 s8 wr => LookRel w A c l (left - 1) (deep - 1) g s1 s8 wr)
    case atStart => exact ⟨0, _, _, by omega, rfl, rfl, by omega, by omega, rfl, rfl, HB0.out, (Fr.refl _ _).alloc _⟩
    case round =>
      obtain ⟨j, m, cs, hjg, rfl, rfl, hm0, hm1, hr, hcs, hbk, hf⟩ := hrel
      have x3 : wr.cell? ⟨w.heap.size, 3, none⟩ = some (.slice A l.length c) := (hbk.cell 3).trans hcs
      have hbl := hbk.lt
      have HRR := Lib.hid hr; clear hr
      have HBK := Lib.hid hbk; clear hbk
      have HF := Lib.hid hf; clear hf
      have HCS := Lib.hid hcs; clear hcs
      by_cases hlt : j < l.length
      · have hs' := HS.out.fr HF.out (fun _ _ h => h)
        obtain ⟨b1, o1, A1, c1', he, hd1, e0, e1, e2, e3, e4, hv⟩ := hs'.elem hlt
        subst he
        have HV := Lib.hid hv; clear hv
        clear hs' hd1
        have hjb : (j : Int) < l.length := by omega
        have hc := HX.out l[j] (List.getElem_mem _) A1 c1' m (deep - 1) wr HV.out (fun b hd => Nat.lt_of_lt_of_le (HD.out b hd) HF.out.size) hm0 hm1 (by omega) (by omega)
        have HC1 := Lib.hid hc; clear hc
        have hle := lookV_le0 l[j] m (deep - 1)
        go_wp2_with fail
        refine HC1.out.mono ?_
        rintro e w1 ⟨rfl, hf1⟩
        have hbk1 := HBK.out.keep hf1 (fun h => h)
        have hff := HF.out.trans hf1
        have HBK1 := Lib.hid hbk1; clear hbk1
        have HFF := Lib.hid hff; clear hff hf1
        clear x3 e0 e1 e2 e3 e4 HC1 HV
        have hr := HRR.out
        rw [lookL_drop l j hlt] at hr
        generalize lookV l[j] m (deep - 1) = q at hr hle ⊢
        by_cases hq : q < 0
        · rw [if_pos hq] at hr
          have dq : decide (q < 0) = true := by simpa using hq
          have HR2 := Lib.hid hr; clear hr
          go_wp2
          go_ret
          exact ⟨ret_int HR2.out, HFF.out⟩
        · rw [if_neg hq] at hr
          have dq : decide (q < 0) = false := by simpa using hq
          have HR2 := Lib.hid hr; clear hr
          go_wp2
          go_roundg (gk - 1)
          case measure => omega
          case rel => exact ⟨j + 1, q, cs, by omega, by go_num, rfl, by omega, by omega, HR2.out, HCS.out, HBK1.out, HFF.out⟩
      · obtain rfl : j = l.length := by omega
        have hr := HRR.out
        rw [List.drop_length] at hr
        have HR2 := Lib.hid hr; clear hr
        clear hlt
        go_wp2
        go_ret
        exact ⟨ret_int HR2.out, HF.out⟩
  · obtain rfl := hne1 (by decide)
    obtain rfl := hne2 (by decide)
    have dr : decide (r < 1) = false := by simp at hr1 ⊢; omega
    have hl0 : l = [] := List.eq_nil_of_length_eq_zero (hne3 (by decide))
    subst hl0
    clear hne1 hne2 hne3 hne4 hd1
    go_enter Try.func42, Try.ntmps42
    go_wp2
    refine wp_loop_rounds 1 ?_
    rw [rounds_succ]
    go_wp2
    go_ret
    exact ⟨rfl, (Fr.refl _ _).alloc _⟩
theorem look_any (D : Nat → Prop) (z : Prop) (v : V) : LookAll D z [v] := by
  induction v using V.ind with
  | h k n s l r ih =>
    intro x hx A c left deep w hv hD h0 h1 h2 h3
    obtain rfl : x = .mk k n s l r := by simpa using hx
    have hs := hv.list.1
    have hall : LookAll D z l := fun y hy => ih y hy y (List.mem_singleton_self y)
    cases hb : headB k n s l.length r left deep with
    | false =>
      have e : lookV (.mk k n s l r) left deep = -1 := by unfold lookV; rw [hb]; rfl
      rw [e]
      exact look_bad k n r s l.length A c left deep w hb
    | true =>
      have e : lookV (.mk k n s l r) left deep = lookL l (left - 1) (deep - 1) := by unfold lookV; rw [hb]; rfl
      rw [e]
      exact look_good D z k n r s l A c left deep w hv.bounds.1.1 hb h1 h3 h2 hv.bounds.2.2.2.2 hall hD hs
end Go.Proofs.Ytpgjbbefgacjkaa
