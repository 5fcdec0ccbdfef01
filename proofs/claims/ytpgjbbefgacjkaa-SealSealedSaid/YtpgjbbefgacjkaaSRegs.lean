/- Joined texts: XSBox, XSApp, XSFix, XSOne. -/
import Derived.Test.YtpgjbbefgacjkaaSAt
import Derived.Test.YtpgjbbefgacjkaaRegAll
import Derived.Test.YtpgjbbefgacjkaaSWithin
import Derived.Deep.AppendLies
import Derived.Great.BuildSlice
import Derived.Test.YtpgjbbefgacjkaaAlike
import Derived.Test.YtpgjbbefgacjkaaOwn2
/- Regions 24 and 28 of 'SealSealed': box i is opened by opener k, or asked to; the answer is boxed. -/
namespace Go.Proofs.Ytpgjbbefgacjkaa
open Go.RowKit
set_option linter.unusedSimpArgs false
set_option linter.unusedVariables false
set_option linter.unusedSectionVars false
abbrev tupV (u : V) (n : Int) (A0 : Option Addr) (c : Nat) : Value := .tuple #[u.agg A0 c, .int .i64 n]
/-- The tuple, its parts, and the box, as far as each is there. -/
def GBox (w0 : World) (u : V) (n : Int) (s10 s11 s12 s14 : Nat) (listed : Array Bool) (a : Act) (w : World) : Prop :=
  ∃ (A0 : Option Addr) (c : Nat) (D : Nat → Prop), Fr none_ w0 w ∧ (∀ b, D b → w0.heap.size ≤ b ∧ b < w.heap.size) ∧
    (listed.getD 10 false = true → a.eval (.tmp s10) = tupV u n A0 c ∧ RV w D True u (u.cells A0 c)) ∧
    (listed.getD 11 false = true → a.eval (.tmp s11) = tupV u n A0 c) ∧
    (listed.getD 12 false = true → a.eval (.tmp s12) = u.agg A0 c) ∧
    (listed.getD 14 false = true → ∃ b, a.eval (.tmp s14) = .pointer (some ⟨b, 0, none⟩) ∧ w0.heap.size ≤ b ∧ b < w.heap.size ∧ ¬ D b ∧ Blk w b (if listed.getD 15 false then u.cells A0 c else zero5) 37)
theorem GBox.start {w0 w : World} {u : V} {n : Int} {s10 s11 s12 s14 k : Nat} {a : Act} (hf : Fr none_ w0 w) : GBox w0 u n s10 s11 s12 s14 (Array.replicate k false) a w := by
  have hr : ∀ i, (Array.replicate k false).getD i false = false := fun i => by
    rw [Array.getD_eq_getD_getElem?, Array.getElem?_replicate]
    split <;> rfl
  refine ⟨none, 0, fun _ => False, hf, fun b h => h.elim, ?_, ?_, ?_, ?_⟩ <;> (intro h; rw [hr] at h; cases h)
theorem eval_put_ne' (a : Act) (d : Option Nat) (j : Nat) (v : Value) (h : d ≠ some j) : (a.put d v).eval (.tmp j) = a.eval (.tmp j) := by
  cases d with
  | none => rfl
  | some d => simp [Act.eval, Act.put, show d ≠ j from fun e => h (by rw [e])]
theorem GBox.keep {w0 w w' : World} {u : V} {n : Int} {s10 s11 s12 s14 : Nat} {listed : Array Bool} {a : Act} {d : Option Nat} {v : Value} {i : Nat} (h : GBox w0 u n s10 s11 s12 s14 listed a w) (k : Fr none_ w w') (h10 : d ≠ some s10) (h11 : d ≠ some s11) (h12 : d ≠ some s12) (h14 : d ≠ some s14)
    (i10 : i ≠ 10) (i11 : i ≠ 11) (i12 : i ≠ 12) (i14 : i ≠ 14) (i15 : i ≠ 15) : GBox w0 u n s10 s11 s12 s14 (listed.setIfInBounds i true) (a.put d v) w' := by
  obtain ⟨A0, c, D, hf, hD, g10, g11, g12, g14⟩ := h
  have hs := k.size
  refine ⟨A0, c, D, hf.trans k, fun b hb => ⟨(hD b hb).1, by have := (hD b hb).2; omega⟩, ?_, ?_, ?_, ?_⟩
  · rw [getD_set_ne false i10, eval_put_ne' _ _ _ _ h10]
    intro l
    exact ⟨(g10 l).1, (g10 l).2.fr k (fun _ _ h => h)⟩
  · rw [getD_set_ne false i11, eval_put_ne' _ _ _ _ h11]; exact g11
  · rw [getD_set_ne false i12, eval_put_ne' _ _ _ _ h12]; exact g12
  · rw [getD_set_ne false i14, getD_set_ne false i15, eval_put_ne' _ _ _ _ h14]
    intro l
    obtain ⟨b, e, h1, h2, h3, h4⟩ := g14 l
    exact ⟨b, e, h1, by omega, h3, h4.keep k (fun h => h)⟩
theorem evt {a : Act} {t : Nat} {v : Value} (h : a.eval (.tmp t) = v) : a.tmps[t]?.getD undef = v := by
  rw [← h]
  simp [Act.eval]
theorem getD_set_same {l : Array Bool} {i : Nat} (h : i < l.size) : (l.setIfInBounds i true).getD i false = true := by simp [h]

def F24 (p ob oo bb bo k i oc bn bcap : Nat) (n : Int) (j : Nat) (v : Value) (w : World) : Prop :=
  (j = 0 → v = .pointer (some ⟨p, 0, none⟩)) ∧ (j = 1 → v = .slice (some ⟨ob, oo, none⟩) 6 oc) ∧ (j = 2 → v = .int .i64 (k : Int)) ∧ (j = 3 → v = .pointer (some ⟨ob, oo + k, none⟩)) ∧ (j = 4 → v = .int .i64 (2 * (k : Int) + 2)) ∧
  (j = 5 → v = .slice (some ⟨bb, bo, none⟩) bn bcap) ∧ (j = 6 → v = .int .i64 (i : Int)) ∧ (j = 7 → v = .pointer (some ⟨bb, bo + i, none⟩)) ∧ (j = 8 → v = .int .i64 (13 + (i : Int))) ∧ (j = 9 → v = (refV (13 + (i : Int))).agg none 0) ∧ (j = 13 → v = .int .i64 n) ∧ (j = 16 → v = .int .i64 n)
set_option maxRecDepth 100000 in
set_option maxHeartbeats 4000000 in
theorem reg24 (a0 : Act) (w : World) (hsz : a0.tmps.size = 191) (p ob oo bb bo k i oc bn bcap : Nat) (u : V) (n : Int) (hk6 : k < 6) (hib : i < bn) (hi60 : (i : Int) < 60)
    (e5 : a0.tmps[5]? = some (.pointer (some ⟨p, 0, none⟩))) (e7 : a0.tmps[7]? = some (.slice (some ⟨ob, oo, none⟩) 6 oc)) (e17 : a0.tmps[17]? = some (.int .i64 (k : Int))) (e8 : a0.tmps[8]? = some (.slice (some ⟨bb, bo, none⟩) bn bcap)) (e16 : a0.tmps[16]? = some (.int .i64 (i : Int)))
    (ho : w.cell? ⟨ob, oo + k, none⟩ = some (.int .i64 (2 * (k : Int) + 2))) (hb : w.cell? ⟨bb, bo + i, none⟩ = some (.int .i64 (13 + (i : Int))))
    (hop : ∀ w', Fr none_ w w' → Calls Try.prog 18 #[.pointer (some ⟨p, 0, none⟩), .int .i64 (2 * (k : Int) + 2), (refV (13 + (i : Int))).agg none 0] w' (OwnOut2 w' u n))
    (Q : Exit → Act → World → Prop) (hQ : ∀ (e : Nat → Value) (w' : World) (b : Nat) (A0 : Option Addr) (c : Nat), w.heap.size ≤ b → Blk w' b (u.cells A0 c) 37 → RV w' (fun j => w.heap.size ≤ j ∧ j ≠ b) True u (u.cells A0 c) → Fr none_ w w' →
      e 18 = .pointer (some ⟨b, 0, none⟩) → e 19 = .int .i64 n → Q .normal ⟨[105, 106, 107, 108, 109, 110, 111, 112, 113, 114, 115, 116, 117, 104, 18, 19].foldl (fun acc t => acc.setIfInBounds t (e t)) a0.tmps, a0.defers⟩ w') :
    (Code.region 24 (opsOf Try.f6 24) true).wp Try.prog Q a0 w := by
  have hol := cell_lt ho
  have hbl := cell_lt hb
  obtain ⟨ops, hops⟩ : ∃ ops, ops = opsOf Try.f6 24 := ⟨_, rfl⟩
  rw [← hops]
  conv at hops => rhs; whnf
  have hdst : dstB ops a0.tmps.size = true := by rw [hsz, hops]; kernel_rfl
  subst hops
  refine wp_region_ri (by kernel_rfl) (by kernel_rfl) hdst (F24 p ob oo bb bo k i oc bn bcap n) (fun l a W => GBox w u n 115 104 116 18 l a W ∧ Fr none_ w W) ⟨GBox.start (Fr.refl _ _).drew, (Fr.refl _ _).drew⟩ ?_ ?_
  · intro listed a W j h hj
    obtain ⟨h0, o, ho', hd⟩ := mem_ready.1 hj
    have hlt : j < 17 := (Array.getElem?_eq_some_iff.1 ho').1
    have hG := h.g.1
    have hW := h.g.2
    have hlen : listed.size = 17 := h.len
    rcases (show j = 0 ∨ j = 1 ∨ j = 2 ∨ j = 3 ∨ j = 4 ∨ j = 5 ∨ j = 6 ∨ j = 7 ∨ j = 8 ∨ j = 9 ∨ j = 10 ∨ j = 11 ∨ j = 12 ∨ j = 13 ∨ j = 14 ∨ j = 15 ∨ j = 16 by omega) with rfl | rfl | rfl | rfl | rfl | rfl | rfl | rfl | rfl | rfl | rfl | rfl | rfl | rfl | rfl | rfl | rfl 
    · obtain rfl := Option.some.inj ho'
      have f5 := h.free 5 (by kernel_rfl) e5
      refine h.quiet hdst hj ho' rfl (some 105) rfl (v := .pointer (some ⟨p, 0, none⟩)) ?_ ?_ ⟨hG.keep (Fr.refl _ _) (by decide) (by decide) (by decide) (by decide) (by decide) (by decide) (by decide) (by decide) (by decide), hW⟩
      · simp [execOp, go_sem, evt f5]
      · unfold F24; simp
    · obtain rfl := Option.some.inj ho'
      have f7 := h.free 7 (by kernel_rfl) e7
      refine h.quiet hdst hj ho' rfl (some 106) rfl (v := .slice (some ⟨ob, oo, none⟩) 6 oc) ?_ ?_ ⟨hG.keep (Fr.refl _ _) (by decide) (by decide) (by decide) (by decide) (by decide) (by decide) (by decide) (by decide) (by decide), hW⟩
      · simp [execOp, go_sem, evt f7]
      · unfold F24; simp
    · obtain rfl := Option.some.inj ho'
      have f17 := h.free 17 (by kernel_rfl) e17
      refine h.quiet hdst hj ho' rfl (some 107) rfl (v := .int .i64 (k : Int)) ?_ ?_ ⟨hG.keep (Fr.refl _ _) (by decide) (by decide) (by decide) (by decide) (by decide) (by decide) (by decide) (by decide) (by decide), hW⟩
      · simp [execOp, go_sem, evt f17]
      · unfold F24; simp
    · obtain rfl := Option.some.inj ho'
      have l1 : listed.getD 1 false = true := hd { on := 1, ground := .data } (by simp) rfl
      have l2 : listed.getD 2 false = true := hd { on := 2, ground := .data } (by simp) rfl
      have e1 := (h.val 1 106 l1 rfl).2.1 rfl
      have e2 := (h.val 2 107 l2 rfl).2.2.1 rfl
      refine h.quiet hdst hj ho' rfl (some 108) rfl (v := .pointer (some ⟨ob, oo + k, none⟩)) ?_ ?_ ⟨hG.keep (Fr.refl _ _) (by decide) (by decide) (by decide) (by decide) (by decide) (by decide) (by decide) (by decide) (by decide), hW⟩
      · have hk1 : (0 : Int) ≤ (k : Int) := by omega
        have hk2 : (k : Int) < 6 := by omega
        simp [execOp, go_sem, evt e1, evt e2, Try.underlying40, hk1, hk2, hk6]
      · unfold F24; simp
    · obtain rfl := Option.some.inj ho'
      have l3 : listed.getD 3 false = true := hd { on := 3, ground := .data } (by simp) rfl
      have e3 := (h.val 3 108 l3 rfl).2.2.2.1 rfl
      have ho2 : W.cell? ⟨ob, oo + k, none⟩ = some (.int .i64 (2 * (k : Int) + 2)) := cell_keep (fun hb => hW.block ob hb (fun h => h)) ho
      refine h.quiet hdst hj ho' rfl (some 109) rfl (v := .int .i64 (2 * (k : Int) + 2)) ?_ ?_ ⟨hG.keep (Fr.refl _ _) (by decide) (by decide) (by decide) (by decide) (by decide) (by decide) (by decide) (by decide) (by decide), hW⟩
      · simp [execOp, go_sem, evt e3, ho2, Try.underlying28]
      · unfold F24; simp
    · obtain rfl := Option.some.inj ho'
      have f8 := h.free 8 (by kernel_rfl) e8
      refine h.quiet hdst hj ho' rfl (some 110) rfl (v := .slice (some ⟨bb, bo, none⟩) bn bcap) ?_ ?_ ⟨hG.keep (Fr.refl _ _) (by decide) (by decide) (by decide) (by decide) (by decide) (by decide) (by decide) (by decide) (by decide), hW⟩
      · simp [execOp, go_sem, evt f8]
      · unfold F24; simp
    · obtain rfl := Option.some.inj ho'
      have f16 := h.free 16 (by kernel_rfl) e16
      refine h.quiet hdst hj ho' rfl (some 111) rfl (v := .int .i64 (i : Int)) ?_ ?_ ⟨hG.keep (Fr.refl _ _) (by decide) (by decide) (by decide) (by decide) (by decide) (by decide) (by decide) (by decide) (by decide), hW⟩
      · simp [execOp, go_sem, evt f16]
      · unfold F24; simp
    · obtain rfl := Option.some.inj ho'
      have l5 : listed.getD 5 false = true := hd { on := 5, ground := .data } (by simp) rfl
      have l6 : listed.getD 6 false = true := hd { on := 6, ground := .data } (by simp) rfl
      have e5 := (h.val 5 110 l5 rfl).2.2.2.2.2.1 rfl
      have e6 := (h.val 6 111 l6 rfl).2.2.2.2.2.2.1 rfl
      refine h.quiet hdst hj ho' rfl (some 112) rfl (v := .pointer (some ⟨bb, bo + i, none⟩)) ?_ ?_ ⟨hG.keep (Fr.refl _ _) (by decide) (by decide) (by decide) (by decide) (by decide) (by decide) (by decide) (by decide) (by decide), hW⟩
      · have hk1 : (0 : Int) ≤ (i : Int) := by omega
        have hk2 : (i : Int) < (bn : Int) := by omega
        simp [execOp, go_sem, evt e5, evt e6, Try.underlying40, hk1, hk2, hib]
      · unfold F24; simp
    · obtain rfl := Option.some.inj ho'
      have l7 : listed.getD 7 false = true := hd { on := 7, ground := .data } (by simp) rfl
      have e7 := (h.val 7 112 l7 rfl).2.2.2.2.2.2.2.1 rfl
      have ho2 : W.cell? ⟨bb, bo + i, none⟩ = some (.int .i64 (13 + (i : Int))) := cell_keep (fun hb => hW.block bb hb (fun h => h)) hb
      refine h.quiet hdst hj ho' rfl (some 113) rfl (v := .int .i64 (13 + (i : Int))) ?_ ?_ ⟨hG.keep (Fr.refl _ _) (by decide) (by decide) (by decide) (by decide) (by decide) (by decide) (by decide) (by decide) (by decide), hW⟩
      · simp [execOp, go_sem, evt e7, ho2, Try.underlying28]
      · unfold F24; simp
    · obtain rfl := Option.some.inj ho'
      have l8 : listed.getD 8 false = true := hd { on := 8, ground := .data } (by simp) rfl
      have e8 := (h.val 8 113 l8 rfl).2.2.2.2.2.2.2.2.1 rfl
      refine h.call hdst hj ho' rfl (some 114) rfl 19 _ _ _ #[.int .i64 (13 + (i : Int))] rfl Try.func19 (by kernel_rfl) rfl (by simp [Act.eval, evt e8]) (hold_any _ _) ?_
      rintro e w1 ⟨rfl, hf1⟩
      exact ⟨_, rfl, fun _ _ h => h, fun _ _ => (by unfold F24; simp), hG.keep hf1 (by decide) (by decide) (by decide) (by decide) (by decide) (by decide) (by decide) (by decide) (by decide), hW.trans hf1⟩
    · obtain rfl := Option.some.inj ho'
      have l0 : listed.getD 0 false = true := hd { on := 0, ground := .data } (by simp) rfl
      have l4 : listed.getD 4 false = true := hd { on := 4, ground := .data } (by simp) rfl
      have l9 : listed.getD 9 false = true := hd { on := 9, ground := .data } (by simp) rfl
      have e0 := (h.val 0 105 l0 rfl).1 rfl
      have e4 := (h.val 4 109 l4 rfl).2.2.2.2.1 rfl
      have e9 := (h.val 9 114 l9 rfl).2.2.2.2.2.2.2.2.2.1 rfl
      refine h.call hdst hj ho' rfl (some 115) rfl 18 _ _ _ #[.pointer (some ⟨p, 0, none⟩), .int .i64 (2 * (k : Int) + 2), (refV (13 + (i : Int))).agg none 0] rfl Try.func18 (by kernel_rfl) rfl (by simp [evt e0, evt e4, evt e9, Act.eval]) (hop W hW) ?_
      rintro e w1 ⟨A2, c2, rfl, hu, hf1⟩
      refine ⟨_, rfl, fun _ _ h => h, fun _ _ => (by unfold F24; simp), ?_, hW.trans hf1⟩
      obtain ⟨A0, c, D, hf, hD, g10, g11, g12, g14⟩ := hG
      have hs := hf1.size
      have hs0 := hf.size
      have n10 : listed.getD 10 false = false := by
        rw [Array.getD_eq_getD_getElem?, Array.getElem?_eq_getElem (show 10 < listed.size by omega)] at h0 ⊢
        exact h0
      have n11 : listed.getD 11 false = false := by
        cases hl : listed.getD 11 false with
        | false => rfl
        | true => rw [← h.cl 11 _ { on := 10, ground := .data } rfl hl (by simp) rfl]; exact n10.symm ▸ rfl
      have n12 : listed.getD 12 false = false := by
        cases hl : listed.getD 12 false with
        | false => rfl
        | true => rw [← h.cl 12 _ { on := 11, ground := .data } rfl hl (by simp) rfl]; exact n11.symm ▸ rfl
      have n15 : listed.getD 15 false = false := by
        cases hl : listed.getD 15 false with
        | false => rfl
        | true => rw [← h.cl 15 _ { on := 12, ground := .data } rfl hl (by simp) rfl]; exact n12.symm ▸ rfl
      refine ⟨A2, c2, fun b => W.heap.size ≤ b ∧ b < w1.heap.size, hf.trans hf1, fun b hb => ⟨by omega, hb.2⟩, ?_, ?_, ?_, ?_⟩
      · intro _
        exact ⟨eval_put_same _ _ _ (by rw [h.sz, hsz]; decide), hu.weak id⟩
      · rw [getD_set_ne false (by decide), n11]; intro e; cases e
      · rw [getD_set_ne false (by decide), n12]; intro e; cases e
      · rw [getD_set_ne false (by decide), getD_set_ne false (by decide), eval_put_ne a 115 18 _ (by decide)]
        intro l
        obtain ⟨b, e, h1, h2, h3, h4⟩ := g14 l
        rw [n15] at h4 ⊢
        exact ⟨b, e, h1, by omega, fun h => by omega, h4.keep hf1 (fun h => h)⟩
    · obtain rfl := Option.some.inj ho'
      have l10 : listed.getD 10 false = true := hd { on := 10, ground := .data } (by simp) rfl
      obtain ⟨A0, c, D, hf, hD, g10, g11, g12, g14⟩ := hG
      have e10 := (g10 l10).1
      refine h.quiet hdst hj ho' rfl (some 104) rfl (v := tupV u n A0 c) ?_ ?_ ⟨⟨A0, c, D, hf, hD, ?_, ?_, ?_, ?_⟩, hW⟩
      · simp [execOp, go_sem, evt e10]
      · unfold F24; simp
      · rw [getD_set_ne false (by decide), eval_put_ne a 104 115 _ (by decide)]; exact g10
      · intro _
        exact eval_put_same _ _ _ (by rw [h.sz, hsz]; decide)
      · rw [getD_set_ne false (by decide), eval_put_ne a 104 116 _ (by decide)]; exact g12
      · rw [getD_set_ne false (by decide), getD_set_ne false (by decide), eval_put_ne a 104 18 _ (by decide)]; exact g14
    · obtain rfl := Option.some.inj ho'
      have l11 : listed.getD 11 false = true := hd { on := 11, ground := .data } (by simp) rfl
      obtain ⟨A0, c, D, hf, hD, g10, g11, g12, g14⟩ := hG
      have e11 := g11 l11
      refine h.quiet hdst hj ho' rfl (some 116) rfl (v := u.agg A0 c) ?_ ?_ ⟨⟨A0, c, D, hf, hD, ?_, ?_, ?_, ?_⟩, hW⟩
      · simp [execOp, go_sem, evt e11]
      · unfold F24; simp
      · rw [getD_set_ne false (by decide), eval_put_ne a 116 115 _ (by decide)]; exact g10
      · rw [getD_set_ne false (by decide), eval_put_ne a 116 104 _ (by decide)]; exact g11
      · intro _
        exact eval_put_same _ _ _ (by rw [h.sz, hsz]; decide)
      · rw [getD_set_ne false (by decide), getD_set_ne false (by decide), eval_put_ne a 116 18 _ (by decide)]; exact g14
    · obtain rfl := Option.some.inj ho'
      have l11 : listed.getD 11 false = true := hd { on := 11, ground := .data } (by simp) rfl
      have e11 : ∃ A0 c, a.eval (.tmp 104) = tupV u n A0 c := by
        obtain ⟨A0, c, D, hf, hD, g10, g11, g12, g14⟩ := hG
        exact ⟨A0, c, g11 l11⟩
      obtain ⟨A0, c, e11⟩ := e11
      refine h.quiet hdst hj ho' rfl (some 117) rfl (v := .int .i64 n) ?_ ?_ ⟨hG.keep (Fr.refl _ _) (by decide) (by decide) (by decide) (by decide) (by decide) (by decide) (by decide) (by decide) (by decide), hW⟩
      · simp [execOp, go_sem, evt e11]
      · unfold F24; simp
    · obtain rfl := Option.some.inj ho'
      have hz := zero_Value
      refine h.value hdst hj ho' rfl (some 18) rfl (v := .pointer (some ⟨W.heap.size, 0, none⟩)) (w' := W.alloc (.cells zero5.toArray 37)) ?_ (fun _ _ h => h) (fun _ _ => ?_) ⟨?_, hW.alloc _⟩
      · simp [execOp, go_sem, hz]
      · unfold F24; simp
      · obtain ⟨A0, c, D, hf, hD, g10, g11, g12, g14⟩ := hG
        have n14 : listed.getD 14 false = false := by
          rw [Array.getD_eq_getD_getElem?, Array.getElem?_eq_getElem (show 14 < listed.size by omega)] at h0 ⊢
          exact h0
        have n15 : listed.getD 15 false = false := by
          cases hl : listed.getD 15 false with
          | false => rfl
          | true => rw [← h.cl 15 _ { on := 14, ground := .data } rfl hl (by simp) rfl]; exact n14.symm ▸ rfl
        have hk : Fr none_ W (W.alloc (.cells zero5.toArray 37)) := (Fr.refl _ _).alloc _
        have hs := hk.size
        refine ⟨A0, c, D, hf.alloc _, fun b hb => ⟨(hD b hb).1, by have := (hD b hb).2; omega⟩, ?_, ?_, ?_, ?_⟩
        · rw [getD_set_ne false (by decide), eval_put_ne a 18 115 _ (by decide)]
          intro l
          exact ⟨(g10 l).1, (g10 l).2.fr hk (fun _ _ h => h)⟩
        · rw [getD_set_ne false (by decide), eval_put_ne a 18 104 _ (by decide)]; exact g11
        · rw [getD_set_ne false (by decide), eval_put_ne a 18 116 _ (by decide)]; exact g12
        · rw [getD_set_same (by omega), getD_set_ne (i := 14) (j := 15) false (by decide), n15]
          intro _
          exact ⟨W.heap.size, eval_put_same _ _ _ (by rw [h.sz, hsz]; decide), hf.size, by simp, fun hh => by have := (hD _ hh).2; omega, Blk.new _ _ _⟩
    · obtain rfl := Option.some.inj ho'
      have l12 : listed.getD 12 false = true := hd { on := 12, ground := .data } (by simp) rfl
      have l14 : listed.getD 14 false = true := hd { on := 14, ground := .data } (by simp) rfl
      obtain ⟨A0, c, D, hf, hD, g10, g11, g12, g14⟩ := hG
      have e12 := g12 l12
      obtain ⟨b, eb, hb1, hb2, hb3, hb4⟩ := g14 l14
      have n15 : listed.getD 15 false = false := by
        rw [Array.getD_eq_getD_getElem?, Array.getElem?_eq_getElem (show 15 < listed.size by omega)] at h0 ⊢
        exact h0
      rw [n15] at hb4
      have hfw := hW.size
      have hk : Fr (· = b) W (W.setCells b 0 (u.cells A0 c)) := (Fr.refl _ _).setCells _ _ _ (fun _ => rfl)
      refine h.op hdst hj ho' rfl none rfl fun K hK => ?_
      refine wp_store_mid 37 (.tmp 18) (.tmp 116) rfl b 0 (u.cells A0 c).toArray eb e12 (by simpa using hb4.there 0 5 (by simp [zero5])) rfl (by simp [Value.oneCell']) ?_
      refine hK undef _ (fun _ _ h => h) (fun t e => by cases e) ⟨?_, ?_⟩
      · refine ⟨A0, c, D, hf.setCells b 0 _ (fun hh => by omega), fun b' hb' => ⟨(hD b' hb').1, by have := (hD b' hb').2; have := hk.size; exact Nat.lt_of_lt_of_le (hD b' hb').2 this⟩, ?_, ?_, ?_, ?_⟩
        · rw [getD_set_ne false (by decide)]
          intro l
          exact ⟨(g10 l).1, (g10 l).2.fr hk (fun b' hb' e => by rw [e] at hb'; exact hb3 hb')⟩
        · rw [getD_set_ne false (by decide)]; exact g11
        · rw [getD_set_ne false (by decide)]; exact g12
        · rw [getD_set_ne false (by decide), getD_set_same (by omega)]
          intro _
          exact ⟨b, eb, hb1, Nat.lt_of_lt_of_le hb2 hk.size, hb3, hb4.setCells 0 (u.cells A0 c) (by simp [zero5])⟩
      · exact hW.trans' hk (fun i hi e => by have : i = b := e; omega)
    · obtain rfl := Option.some.inj ho'
      have l13 : listed.getD 13 false = true := hd { on := 13, ground := .data } (by simp) rfl
      have e13 := (h.val 13 117 l13 rfl).2.2.2.2.2.2.2.2.2.2.1 rfl
      refine h.quiet hdst hj ho' rfl (some 19) rfl (v := .int .i64 n) ?_ ?_ ⟨hG.keep (Fr.refl _ _) (by decide) (by decide) (by decide) (by decide) (by decide) (by decide) (by decide) (by decide) (by decide), hW⟩
      · simp [execOp, go_sem, evt e13]
      · unfold F24; simp
  · intro listed a W h hall
    obtain ⟨A0, c, D, hf, hD, g10, g11, g12, g14⟩ := h.g.1
    obtain ⟨b, eb, hb1, hb2, hb3, hb4⟩ := g14 (hall 14 (by decide))
    have e16 := (h.val 16 19 (hall 16 (by decide)) rfl).2.2.2.2.2.2.2.2.2.2.2 rfl
    rw [hall 15 (by decide)] at hb4
    rw [h.back [105, 106, 107, 108, 109, 110, 111, 112, 113, 114, 115, 116, 117, 104, 18, 19] (by kernel_rfl)]
    exact hQ (fun t => a.eval (.tmp t)) W b A0 c hb1 hb4 (((g10 (hall 10 (by decide))).2).mono (fun j hj => ⟨(hD j hj).1, fun e => hb3 (e ▸ hj)⟩)) hf eb e16
def F28 (p ob oo bb bo k i oc bn bcap : Nat) (n : Int) (j : Nat) (v : Value) (w : World) : Prop :=
  (j = 0 → v = .pointer (some ⟨p, 0, none⟩)) ∧ (j = 1 → v = .slice (some ⟨ob, oo, none⟩) 6 oc) ∧ (j = 2 → v = .int .i64 (k : Int)) ∧ (j = 3 → v = .pointer (some ⟨ob, oo + k, none⟩)) ∧ (j = 4 → v = .int .i64 (2 * (k : Int) + 2)) ∧
  (j = 5 → v = .slice (some ⟨bb, bo, none⟩) bn bcap) ∧ (j = 6 → v = .int .i64 (i : Int)) ∧ (j = 7 → v = .pointer (some ⟨bb, bo + i, none⟩)) ∧ (j = 8 → v = .int .i64 (13 + (i : Int))) ∧ (j = 9 → v = (refV (13 + (i : Int))).agg none 0) ∧ (j = 13 → v = .int .i64 n) ∧ (j = 16 → v = .int .i64 n)
set_option maxRecDepth 100000 in
set_option maxHeartbeats 4000000 in
theorem reg28 (a0 : Act) (w : World) (hsz : a0.tmps.size = 191) (p ob oo bb bo k i oc bn bcap : Nat) (u : V) (n : Int) (hk6 : k < 6) (hib : i < bn) (hi60 : (i : Int) < 60)
    (e5 : a0.tmps[5]? = some (.pointer (some ⟨p, 0, none⟩))) (e7 : a0.tmps[7]? = some (.slice (some ⟨ob, oo, none⟩) 6 oc)) (e17 : a0.tmps[17]? = some (.int .i64 (k : Int))) (e8 : a0.tmps[8]? = some (.slice (some ⟨bb, bo, none⟩) bn bcap)) (e16 : a0.tmps[16]? = some (.int .i64 (i : Int)))
    (ho : w.cell? ⟨ob, oo + k, none⟩ = some (.int .i64 (2 * (k : Int) + 2))) (hb : w.cell? ⟨bb, bo + i, none⟩ = some (.int .i64 (13 + (i : Int))))
    (hop : ∀ w', Fr none_ w w' → Calls Try.prog 23 #[.pointer (some ⟨p, 0, none⟩), .int .i64 (2 * (k : Int) + 2), .int .u8 16, (refV (13 + (i : Int))).agg none 0] w' (OwnOut2 w' u n))
    (Q : Exit → Act → World → Prop) (hQ : ∀ (e : Nat → Value) (w' : World) (b : Nat) (A0 : Option Addr) (c : Nat), w.heap.size ≤ b → Blk w' b (u.cells A0 c) 37 → RV w' (fun j => w.heap.size ≤ j ∧ j ≠ b) True u (u.cells A0 c) → Fr none_ w w' →
      e 20 = .pointer (some ⟨b, 0, none⟩) → e 21 = .int .i64 n → Q .normal ⟨[157, 158, 159, 160, 161, 162, 163, 164, 165, 166, 167, 168, 169, 156, 20, 21].foldl (fun acc t => acc.setIfInBounds t (e t)) a0.tmps, a0.defers⟩ w') :
    (Code.region 28 (opsOf Try.f6 28) true).wp Try.prog Q a0 w := by
  have hol := cell_lt ho
  have hbl := cell_lt hb
  obtain ⟨ops, hops⟩ : ∃ ops, ops = opsOf Try.f6 28 := ⟨_, rfl⟩
  rw [← hops]
  conv at hops => rhs; whnf
  have hdst : dstB ops a0.tmps.size = true := by rw [hsz, hops]; kernel_rfl
  subst hops
  refine wp_region_ri (by kernel_rfl) (by kernel_rfl) hdst (F28 p ob oo bb bo k i oc bn bcap n) (fun l a W => GBox w u n 167 156 168 20 l a W ∧ Fr none_ w W) ⟨GBox.start (Fr.refl _ _).drew, (Fr.refl _ _).drew⟩ ?_ ?_
  · intro listed a W j h hj
    obtain ⟨h0, o, ho', hd⟩ := mem_ready.1 hj
    have hlt : j < 17 := (Array.getElem?_eq_some_iff.1 ho').1
    have hG := h.g.1
    have hW := h.g.2
    have hlen : listed.size = 17 := h.len
    rcases (show j = 0 ∨ j = 1 ∨ j = 2 ∨ j = 3 ∨ j = 4 ∨ j = 5 ∨ j = 6 ∨ j = 7 ∨ j = 8 ∨ j = 9 ∨ j = 10 ∨ j = 11 ∨ j = 12 ∨ j = 13 ∨ j = 14 ∨ j = 15 ∨ j = 16 by omega) with rfl | rfl | rfl | rfl | rfl | rfl | rfl | rfl | rfl | rfl | rfl | rfl | rfl | rfl | rfl | rfl | rfl 
    · obtain rfl := Option.some.inj ho'
      have f5 := h.free 5 (by kernel_rfl) e5
      refine h.quiet hdst hj ho' rfl (some 157) rfl (v := .pointer (some ⟨p, 0, none⟩)) ?_ ?_ ⟨hG.keep (Fr.refl _ _) (by decide) (by decide) (by decide) (by decide) (by decide) (by decide) (by decide) (by decide) (by decide), hW⟩
      · simp [execOp, go_sem, evt f5]
      · unfold F28; simp
    · obtain rfl := Option.some.inj ho'
      have f7 := h.free 7 (by kernel_rfl) e7
      refine h.quiet hdst hj ho' rfl (some 158) rfl (v := .slice (some ⟨ob, oo, none⟩) 6 oc) ?_ ?_ ⟨hG.keep (Fr.refl _ _) (by decide) (by decide) (by decide) (by decide) (by decide) (by decide) (by decide) (by decide) (by decide), hW⟩
      · simp [execOp, go_sem, evt f7]
      · unfold F28; simp
    · obtain rfl := Option.some.inj ho'
      have f17 := h.free 17 (by kernel_rfl) e17
      refine h.quiet hdst hj ho' rfl (some 159) rfl (v := .int .i64 (k : Int)) ?_ ?_ ⟨hG.keep (Fr.refl _ _) (by decide) (by decide) (by decide) (by decide) (by decide) (by decide) (by decide) (by decide) (by decide), hW⟩
      · simp [execOp, go_sem, evt f17]
      · unfold F28; simp
    · obtain rfl := Option.some.inj ho'
      have l1 : listed.getD 1 false = true := hd { on := 1, ground := .data } (by simp) rfl
      have l2 : listed.getD 2 false = true := hd { on := 2, ground := .data } (by simp) rfl
      have e1 := (h.val 1 158 l1 rfl).2.1 rfl
      have e2 := (h.val 2 159 l2 rfl).2.2.1 rfl
      refine h.quiet hdst hj ho' rfl (some 160) rfl (v := .pointer (some ⟨ob, oo + k, none⟩)) ?_ ?_ ⟨hG.keep (Fr.refl _ _) (by decide) (by decide) (by decide) (by decide) (by decide) (by decide) (by decide) (by decide) (by decide), hW⟩
      · have hk1 : (0 : Int) ≤ (k : Int) := by omega
        have hk2 : (k : Int) < 6 := by omega
        simp [execOp, go_sem, evt e1, evt e2, Try.underlying40, hk1, hk2, hk6]
      · unfold F28; simp
    · obtain rfl := Option.some.inj ho'
      have l3 : listed.getD 3 false = true := hd { on := 3, ground := .data } (by simp) rfl
      have e3 := (h.val 3 160 l3 rfl).2.2.2.1 rfl
      have ho2 : W.cell? ⟨ob, oo + k, none⟩ = some (.int .i64 (2 * (k : Int) + 2)) := cell_keep (fun hb => hW.block ob hb (fun h => h)) ho
      refine h.quiet hdst hj ho' rfl (some 161) rfl (v := .int .i64 (2 * (k : Int) + 2)) ?_ ?_ ⟨hG.keep (Fr.refl _ _) (by decide) (by decide) (by decide) (by decide) (by decide) (by decide) (by decide) (by decide) (by decide), hW⟩
      · simp [execOp, go_sem, evt e3, ho2, Try.underlying28]
      · unfold F28; simp
    · obtain rfl := Option.some.inj ho'
      have f8 := h.free 8 (by kernel_rfl) e8
      refine h.quiet hdst hj ho' rfl (some 162) rfl (v := .slice (some ⟨bb, bo, none⟩) bn bcap) ?_ ?_ ⟨hG.keep (Fr.refl _ _) (by decide) (by decide) (by decide) (by decide) (by decide) (by decide) (by decide) (by decide) (by decide), hW⟩
      · simp [execOp, go_sem, evt f8]
      · unfold F28; simp
    · obtain rfl := Option.some.inj ho'
      have f16 := h.free 16 (by kernel_rfl) e16
      refine h.quiet hdst hj ho' rfl (some 163) rfl (v := .int .i64 (i : Int)) ?_ ?_ ⟨hG.keep (Fr.refl _ _) (by decide) (by decide) (by decide) (by decide) (by decide) (by decide) (by decide) (by decide) (by decide), hW⟩
      · simp [execOp, go_sem, evt f16]
      · unfold F28; simp
    · obtain rfl := Option.some.inj ho'
      have l5 : listed.getD 5 false = true := hd { on := 5, ground := .data } (by simp) rfl
      have l6 : listed.getD 6 false = true := hd { on := 6, ground := .data } (by simp) rfl
      have e5 := (h.val 5 162 l5 rfl).2.2.2.2.2.1 rfl
      have e6 := (h.val 6 163 l6 rfl).2.2.2.2.2.2.1 rfl
      refine h.quiet hdst hj ho' rfl (some 164) rfl (v := .pointer (some ⟨bb, bo + i, none⟩)) ?_ ?_ ⟨hG.keep (Fr.refl _ _) (by decide) (by decide) (by decide) (by decide) (by decide) (by decide) (by decide) (by decide) (by decide), hW⟩
      · have hk1 : (0 : Int) ≤ (i : Int) := by omega
        have hk2 : (i : Int) < (bn : Int) := by omega
        simp [execOp, go_sem, evt e5, evt e6, Try.underlying40, hk1, hk2, hib]
      · unfold F28; simp
    · obtain rfl := Option.some.inj ho'
      have l7 : listed.getD 7 false = true := hd { on := 7, ground := .data } (by simp) rfl
      have e7 := (h.val 7 164 l7 rfl).2.2.2.2.2.2.2.1 rfl
      have ho2 : W.cell? ⟨bb, bo + i, none⟩ = some (.int .i64 (13 + (i : Int))) := cell_keep (fun hb => hW.block bb hb (fun h => h)) hb
      refine h.quiet hdst hj ho' rfl (some 165) rfl (v := .int .i64 (13 + (i : Int))) ?_ ?_ ⟨hG.keep (Fr.refl _ _) (by decide) (by decide) (by decide) (by decide) (by decide) (by decide) (by decide) (by decide) (by decide), hW⟩
      · simp [execOp, go_sem, evt e7, ho2, Try.underlying28]
      · unfold F28; simp
    · obtain rfl := Option.some.inj ho'
      have l8 : listed.getD 8 false = true := hd { on := 8, ground := .data } (by simp) rfl
      have e8 := (h.val 8 165 l8 rfl).2.2.2.2.2.2.2.2.1 rfl
      refine h.call hdst hj ho' rfl (some 166) rfl 19 _ _ _ #[.int .i64 (13 + (i : Int))] rfl Try.func19 (by kernel_rfl) rfl (by simp [Act.eval, evt e8]) (hold_any _ _) ?_
      rintro e w1 ⟨rfl, hf1⟩
      exact ⟨_, rfl, fun _ _ h => h, fun _ _ => (by unfold F28; simp), hG.keep hf1 (by decide) (by decide) (by decide) (by decide) (by decide) (by decide) (by decide) (by decide) (by decide), hW.trans hf1⟩
    · obtain rfl := Option.some.inj ho'
      have l0 : listed.getD 0 false = true := hd { on := 0, ground := .data } (by simp) rfl
      have l4 : listed.getD 4 false = true := hd { on := 4, ground := .data } (by simp) rfl
      have l9 : listed.getD 9 false = true := hd { on := 9, ground := .data } (by simp) rfl
      have e0 := (h.val 0 157 l0 rfl).1 rfl
      have e4 := (h.val 4 161 l4 rfl).2.2.2.2.1 rfl
      have e9 := (h.val 9 166 l9 rfl).2.2.2.2.2.2.2.2.2.1 rfl
      refine h.call hdst hj ho' rfl (some 167) rfl 23 _ _ _ #[.pointer (some ⟨p, 0, none⟩), .int .i64 (2 * (k : Int) + 2), .int .u8 16, (refV (13 + (i : Int))).agg none 0] rfl Try.func23 (by kernel_rfl) rfl (by simp [evt e0, evt e4, evt e9, Act.eval]) (hop W hW) ?_
      rintro e w1 ⟨A2, c2, rfl, hu, hf1⟩
      refine ⟨_, rfl, fun _ _ h => h, fun _ _ => (by unfold F28; simp), ?_, hW.trans hf1⟩
      obtain ⟨A0, c, D, hf, hD, g10, g11, g12, g14⟩ := hG
      have hs := hf1.size
      have hs0 := hf.size
      have n10 : listed.getD 10 false = false := by
        rw [Array.getD_eq_getD_getElem?, Array.getElem?_eq_getElem (show 10 < listed.size by omega)] at h0 ⊢
        exact h0
      have n11 : listed.getD 11 false = false := by
        cases hl : listed.getD 11 false with
        | false => rfl
        | true => rw [← h.cl 11 _ { on := 10, ground := .data } rfl hl (by simp) rfl]; exact n10.symm ▸ rfl
      have n12 : listed.getD 12 false = false := by
        cases hl : listed.getD 12 false with
        | false => rfl
        | true => rw [← h.cl 12 _ { on := 11, ground := .data } rfl hl (by simp) rfl]; exact n11.symm ▸ rfl
      have n15 : listed.getD 15 false = false := by
        cases hl : listed.getD 15 false with
        | false => rfl
        | true => rw [← h.cl 15 _ { on := 12, ground := .data } rfl hl (by simp) rfl]; exact n12.symm ▸ rfl
      refine ⟨A2, c2, fun b => W.heap.size ≤ b ∧ b < w1.heap.size, hf.trans hf1, fun b hb => ⟨by omega, hb.2⟩, ?_, ?_, ?_, ?_⟩
      · intro _
        exact ⟨eval_put_same _ _ _ (by rw [h.sz, hsz]; decide), hu.weak id⟩
      · rw [getD_set_ne false (by decide), n11]; intro e; cases e
      · rw [getD_set_ne false (by decide), n12]; intro e; cases e
      · rw [getD_set_ne false (by decide), getD_set_ne false (by decide), eval_put_ne a 167 20 _ (by decide)]
        intro l
        obtain ⟨b, e, h1, h2, h3, h4⟩ := g14 l
        rw [n15] at h4 ⊢
        exact ⟨b, e, h1, by omega, fun h => by omega, h4.keep hf1 (fun h => h)⟩
    · obtain rfl := Option.some.inj ho'
      have l10 : listed.getD 10 false = true := hd { on := 10, ground := .data } (by simp) rfl
      obtain ⟨A0, c, D, hf, hD, g10, g11, g12, g14⟩ := hG
      have e10 := (g10 l10).1
      refine h.quiet hdst hj ho' rfl (some 156) rfl (v := tupV u n A0 c) ?_ ?_ ⟨⟨A0, c, D, hf, hD, ?_, ?_, ?_, ?_⟩, hW⟩
      · simp [execOp, go_sem, evt e10]
      · unfold F28; simp
      · rw [getD_set_ne false (by decide), eval_put_ne a 156 167 _ (by decide)]; exact g10
      · intro _
        exact eval_put_same _ _ _ (by rw [h.sz, hsz]; decide)
      · rw [getD_set_ne false (by decide), eval_put_ne a 156 168 _ (by decide)]; exact g12
      · rw [getD_set_ne false (by decide), getD_set_ne false (by decide), eval_put_ne a 156 20 _ (by decide)]; exact g14
    · obtain rfl := Option.some.inj ho'
      have l11 : listed.getD 11 false = true := hd { on := 11, ground := .data } (by simp) rfl
      obtain ⟨A0, c, D, hf, hD, g10, g11, g12, g14⟩ := hG
      have e11 := g11 l11
      refine h.quiet hdst hj ho' rfl (some 168) rfl (v := u.agg A0 c) ?_ ?_ ⟨⟨A0, c, D, hf, hD, ?_, ?_, ?_, ?_⟩, hW⟩
      · simp [execOp, go_sem, evt e11]
      · unfold F28; simp
      · rw [getD_set_ne false (by decide), eval_put_ne a 168 167 _ (by decide)]; exact g10
      · rw [getD_set_ne false (by decide), eval_put_ne a 168 156 _ (by decide)]; exact g11
      · intro _
        exact eval_put_same _ _ _ (by rw [h.sz, hsz]; decide)
      · rw [getD_set_ne false (by decide), getD_set_ne false (by decide), eval_put_ne a 168 20 _ (by decide)]; exact g14
    · obtain rfl := Option.some.inj ho'
      have l11 : listed.getD 11 false = true := hd { on := 11, ground := .data } (by simp) rfl
      have e11 : ∃ A0 c, a.eval (.tmp 156) = tupV u n A0 c := by
        obtain ⟨A0, c, D, hf, hD, g10, g11, g12, g14⟩ := hG
        exact ⟨A0, c, g11 l11⟩
      obtain ⟨A0, c, e11⟩ := e11
      refine h.quiet hdst hj ho' rfl (some 169) rfl (v := .int .i64 n) ?_ ?_ ⟨hG.keep (Fr.refl _ _) (by decide) (by decide) (by decide) (by decide) (by decide) (by decide) (by decide) (by decide) (by decide), hW⟩
      · simp [execOp, go_sem, evt e11]
      · unfold F28; simp
    · obtain rfl := Option.some.inj ho'
      have hz := zero_Value
      refine h.value hdst hj ho' rfl (some 20) rfl (v := .pointer (some ⟨W.heap.size, 0, none⟩)) (w' := W.alloc (.cells zero5.toArray 37)) ?_ (fun _ _ h => h) (fun _ _ => ?_) ⟨?_, hW.alloc _⟩
      · simp [execOp, go_sem, hz]
      · unfold F28; simp
      · obtain ⟨A0, c, D, hf, hD, g10, g11, g12, g14⟩ := hG
        have n14 : listed.getD 14 false = false := by
          rw [Array.getD_eq_getD_getElem?, Array.getElem?_eq_getElem (show 14 < listed.size by omega)] at h0 ⊢
          exact h0
        have n15 : listed.getD 15 false = false := by
          cases hl : listed.getD 15 false with
          | false => rfl
          | true => rw [← h.cl 15 _ { on := 14, ground := .data } rfl hl (by simp) rfl]; exact n14.symm ▸ rfl
        have hk : Fr none_ W (W.alloc (.cells zero5.toArray 37)) := (Fr.refl _ _).alloc _
        have hs := hk.size
        refine ⟨A0, c, D, hf.alloc _, fun b hb => ⟨(hD b hb).1, by have := (hD b hb).2; omega⟩, ?_, ?_, ?_, ?_⟩
        · rw [getD_set_ne false (by decide), eval_put_ne a 20 167 _ (by decide)]
          intro l
          exact ⟨(g10 l).1, (g10 l).2.fr hk (fun _ _ h => h)⟩
        · rw [getD_set_ne false (by decide), eval_put_ne a 20 156 _ (by decide)]; exact g11
        · rw [getD_set_ne false (by decide), eval_put_ne a 20 168 _ (by decide)]; exact g12
        · rw [getD_set_same (by omega), getD_set_ne (i := 14) (j := 15) false (by decide), n15]
          intro _
          exact ⟨W.heap.size, eval_put_same _ _ _ (by rw [h.sz, hsz]; decide), hf.size, by simp, fun hh => by have := (hD _ hh).2; omega, Blk.new _ _ _⟩
    · obtain rfl := Option.some.inj ho'
      have l12 : listed.getD 12 false = true := hd { on := 12, ground := .data } (by simp) rfl
      have l14 : listed.getD 14 false = true := hd { on := 14, ground := .data } (by simp) rfl
      obtain ⟨A0, c, D, hf, hD, g10, g11, g12, g14⟩ := hG
      have e12 := g12 l12
      obtain ⟨b, eb, hb1, hb2, hb3, hb4⟩ := g14 l14
      have n15 : listed.getD 15 false = false := by
        rw [Array.getD_eq_getD_getElem?, Array.getElem?_eq_getElem (show 15 < listed.size by omega)] at h0 ⊢
        exact h0
      rw [n15] at hb4
      have hfw := hW.size
      have hk : Fr (· = b) W (W.setCells b 0 (u.cells A0 c)) := (Fr.refl _ _).setCells _ _ _ (fun _ => rfl)
      refine h.op hdst hj ho' rfl none rfl fun K hK => ?_
      refine wp_store_mid 37 (.tmp 20) (.tmp 168) rfl b 0 (u.cells A0 c).toArray eb e12 (by simpa using hb4.there 0 5 (by simp [zero5])) rfl (by simp [Value.oneCell']) ?_
      refine hK undef _ (fun _ _ h => h) (fun t e => by cases e) ⟨?_, ?_⟩
      · refine ⟨A0, c, D, hf.setCells b 0 _ (fun hh => by omega), fun b' hb' => ⟨(hD b' hb').1, by have := (hD b' hb').2; have := hk.size; exact Nat.lt_of_lt_of_le (hD b' hb').2 this⟩, ?_, ?_, ?_, ?_⟩
        · rw [getD_set_ne false (by decide)]
          intro l
          exact ⟨(g10 l).1, (g10 l).2.fr hk (fun b' hb' e => by rw [e] at hb'; exact hb3 hb')⟩
        · rw [getD_set_ne false (by decide)]; exact g11
        · rw [getD_set_ne false (by decide)]; exact g12
        · rw [getD_set_ne false (by decide), getD_set_same (by omega)]
          intro _
          exact ⟨b, eb, hb1, Nat.lt_of_lt_of_le hb2 hk.size, hb3, hb4.setCells 0 (u.cells A0 c) (by simp [zero5])⟩
      · exact hW.trans' hk (fun i hi e => by have : i = b := e; omega)
    · obtain rfl := Option.some.inj ho'
      have l13 : listed.getD 13 false = true := hd { on := 13, ground := .data } (by simp) rfl
      have e13 := (h.val 13 169 l13 rfl).2.2.2.2.2.2.2.2.2.2.1 rfl
      refine h.quiet hdst hj ho' rfl (some 21) rfl (v := .int .i64 n) ?_ ?_ ⟨hG.keep (Fr.refl _ _) (by decide) (by decide) (by decide) (by decide) (by decide) (by decide) (by decide) (by decide) (by decide), hW⟩
      · simp [execOp, go_sem, evt e13]
      · unfold F28; simp
  · intro listed a W h hall
    obtain ⟨A0, c, D, hf, hD, g10, g11, g12, g14⟩ := h.g.1
    obtain ⟨b, eb, hb1, hb2, hb3, hb4⟩ := g14 (hall 14 (by decide))
    have e16 := (h.val 16 21 (hall 16 (by decide)) rfl).2.2.2.2.2.2.2.2.2.2.2 rfl
    rw [hall 15 (by decide)] at hb4
    rw [h.back [157, 158, 159, 160, 161, 162, 163, 164, 165, 166, 167, 168, 169, 156, 20, 21] (by kernel_rfl)]
    exact hQ (fun t => a.eval (.tmp t)) W b A0 c hb1 hb4 (((g10 (hall 10 (by decide))).2).mono (fun j hj => ⟨(hD j hj).1, fun e => hb3 (e ▸ hj)⟩)) hf eb e16
end Go.Proofs.Ytpgjbbefgacjkaa

/- Region 17 of 'SealSealed': a box, its pair, what it holds are appended to three rows. -/
namespace Go.Proofs.Ytpgjbbefgacjkaa
open Go.RowKit
set_option linter.unusedSimpArgs false
set_option linter.unusedVariables false
set_option linter.unusedSectionVars false
theorem rep_false' (k i : Nat) : (Array.replicate k false).getD i false = false := by
  rw [Array.getD_eq_getD_getElem?, Array.getElem?_replicate]
  split <;> rfl
theorem eval_put_o (a : Act) (d : Option Nat) (j : Nat) (v : Value) (h : d ≠ some j) : (a.put d v).eval (.tmp j) = a.eval (.tmp j) := by
  cases d with
  | none => rfl
  | some d => simp [Act.eval, Act.put, show d ≠ j from fun e => h (by rw [e])]
theorem eval_put_s (a : Act) (d : Nat) (v : Value) (h : d < a.tmps.size) : (a.put (some d) v).eval (.tmp d) = v := by
  simp [Act.eval, Act.put, h]
theorem evt' {a : Act} {t : Nat} {v : Value} (h : a.eval (.tmp t) = v) : a.tmps[t]?.getD undef = v := by
  rw [← h]
  simp [Act.eval]
/-- A row, as it was or with its new element. d: it has been appended to; x: what append told. -/
def RowB (n0 B : Nat) (e : TypeId) (s : Nat) (v : Value) (n : Nat) (xs news : List Value) (d : Bool) (x : Value) (w : World) : Prop :=
  if d = true then ∃ g c, x = .slice (some ⟨g, 0, none⟩) (n + 1) c ∧ w.ownsRow B e s x (n + 1) (xs ++ news) ∧ (v.ownBlock = some g ∨ n0 ≤ g) else w.ownsRow B e s v n xs
theorem RowB.keep {n0 B : Nat} {e : TypeId} {s : Nat} {v : Value} {n : Nat} {xs news : List Value} {d : Bool} {x : Value} {w w' : World} {S : Nat → Prop} (h : RowB n0 B e s v n xs news d x w) (k : Fr S w w') (h1 : ∀ b, S b → b < n0) (h2 : ∀ b, S b → v.ownBlock ≠ some b) : RowB n0 B e s v n xs news d x w' := by
  unfold RowB at h ⊢
  split
  · rename_i hd
    rw [if_pos hd] at h
    obtain ⟨g, c, rfl, ho, hg⟩ := h
    refine ⟨g, c, rfl, ownsRow_keep ho k (fun b hb hS => ?_), hg⟩
    injection hb with hb
    have hb : g = b := hb
    subst hb
    rcases hg with hg | hg
    · exact h2 _ hS hg
    · have := h1 _ hS; omega
  · rename_i hd
    rw [if_neg hd] at h
    exact ownsRow_keep h k (fun b hb hS => h2 _ hS hb)
/-- One element in a block of its own. -/
def NewB (n0 : Nat) (cs : List Value) (e : TypeId) (x : Value) (w : World) : Prop := ∃ b, x = .slice (some ⟨b, 0, none⟩) 1 1 ∧ n0 ≤ b ∧ Blk w b cs e
theorem NewB.keep {n0 : Nat} {cs : List Value} {e : TypeId} {x : Value} {w w' : World} {S : Nat → Prop} (h : NewB n0 cs e x w) (k : Fr S w w') (h1 : ∀ b, S b → b < n0) : NewB n0 cs e x w' := by
  obtain ⟨b, h2, h3, h4⟩ := h
  exact ⟨b, h2, h3, h4.keep k (fun hS => by have := h1 _ hS; omega)⟩
structure GApp (w0 : World) (B : Nat) (v8 v9 v10 : Value) (n : Nat) (xs8 xs9 xs10 : List Value) (y8 y9 : Value) (cs : List Value) (listed : Array Bool) (a : Act) (w : World) : Prop where
  fr : Fr (fun b => v8.ownBlock = some b ∨ v9.ownBlock = some b ∨ v10.ownBlock = some b) w0 w
  b8 : listed.getD 2 false = true → NewB w0.heap.size [y8] 28 (a.eval (.tmp 84)) w
  b9 : listed.getD 6 false = true → NewB w0.heap.size [y9] 3 (a.eval (.tmp 88)) w
  b10 : listed.getD 10 false = true → NewB w0.heap.size cs 37 (a.eval (.tmp 92)) w
  r8 : RowB w0.heap.size B 28 1 v8 n xs8 [y8] (listed.getD 3 false) (a.eval (.tmp 85)) w
  r9 : RowB w0.heap.size B 3 1 v9 n xs9 [y9] (listed.getD 7 false) (a.eval (.tmp 89)) w
  r10 : RowB w0.heap.size B 37 5 v10 n xs10 cs (listed.getD 11 false) (a.eval (.tmp 93)) w
  n1 : listed.getD 3 false = true → listed.getD 7 false = true → (a.eval (.tmp 85)).ownBlock ≠ (a.eval (.tmp 89)).ownBlock
  n2 : listed.getD 3 false = true → listed.getD 11 false = true → (a.eval (.tmp 85)).ownBlock ≠ (a.eval (.tmp 93)).ownBlock
  n3 : listed.getD 7 false = true → listed.getD 11 false = true → (a.eval (.tmp 89)).ownBlock ≠ (a.eval (.tmp 93)).ownBlock
  c8 : listed.getD 12 false = true → a.eval (.tmp 8) = a.eval (.tmp 85)
  c9 : listed.getD 13 false = true → a.eval (.tmp 9) = a.eval (.tmp 89)
  c10 : listed.getD 14 false = true → a.eval (.tmp 10) = a.eval (.tmp 93)
def FApp (v8 v9 v10 : Value) (y8 y9 : Value) (cs : List Value) (j : Nat) (v : Value) (w : World) : Prop :=
  (j = 0 → v = v8) ∧ (j = 1 → v = y8) ∧ (j = 4 → v = v9) ∧ (j = 5 → v = y9) ∧ (j = 8 → v = v10) ∧ (j = 9 → v = .agg cs.toArray)
section
variable {w0 : World} {B : Nat} {v8 v9 v10 : Value} {n : Nat} {xs8 xs9 xs10 : List Value} {y8 y9 : Value} {cs : List Value}
theorem GApp.start {w : World} {k : Nat} {a : Act} (hf : Fr none_ w0 w) (h8 : w.ownsRow B 28 1 v8 n xs8) (h9 : w.ownsRow B 3 1 v9 n xs9) (h10 : w.ownsRow B 37 5 v10 n xs10) : GApp w0 B v8 v9 v10 n xs8 xs9 xs10 y8 y9 cs (Array.replicate k false) a w := by
  refine { fr := hf.mono (fun _ _ h => h.elim), b8 := ?_, b9 := ?_, b10 := ?_, r8 := ?_, r9 := ?_, r10 := ?_, n1 := ?_, n2 := ?_, n3 := ?_, c8 := ?_, c9 := ?_, c10 := ?_ } <;> (try unfold RowB) <;> simp only [rep_false'] <;> first | exact h8 | exact h9 | exact h10 | (intro h; cases h)
/-- Another operation has been done, that moves nothing of these but new memory. -/
theorem GApp.keep {listed : Array Bool} {a : Act} {w w' : World} {i : Nat} {d : Nat} {v : Value} (h : GApp w0 B v8 v9 v10 n xs8 xs9 xs10 y8 y9 cs listed a w) (k : Fr none_ w w') (hi : i ∉ [2, 3, 6, 7, 10, 11, 12, 13, 14]) (hd : d ∉ [84, 88, 92, 85, 89, 93, 8, 9, 10]) : GApp w0 B v8 v9 v10 n xs8 xs9 xs10 y8 y9 cs (listed.setIfInBounds i true) (a.put (some d) v) w' := by
  have hi' : ∀ j, j ∈ [2, 3, 6, 7, 10, 11, 12, 13, 14] → (listed.setIfInBounds i true).getD j false = listed.getD j false := fun j hj => getD_set_ne false (fun e => hi (by rw [e]; exact hj))
  have hd' : ∀ j, j ∈ [84, 88, 92, 85, 89, 93, 8, 9, 10] → (a.put (some d) v).eval (.tmp j) = a.eval (.tmp j) := fun j hj => eval_put_o _ _ _ _ (fun e => hd (by injection e with e; rw [e]; exact hj))
  refine { fr := h.fr.trans (k.mono (fun _ _ h => h.elim)), b8 := ?_, b9 := ?_, b10 := ?_, r8 := ?_, r9 := ?_, r10 := ?_, n1 := ?_, n2 := ?_, n3 := ?_, c8 := ?_, c9 := ?_, c10 := ?_ }
  · rw [hi' 2 (by decide), hd' 84 (by decide)]; exact fun l => (h.b8 l).keep k (fun _ h => h.elim)
  · rw [hi' 6 (by decide), hd' 88 (by decide)]; exact fun l => (h.b9 l).keep k (fun _ h => h.elim)
  · rw [hi' 10 (by decide), hd' 92 (by decide)]; exact fun l => (h.b10 l).keep k (fun _ h => h.elim)
  · rw [hi' 3 (by decide), hd' 85 (by decide)]; exact h.r8.keep k (fun _ h => h.elim) (fun _ h => h.elim)
  · rw [hi' 7 (by decide), hd' 89 (by decide)]; exact h.r9.keep k (fun _ h => h.elim) (fun _ h => h.elim)
  · rw [hi' 11 (by decide), hd' 93 (by decide)]; exact h.r10.keep k (fun _ h => h.elim) (fun _ h => h.elim)
  · rw [hi' 3 (by decide), hi' 7 (by decide), hd' 85 (by decide), hd' 89 (by decide)]; exact h.n1
  · rw [hi' 3 (by decide), hi' 11 (by decide), hd' 85 (by decide), hd' 93 (by decide)]; exact h.n2
  · rw [hi' 7 (by decide), hi' 11 (by decide), hd' 89 (by decide), hd' 93 (by decide)]; exact h.n3
  · rw [hi' 12 (by decide), hd' 8 (by decide), hd' 85 (by decide)]; exact h.c8
  · rw [hi' 13 (by decide), hd' 9 (by decide), hd' 89 (by decide)]; exact h.c9
  · rw [hi' 14 (by decide), hd' 10 (by decide), hd' 93 (by decide)]; exact h.c10
theorem apart {n0 : Nat} {e : TypeId} {s : Nat} {v v' x y : Value} {xs news : List Value} {w : World} {g c : Nat} (h : RowB n0 B e s v n xs news true x w) (hy : y = .slice (some ⟨g, 0, none⟩) (n + 1) c) (hg : v'.ownBlock = some g ∨ g = w.heap.size) (k : ∀ b, v'.ownBlock = some b → v.ownBlock ≠ some b) (hlt : ∀ b, v'.ownBlock = some b → b < n0) : x.ownBlock ≠ y.ownBlock := by
  unfold RowB at h
  rw [if_pos rfl] at h
  obtain ⟨g', c', rfl, ho, hg'⟩ := h
  subst hy
  intro e
  have e : some g' = some g := e
  injection e with e
  subst e
  have hl := (ownsRow_ge ho g' rfl).2
  rcases hg with hg | hg
  · rcases hg' with h1 | h1
    · exact k _ hg h1
    · have := hlt _ hg; omega
  · omega
theorem GApp.step2 {listed : Array Bool} {a : Act} {w w' : World} {v : Value} (h : GApp w0 B v8 v9 v10 n xs8 xs9 xs10 y8 y9 cs listed a w) (hs : listed.size = 15) (hz : a.tmps.size = 191) (k : Fr (fun b => v8.ownBlock = some b ∨ v9.ownBlock = some b ∨ v10.ownBlock = some b) w w' ∧ Fr none_ w w') (hv : NewB w0.heap.size [y8] 28 v w') : GApp w0 B v8 v9 v10 n xs8 xs9 xs10 y8 y9 cs (listed.setIfInBounds 2 true) (a.put (some 84) v) w' := by
  have hi' : ∀ j, 2 ≠ j → (listed.setIfInBounds 2 true).getD j false = listed.getD j false := fun j hj => getD_set_ne false hj
  have hd' : ∀ j, 84 ≠ j → (a.put (some 84) v).eval (.tmp j) = a.eval (.tmp j) := fun j hj => eval_put_o _ _ _ _ (fun e => hj (by injection e))
  have hi0 : (listed.setIfInBounds 2 true).getD 2 false = true := by simp [hs]
  have hd0 : (a.put (some 84) v).eval (.tmp 84) = v := eval_put_s _ _ _ (by omega)
  have k1 : ∀ b, none_ b → b < w0.heap.size := fun _ h => h.elim
  have k8 : ∀ b, none_ b → v8.ownBlock ≠ some b := fun _ h => h.elim
  have k9 : ∀ b, none_ b → v9.ownBlock ≠ some b := fun _ h => h.elim
  have k10 : ∀ b, none_ b → v10.ownBlock ≠ some b := fun _ h => h.elim
  refine { fr := ?_, b8 := ?_, b9 := ?_, b10 := ?_, r8 := ?_, r9 := ?_, r10 := ?_, n1 := ?_, n2 := ?_, n3 := ?_, c8 := ?_, c9 := ?_, c10 := ?_ }
  · exact h.fr.trans k.1
  · rw [hi0, hd0]; exact fun _ => hv
  · rw [hi' 6 (by decide), hd' 88 (by decide)]; exact fun l => (h.b9 l).keep k.2 k1
  · rw [hi' 10 (by decide), hd' 92 (by decide)]; exact fun l => (h.b10 l).keep k.2 k1
  · rw [hi' 3 (by decide), hd' 85 (by decide)]; exact h.r8.keep k.2 k1 k8
  · rw [hi' 7 (by decide), hd' 89 (by decide)]; exact h.r9.keep k.2 k1 k9
  · rw [hi' 11 (by decide), hd' 93 (by decide)]; exact h.r10.keep k.2 k1 k10
  · rw [hi' 3 (by decide), hi' 7 (by decide), hd' 85 (by decide), hd' 89 (by decide)]; exact h.n1
  · rw [hi' 3 (by decide), hi' 11 (by decide), hd' 85 (by decide), hd' 93 (by decide)]; exact h.n2
  · rw [hi' 7 (by decide), hi' 11 (by decide), hd' 89 (by decide), hd' 93 (by decide)]; exact h.n3
  · rw [hi' 12 (by decide), hd' 8 (by decide), hd' 85 (by decide)]; exact h.c8
  · rw [hi' 13 (by decide), hd' 9 (by decide), hd' 89 (by decide)]; exact h.c9
  · rw [hi' 14 (by decide), hd' 10 (by decide), hd' 93 (by decide)]; exact h.c10
theorem GApp.step6 {listed : Array Bool} {a : Act} {w w' : World} {v : Value} (h : GApp w0 B v8 v9 v10 n xs8 xs9 xs10 y8 y9 cs listed a w) (hs : listed.size = 15) (hz : a.tmps.size = 191) (k : Fr (fun b => v8.ownBlock = some b ∨ v9.ownBlock = some b ∨ v10.ownBlock = some b) w w' ∧ Fr none_ w w') (hv : NewB w0.heap.size [y9] 3 v w') : GApp w0 B v8 v9 v10 n xs8 xs9 xs10 y8 y9 cs (listed.setIfInBounds 6 true) (a.put (some 88) v) w' := by
  have hi' : ∀ j, 6 ≠ j → (listed.setIfInBounds 6 true).getD j false = listed.getD j false := fun j hj => getD_set_ne false hj
  have hd' : ∀ j, 88 ≠ j → (a.put (some 88) v).eval (.tmp j) = a.eval (.tmp j) := fun j hj => eval_put_o _ _ _ _ (fun e => hj (by injection e))
  have hi0 : (listed.setIfInBounds 6 true).getD 6 false = true := by simp [hs]
  have hd0 : (a.put (some 88) v).eval (.tmp 88) = v := eval_put_s _ _ _ (by omega)
  have k1 : ∀ b, none_ b → b < w0.heap.size := fun _ h => h.elim
  have k8 : ∀ b, none_ b → v8.ownBlock ≠ some b := fun _ h => h.elim
  have k9 : ∀ b, none_ b → v9.ownBlock ≠ some b := fun _ h => h.elim
  have k10 : ∀ b, none_ b → v10.ownBlock ≠ some b := fun _ h => h.elim
  refine { fr := ?_, b8 := ?_, b9 := ?_, b10 := ?_, r8 := ?_, r9 := ?_, r10 := ?_, n1 := ?_, n2 := ?_, n3 := ?_, c8 := ?_, c9 := ?_, c10 := ?_ }
  · exact h.fr.trans k.1
  · rw [hi' 2 (by decide), hd' 84 (by decide)]; exact fun l => (h.b8 l).keep k.2 k1
  · rw [hi0, hd0]; exact fun _ => hv
  · rw [hi' 10 (by decide), hd' 92 (by decide)]; exact fun l => (h.b10 l).keep k.2 k1
  · rw [hi' 3 (by decide), hd' 85 (by decide)]; exact h.r8.keep k.2 k1 k8
  · rw [hi' 7 (by decide), hd' 89 (by decide)]; exact h.r9.keep k.2 k1 k9
  · rw [hi' 11 (by decide), hd' 93 (by decide)]; exact h.r10.keep k.2 k1 k10
  · rw [hi' 3 (by decide), hi' 7 (by decide), hd' 85 (by decide), hd' 89 (by decide)]; exact h.n1
  · rw [hi' 3 (by decide), hi' 11 (by decide), hd' 85 (by decide), hd' 93 (by decide)]; exact h.n2
  · rw [hi' 7 (by decide), hi' 11 (by decide), hd' 89 (by decide), hd' 93 (by decide)]; exact h.n3
  · rw [hi' 12 (by decide), hd' 8 (by decide), hd' 85 (by decide)]; exact h.c8
  · rw [hi' 13 (by decide), hd' 9 (by decide), hd' 89 (by decide)]; exact h.c9
  · rw [hi' 14 (by decide), hd' 10 (by decide), hd' 93 (by decide)]; exact h.c10
theorem GApp.step10 {listed : Array Bool} {a : Act} {w w' : World} {v : Value} (h : GApp w0 B v8 v9 v10 n xs8 xs9 xs10 y8 y9 cs listed a w) (hs : listed.size = 15) (hz : a.tmps.size = 191) (k : Fr (fun b => v8.ownBlock = some b ∨ v9.ownBlock = some b ∨ v10.ownBlock = some b) w w' ∧ Fr none_ w w') (hv : NewB w0.heap.size cs 37 v w') : GApp w0 B v8 v9 v10 n xs8 xs9 xs10 y8 y9 cs (listed.setIfInBounds 10 true) (a.put (some 92) v) w' := by
  have hi' : ∀ j, 10 ≠ j → (listed.setIfInBounds 10 true).getD j false = listed.getD j false := fun j hj => getD_set_ne false hj
  have hd' : ∀ j, 92 ≠ j → (a.put (some 92) v).eval (.tmp j) = a.eval (.tmp j) := fun j hj => eval_put_o _ _ _ _ (fun e => hj (by injection e))
  have hi0 : (listed.setIfInBounds 10 true).getD 10 false = true := by simp [hs]
  have hd0 : (a.put (some 92) v).eval (.tmp 92) = v := eval_put_s _ _ _ (by omega)
  have k1 : ∀ b, none_ b → b < w0.heap.size := fun _ h => h.elim
  have k8 : ∀ b, none_ b → v8.ownBlock ≠ some b := fun _ h => h.elim
  have k9 : ∀ b, none_ b → v9.ownBlock ≠ some b := fun _ h => h.elim
  have k10 : ∀ b, none_ b → v10.ownBlock ≠ some b := fun _ h => h.elim
  refine { fr := ?_, b8 := ?_, b9 := ?_, b10 := ?_, r8 := ?_, r9 := ?_, r10 := ?_, n1 := ?_, n2 := ?_, n3 := ?_, c8 := ?_, c9 := ?_, c10 := ?_ }
  · exact h.fr.trans k.1
  · rw [hi' 2 (by decide), hd' 84 (by decide)]; exact fun l => (h.b8 l).keep k.2 k1
  · rw [hi' 6 (by decide), hd' 88 (by decide)]; exact fun l => (h.b9 l).keep k.2 k1
  · rw [hi0, hd0]; exact fun _ => hv
  · rw [hi' 3 (by decide), hd' 85 (by decide)]; exact h.r8.keep k.2 k1 k8
  · rw [hi' 7 (by decide), hd' 89 (by decide)]; exact h.r9.keep k.2 k1 k9
  · rw [hi' 11 (by decide), hd' 93 (by decide)]; exact h.r10.keep k.2 k1 k10
  · rw [hi' 3 (by decide), hi' 7 (by decide), hd' 85 (by decide), hd' 89 (by decide)]; exact h.n1
  · rw [hi' 3 (by decide), hi' 11 (by decide), hd' 85 (by decide), hd' 93 (by decide)]; exact h.n2
  · rw [hi' 7 (by decide), hi' 11 (by decide), hd' 89 (by decide), hd' 93 (by decide)]; exact h.n3
  · rw [hi' 12 (by decide), hd' 8 (by decide), hd' 85 (by decide)]; exact h.c8
  · rw [hi' 13 (by decide), hd' 9 (by decide), hd' 89 (by decide)]; exact h.c9
  · rw [hi' 14 (by decide), hd' 10 (by decide), hd' 93 (by decide)]; exact h.c10
theorem GApp.step3 {listed : Array Bool} {a : Act} {w w' : World} {v : Value} (h : GApp w0 B v8 v9 v10 n xs8 xs9 xs10 y8 y9 cs listed a w) (hs : listed.size = 15) (hz : a.tmps.size = 191) (hk : Fr (fun b => v8.ownBlock = some b) w w') (hlt : ∀ b, v8.ownBlock = some b → b < w0.heap.size) (k9 : ∀ b, v8.ownBlock = some b → v9.ownBlock ≠ some b) (k10 : ∀ b, v8.ownBlock = some b → v10.ownBlock ≠ some b) (g c : Nat) (hv : v = .slice (some ⟨g, 0, none⟩) (n + 1) c) (hr : w'.ownsRow B 28 1 v (n + 1) (xs8 ++ [y8])) (hg : v8.ownBlock = some g ∨ g = w.heap.size) (hw : w0.heap.size ≤ w.heap.size) (y12 : listed.getD 12 false = false) (y7 : listed.getD 7 false = false) (y11 : listed.getD 11 false = false) : GApp w0 B v8 v9 v10 n xs8 xs9 xs10 y8 y9 cs (listed.setIfInBounds 3 true) (a.put (some 85) v) w' := by
  have hi' : ∀ j, 3 ≠ j → (listed.setIfInBounds 3 true).getD j false = listed.getD j false := fun j hj => getD_set_ne false hj
  have hd' : ∀ j, 85 ≠ j → (a.put (some 85) v).eval (.tmp j) = a.eval (.tmp j) := fun j hj => eval_put_o _ _ _ _ (fun e => hj (by injection e))
  have hi0 : (listed.setIfInBounds 3 true).getD 3 false = true := by simp [hs]
  have hd0 : (a.put (some 85) v).eval (.tmp 85) = v := eval_put_s _ _ _ (by omega)
  have k : Fr (fun b => v8.ownBlock = some b ∨ v9.ownBlock = some b ∨ v10.ownBlock = some b) w w' ∧ Fr (fun b => v8.ownBlock = some b) w w' := ⟨hk.mono (fun b _ hb => .inl hb), hk⟩
  have k1 : ∀ b, v8.ownBlock = some b → b < w0.heap.size := hlt
  refine { fr := ?_, b8 := ?_, b9 := ?_, b10 := ?_, r8 := ?_, r9 := ?_, r10 := ?_, n1 := ?_, n2 := ?_, n3 := ?_, c8 := ?_, c9 := ?_, c10 := ?_ }
  · exact h.fr.trans k.1
  · rw [hi' 2 (by decide), hd' 84 (by decide)]; exact fun l => (h.b8 l).keep k.2 k1
  · rw [hi' 6 (by decide), hd' 88 (by decide)]; exact fun l => (h.b9 l).keep k.2 k1
  · rw [hi' 10 (by decide), hd' 92 (by decide)]; exact fun l => (h.b10 l).keep k.2 k1
  · rw [hi0, hd0]; (unfold RowB; rw [if_pos rfl]; exact ⟨g, c, hv, hr, hg.imp id (fun e => by omega)⟩)
  · rw [hi' 7 (by decide), hd' 89 (by decide)]; exact h.r9.keep k.2 k1 k9
  · rw [hi' 11 (by decide), hd' 93 (by decide)]; exact h.r10.keep k.2 k1 k10
  · rw [hi0, hi' 7 (by decide), hd0, hd' 89 (by decide)]; (rw [y7]; intro l1 l2; first | exact absurd l1 (by decide) | exact absurd l2 (by decide))
  · rw [hi0, hi' 11 (by decide), hd0, hd' 93 (by decide)]; (rw [y11]; intro l1 l2; first | exact absurd l1 (by decide) | exact absurd l2 (by decide))
  · rw [hi' 7 (by decide), hi' 11 (by decide), hd' 89 (by decide), hd' 93 (by decide)]; exact h.n3
  · rw [hi' 12 (by decide), hd' 8 (by decide), hd0]; (rw [y12]; intro l; cases l)
  · rw [hi' 13 (by decide), hd' 9 (by decide), hd' 89 (by decide)]; exact h.c9
  · rw [hi' 14 (by decide), hd' 10 (by decide), hd' 93 (by decide)]; exact h.c10
theorem GApp.step7 {listed : Array Bool} {a : Act} {w w' : World} {v : Value} (h : GApp w0 B v8 v9 v10 n xs8 xs9 xs10 y8 y9 cs listed a w) (hs : listed.size = 15) (hz : a.tmps.size = 191) (hk : Fr (fun b => v9.ownBlock = some b) w w') (hlt : ∀ b, v9.ownBlock = some b → b < w0.heap.size) (k8 : ∀ b, v9.ownBlock = some b → v8.ownBlock ≠ some b) (k10 : ∀ b, v9.ownBlock = some b → v10.ownBlock ≠ some b) (g c : Nat) (hv : v = .slice (some ⟨g, 0, none⟩) (n + 1) c) (hr : w'.ownsRow B 3 1 v (n + 1) (xs9 ++ [y9])) (hg : v9.ownBlock = some g ∨ g = w.heap.size) (hw : w0.heap.size ≤ w.heap.size) (y13 : listed.getD 13 false = false) (y11 : listed.getD 11 false = false) : GApp w0 B v8 v9 v10 n xs8 xs9 xs10 y8 y9 cs (listed.setIfInBounds 7 true) (a.put (some 89) v) w' := by
  have hi' : ∀ j, 7 ≠ j → (listed.setIfInBounds 7 true).getD j false = listed.getD j false := fun j hj => getD_set_ne false hj
  have hd' : ∀ j, 89 ≠ j → (a.put (some 89) v).eval (.tmp j) = a.eval (.tmp j) := fun j hj => eval_put_o _ _ _ _ (fun e => hj (by injection e))
  have hi0 : (listed.setIfInBounds 7 true).getD 7 false = true := by simp [hs]
  have hd0 : (a.put (some 89) v).eval (.tmp 89) = v := eval_put_s _ _ _ (by omega)
  have k : Fr (fun b => v8.ownBlock = some b ∨ v9.ownBlock = some b ∨ v10.ownBlock = some b) w w' ∧ Fr (fun b => v9.ownBlock = some b) w w' := ⟨hk.mono (fun b _ hb => .inr (.inl hb)), hk⟩
  have k1 : ∀ b, v9.ownBlock = some b → b < w0.heap.size := hlt
  refine { fr := ?_, b8 := ?_, b9 := ?_, b10 := ?_, r8 := ?_, r9 := ?_, r10 := ?_, n1 := ?_, n2 := ?_, n3 := ?_, c8 := ?_, c9 := ?_, c10 := ?_ }
  · exact h.fr.trans k.1
  · rw [hi' 2 (by decide), hd' 84 (by decide)]; exact fun l => (h.b8 l).keep k.2 k1
  · rw [hi' 6 (by decide), hd' 88 (by decide)]; exact fun l => (h.b9 l).keep k.2 k1
  · rw [hi' 10 (by decide), hd' 92 (by decide)]; exact fun l => (h.b10 l).keep k.2 k1
  · rw [hi' 3 (by decide), hd' 85 (by decide)]; exact h.r8.keep k.2 k1 k8
  · rw [hi0, hd0]; (unfold RowB; rw [if_pos rfl]; exact ⟨g, c, hv, hr, hg.imp id (fun e => by omega)⟩)
  · rw [hi' 11 (by decide), hd' 93 (by decide)]; exact h.r10.keep k.2 k1 k10
  · rw [hi' 3 (by decide), hi0, hd' 85 (by decide), hd0]; (intro l1 l2; exact apart (l1 ▸ h.r8) hv hg (fun b => k8 b) hlt)
  · rw [hi' 3 (by decide), hi' 11 (by decide), hd' 85 (by decide), hd' 93 (by decide)]; exact h.n2
  · rw [hi0, hi' 11 (by decide), hd0, hd' 93 (by decide)]; (rw [y11]; intro l1 l2; first | exact absurd l1 (by decide) | exact absurd l2 (by decide))
  · rw [hi' 12 (by decide), hd' 8 (by decide), hd' 85 (by decide)]; exact h.c8
  · rw [hi' 13 (by decide), hd' 9 (by decide), hd0]; (rw [y13]; intro l; cases l)
  · rw [hi' 14 (by decide), hd' 10 (by decide), hd' 93 (by decide)]; exact h.c10
theorem GApp.step11 {listed : Array Bool} {a : Act} {w w' : World} {v : Value} (h : GApp w0 B v8 v9 v10 n xs8 xs9 xs10 y8 y9 cs listed a w) (hs : listed.size = 15) (hz : a.tmps.size = 191) (hk : Fr (fun b => v10.ownBlock = some b) w w') (hlt : ∀ b, v10.ownBlock = some b → b < w0.heap.size) (k8 : ∀ b, v10.ownBlock = some b → v8.ownBlock ≠ some b) (k9 : ∀ b, v10.ownBlock = some b → v9.ownBlock ≠ some b) (g c : Nat) (hv : v = .slice (some ⟨g, 0, none⟩) (n + 1) c) (hr : w'.ownsRow B 37 5 v (n + 1) (xs10 ++ cs)) (hg : v10.ownBlock = some g ∨ g = w.heap.size) (hw : w0.heap.size ≤ w.heap.size) (y14 : listed.getD 14 false = false) : GApp w0 B v8 v9 v10 n xs8 xs9 xs10 y8 y9 cs (listed.setIfInBounds 11 true) (a.put (some 93) v) w' := by
  have hi' : ∀ j, 11 ≠ j → (listed.setIfInBounds 11 true).getD j false = listed.getD j false := fun j hj => getD_set_ne false hj
  have hd' : ∀ j, 93 ≠ j → (a.put (some 93) v).eval (.tmp j) = a.eval (.tmp j) := fun j hj => eval_put_o _ _ _ _ (fun e => hj (by injection e))
  have hi0 : (listed.setIfInBounds 11 true).getD 11 false = true := by simp [hs]
  have hd0 : (a.put (some 93) v).eval (.tmp 93) = v := eval_put_s _ _ _ (by omega)
  have k : Fr (fun b => v8.ownBlock = some b ∨ v9.ownBlock = some b ∨ v10.ownBlock = some b) w w' ∧ Fr (fun b => v10.ownBlock = some b) w w' := ⟨hk.mono (fun b _ hb => .inr (.inr hb)), hk⟩
  have k1 : ∀ b, v10.ownBlock = some b → b < w0.heap.size := hlt
  refine { fr := ?_, b8 := ?_, b9 := ?_, b10 := ?_, r8 := ?_, r9 := ?_, r10 := ?_, n1 := ?_, n2 := ?_, n3 := ?_, c8 := ?_, c9 := ?_, c10 := ?_ }
  · exact h.fr.trans k.1
  · rw [hi' 2 (by decide), hd' 84 (by decide)]; exact fun l => (h.b8 l).keep k.2 k1
  · rw [hi' 6 (by decide), hd' 88 (by decide)]; exact fun l => (h.b9 l).keep k.2 k1
  · rw [hi' 10 (by decide), hd' 92 (by decide)]; exact fun l => (h.b10 l).keep k.2 k1
  · rw [hi' 3 (by decide), hd' 85 (by decide)]; exact h.r8.keep k.2 k1 k8
  · rw [hi' 7 (by decide), hd' 89 (by decide)]; exact h.r9.keep k.2 k1 k9
  · rw [hi0, hd0]; (unfold RowB; rw [if_pos rfl]; exact ⟨g, c, hv, hr, hg.imp id (fun e => by omega)⟩)
  · rw [hi' 3 (by decide), hi' 7 (by decide), hd' 85 (by decide), hd' 89 (by decide)]; exact h.n1
  · rw [hi' 3 (by decide), hi0, hd' 85 (by decide), hd0]; (intro l1 l2; exact apart (l1 ▸ h.r8) hv hg (fun b => k8 b) hlt)
  · rw [hi' 7 (by decide), hi0, hd' 89 (by decide), hd0]; (intro l1 l2; exact apart (l1 ▸ h.r9) hv hg (fun b => k9 b) hlt)
  · rw [hi' 12 (by decide), hd' 8 (by decide), hd' 85 (by decide)]; exact h.c8
  · rw [hi' 13 (by decide), hd' 9 (by decide), hd' 89 (by decide)]; exact h.c9
  · rw [hi' 14 (by decide), hd' 10 (by decide), hd0]; (rw [y14]; intro l; cases l)
theorem GApp.step12 {listed : Array Bool} {a : Act} {w : World} {v : Value} (h : GApp w0 B v8 v9 v10 n xs8 xs9 xs10 y8 y9 cs listed a w) (hs : listed.size = 15) (hz : a.tmps.size = 191) (hv : v = a.eval (.tmp 85)) : GApp w0 B v8 v9 v10 n xs8 xs9 xs10 y8 y9 cs (listed.setIfInBounds 12 true) (a.put (some 8) v) w := by
  have hi' : ∀ j, 12 ≠ j → (listed.setIfInBounds 12 true).getD j false = listed.getD j false := fun j hj => getD_set_ne false hj
  have hd' : ∀ j, 8 ≠ j → (a.put (some 8) v).eval (.tmp j) = a.eval (.tmp j) := fun j hj => eval_put_o _ _ _ _ (fun e => hj (by injection e))
  have hi0 : (listed.setIfInBounds 12 true).getD 12 false = true := by simp [hs]
  have hd0 : (a.put (some 8) v).eval (.tmp 8) = v := eval_put_s _ _ _ (by omega)
  have k : Fr (fun b => v8.ownBlock = some b ∨ v9.ownBlock = some b ∨ v10.ownBlock = some b) w w ∧ Fr none_ w w := ⟨Fr.refl _ _, Fr.refl _ _⟩
  have k1 : ∀ b, none_ b → b < w0.heap.size := fun _ h => h.elim
  have k8 : ∀ b, none_ b → v8.ownBlock ≠ some b := fun _ h => h.elim
  have k9 : ∀ b, none_ b → v9.ownBlock ≠ some b := fun _ h => h.elim
  have k10 : ∀ b, none_ b → v10.ownBlock ≠ some b := fun _ h => h.elim
  refine { fr := ?_, b8 := ?_, b9 := ?_, b10 := ?_, r8 := ?_, r9 := ?_, r10 := ?_, n1 := ?_, n2 := ?_, n3 := ?_, c8 := ?_, c9 := ?_, c10 := ?_ }
  · exact h.fr.trans k.1
  · rw [hi' 2 (by decide), hd' 84 (by decide)]; exact fun l => (h.b8 l).keep k.2 k1
  · rw [hi' 6 (by decide), hd' 88 (by decide)]; exact fun l => (h.b9 l).keep k.2 k1
  · rw [hi' 10 (by decide), hd' 92 (by decide)]; exact fun l => (h.b10 l).keep k.2 k1
  · rw [hi' 3 (by decide), hd' 85 (by decide)]; exact h.r8.keep k.2 k1 k8
  · rw [hi' 7 (by decide), hd' 89 (by decide)]; exact h.r9.keep k.2 k1 k9
  · rw [hi' 11 (by decide), hd' 93 (by decide)]; exact h.r10.keep k.2 k1 k10
  · rw [hi' 3 (by decide), hi' 7 (by decide), hd' 85 (by decide), hd' 89 (by decide)]; exact h.n1
  · rw [hi' 3 (by decide), hi' 11 (by decide), hd' 85 (by decide), hd' 93 (by decide)]; exact h.n2
  · rw [hi' 7 (by decide), hi' 11 (by decide), hd' 89 (by decide), hd' 93 (by decide)]; exact h.n3
  · rw [hi0, hd0, hd' 85 (by decide)]; exact fun _ => hv
  · rw [hi' 13 (by decide), hd' 9 (by decide), hd' 89 (by decide)]; exact h.c9
  · rw [hi' 14 (by decide), hd' 10 (by decide), hd' 93 (by decide)]; exact h.c10
theorem GApp.step13 {listed : Array Bool} {a : Act} {w : World} {v : Value} (h : GApp w0 B v8 v9 v10 n xs8 xs9 xs10 y8 y9 cs listed a w) (hs : listed.size = 15) (hz : a.tmps.size = 191) (hv : v = a.eval (.tmp 89)) : GApp w0 B v8 v9 v10 n xs8 xs9 xs10 y8 y9 cs (listed.setIfInBounds 13 true) (a.put (some 9) v) w := by
  have hi' : ∀ j, 13 ≠ j → (listed.setIfInBounds 13 true).getD j false = listed.getD j false := fun j hj => getD_set_ne false hj
  have hd' : ∀ j, 9 ≠ j → (a.put (some 9) v).eval (.tmp j) = a.eval (.tmp j) := fun j hj => eval_put_o _ _ _ _ (fun e => hj (by injection e))
  have hi0 : (listed.setIfInBounds 13 true).getD 13 false = true := by simp [hs]
  have hd0 : (a.put (some 9) v).eval (.tmp 9) = v := eval_put_s _ _ _ (by omega)
  have k : Fr (fun b => v8.ownBlock = some b ∨ v9.ownBlock = some b ∨ v10.ownBlock = some b) w w ∧ Fr none_ w w := ⟨Fr.refl _ _, Fr.refl _ _⟩
  have k1 : ∀ b, none_ b → b < w0.heap.size := fun _ h => h.elim
  have k8 : ∀ b, none_ b → v8.ownBlock ≠ some b := fun _ h => h.elim
  have k9 : ∀ b, none_ b → v9.ownBlock ≠ some b := fun _ h => h.elim
  have k10 : ∀ b, none_ b → v10.ownBlock ≠ some b := fun _ h => h.elim
  refine { fr := ?_, b8 := ?_, b9 := ?_, b10 := ?_, r8 := ?_, r9 := ?_, r10 := ?_, n1 := ?_, n2 := ?_, n3 := ?_, c8 := ?_, c9 := ?_, c10 := ?_ }
  · exact h.fr.trans k.1
  · rw [hi' 2 (by decide), hd' 84 (by decide)]; exact fun l => (h.b8 l).keep k.2 k1
  · rw [hi' 6 (by decide), hd' 88 (by decide)]; exact fun l => (h.b9 l).keep k.2 k1
  · rw [hi' 10 (by decide), hd' 92 (by decide)]; exact fun l => (h.b10 l).keep k.2 k1
  · rw [hi' 3 (by decide), hd' 85 (by decide)]; exact h.r8.keep k.2 k1 k8
  · rw [hi' 7 (by decide), hd' 89 (by decide)]; exact h.r9.keep k.2 k1 k9
  · rw [hi' 11 (by decide), hd' 93 (by decide)]; exact h.r10.keep k.2 k1 k10
  · rw [hi' 3 (by decide), hi' 7 (by decide), hd' 85 (by decide), hd' 89 (by decide)]; exact h.n1
  · rw [hi' 3 (by decide), hi' 11 (by decide), hd' 85 (by decide), hd' 93 (by decide)]; exact h.n2
  · rw [hi' 7 (by decide), hi' 11 (by decide), hd' 89 (by decide), hd' 93 (by decide)]; exact h.n3
  · rw [hi' 12 (by decide), hd' 8 (by decide), hd' 85 (by decide)]; exact h.c8
  · rw [hi0, hd0, hd' 89 (by decide)]; exact fun _ => hv
  · rw [hi' 14 (by decide), hd' 10 (by decide), hd' 93 (by decide)]; exact h.c10
theorem GApp.step14 {listed : Array Bool} {a : Act} {w : World} {v : Value} (h : GApp w0 B v8 v9 v10 n xs8 xs9 xs10 y8 y9 cs listed a w) (hs : listed.size = 15) (hz : a.tmps.size = 191) (hv : v = a.eval (.tmp 93)) : GApp w0 B v8 v9 v10 n xs8 xs9 xs10 y8 y9 cs (listed.setIfInBounds 14 true) (a.put (some 10) v) w := by
  have hi' : ∀ j, 14 ≠ j → (listed.setIfInBounds 14 true).getD j false = listed.getD j false := fun j hj => getD_set_ne false hj
  have hd' : ∀ j, 10 ≠ j → (a.put (some 10) v).eval (.tmp j) = a.eval (.tmp j) := fun j hj => eval_put_o _ _ _ _ (fun e => hj (by injection e))
  have hi0 : (listed.setIfInBounds 14 true).getD 14 false = true := by simp [hs]
  have hd0 : (a.put (some 10) v).eval (.tmp 10) = v := eval_put_s _ _ _ (by omega)
  have k : Fr (fun b => v8.ownBlock = some b ∨ v9.ownBlock = some b ∨ v10.ownBlock = some b) w w ∧ Fr none_ w w := ⟨Fr.refl _ _, Fr.refl _ _⟩
  have k1 : ∀ b, none_ b → b < w0.heap.size := fun _ h => h.elim
  have k8 : ∀ b, none_ b → v8.ownBlock ≠ some b := fun _ h => h.elim
  have k9 : ∀ b, none_ b → v9.ownBlock ≠ some b := fun _ h => h.elim
  have k10 : ∀ b, none_ b → v10.ownBlock ≠ some b := fun _ h => h.elim
  refine { fr := ?_, b8 := ?_, b9 := ?_, b10 := ?_, r8 := ?_, r9 := ?_, r10 := ?_, n1 := ?_, n2 := ?_, n3 := ?_, c8 := ?_, c9 := ?_, c10 := ?_ }
  · exact h.fr.trans k.1
  · rw [hi' 2 (by decide), hd' 84 (by decide)]; exact fun l => (h.b8 l).keep k.2 k1
  · rw [hi' 6 (by decide), hd' 88 (by decide)]; exact fun l => (h.b9 l).keep k.2 k1
  · rw [hi' 10 (by decide), hd' 92 (by decide)]; exact fun l => (h.b10 l).keep k.2 k1
  · rw [hi' 3 (by decide), hd' 85 (by decide)]; exact h.r8.keep k.2 k1 k8
  · rw [hi' 7 (by decide), hd' 89 (by decide)]; exact h.r9.keep k.2 k1 k9
  · rw [hi' 11 (by decide), hd' 93 (by decide)]; exact h.r10.keep k.2 k1 k10
  · rw [hi' 3 (by decide), hi' 7 (by decide), hd' 85 (by decide), hd' 89 (by decide)]; exact h.n1
  · rw [hi' 3 (by decide), hi' 11 (by decide), hd' 85 (by decide), hd' 93 (by decide)]; exact h.n2
  · rw [hi' 7 (by decide), hi' 11 (by decide), hd' 89 (by decide), hd' 93 (by decide)]; exact h.n3
  · rw [hi' 12 (by decide), hd' 8 (by decide), hd' 85 (by decide)]; exact h.c8
  · rw [hi' 13 (by decide), hd' 9 (by decide), hd' 89 (by decide)]; exact h.c9
  · rw [hi0, hd0, hd' 93 (by decide)]; exact fun _ => hv
end
theorem info_parts' {P : Program} {t : TypeId} {z : Value} {s b : Nat} (h : (P.info? t).map (fun i => (i.zero, i.size, i.bytes)) = some (some z, s, b)) : ∃ i, P.info? t = some i ∧ i.zero = some z ∧ i.size = s ∧ i.bytes = b := by
  cases hi : P.info? t with
  | none => rw [hi] at h; cases h
  | some i =>
    rw [hi] at h
    injection h with h
    injection h with h1 h
    injection h with h2 h3
    exact ⟨i, rfl, h1, h2, h3⟩
set_option maxRecDepth 100000 in
set_option maxHeartbeats 4000000 in
theorem reg17 (a0 : Act) (w : World) (hsz : a0.tmps.size = 191) (B : Nat) (v8 v9 v10 : Value) (n : Nat) (xs8 xs9 xs10 : List Value) (y8 y9 : Int) (q : Nat) (u : V) (A0 : Option Addr) (c0 : Nat) (hn : n < 60) (hB : B ≤ w.heap.size)
    (e8 : a0.tmps[8]? = some v8) (e9 : a0.tmps[9]? = some v9) (e10 : a0.tmps[10]? = some v10) (e14 : a0.tmps[14]? = some (.int .i64 y8)) (e12 : a0.tmps[12]? = some (.int .i64 y9)) (e13 : a0.tmps[13]? = some (.pointer (some ⟨q, 0, none⟩)))
    (h8 : w.ownsRow B 28 1 v8 n xs8) (h9 : w.ownsRow B 3 1 v9 n xs9) (h10 : w.ownsRow B 37 5 v10 n xs10) (hq : Blk w q (u.cells A0 c0) 37)
    (k89 : ∀ b, v8.ownBlock = some b → v9.ownBlock ≠ some b) (k810 : ∀ b, v8.ownBlock = some b → v10.ownBlock ≠ some b) (k910 : ∀ b, v9.ownBlock = some b → v10.ownBlock ≠ some b) (hq8 : v8.ownBlock ≠ some q) (hq9 : v9.ownBlock ≠ some q) (hq10 : v10.ownBlock ≠ some q)
    (Q : Exit → Act → World → Prop) (hQ : ∀ (e : Nat → Value) (w' : World) (g8 d8 g9 d9 g10 d10 : Nat), w'.ownsRow B 28 1 (.slice (some ⟨g8, 0, none⟩) (n + 1) d8) (n + 1) (xs8 ++ [.int .i64 y8]) → w'.ownsRow B 3 1 (.slice (some ⟨g9, 0, none⟩) (n + 1) d9) (n + 1) (xs9 ++ [.int .i64 y9]) → w'.ownsRow B 37 5 (.slice (some ⟨g10, 0, none⟩) (n + 1) d10) (n + 1) (xs10 ++ u.cells A0 c0) →
      (v8.ownBlock = some g8 ∨ w.heap.size ≤ g8) → (v9.ownBlock = some g9 ∨ w.heap.size ≤ g9) → (v10.ownBlock = some g10 ∨ w.heap.size ≤ g10) → g8 ≠ g9 → g8 ≠ g10 → g9 ≠ g10 → Fr (fun b => v8.ownBlock = some b ∨ v9.ownBlock = some b ∨ v10.ownBlock = some b) w w' →
      e 8 = .slice (some ⟨g8, 0, none⟩) (n + 1) d8 → e 9 = .slice (some ⟨g9, 0, none⟩) (n + 1) d9 → e 10 = .slice (some ⟨g10, 0, none⟩) (n + 1) d10 → Q .normal ⟨[82, 83, 84, 85, 86, 87, 88, 89, 90, 91, 92, 93, 8, 9, 10].foldl (fun acc t => acc.setIfInBounds t (e t)) a0.tmps, a0.defers⟩ w') :
    (Code.region 17 (opsOf Try.f6 17) true).wp Try.prog Q a0 w := by
  obtain ⟨iR, hiR, zR1, zR2, zR3⟩ := info_parts' (P := Try.prog) (t := 28) (z := .int .i64 0) (s := 1) (b := 8) (by kernel_rfl)
  obtain ⟨iI, hiI, zI1, zI2, zI3⟩ := info_parts' (P := Try.prog) (t := 3) (z := .int .i64 0) (s := 1) (b := 8) (by kernel_rfl)
  obtain ⟨iV, hiV, zV1, zV2, zV3⟩ := info_parts' (P := Try.prog) (t := 37) info_Value
  have hb1 : ∀ W : World, (Instr.buildSlice 40 1 #[(0, .int .i64 y8)]).run Try.prog W = .ok (.slice (some ⟨W.heap.size, 0, none⟩) 1 1) (W.alloc (.cells #[.int .i64 y8] 28)) := fun W => by kernel_rfl
  have hb2 : ∀ W : World, (Instr.buildSlice 43 1 #[(0, .int .i64 y9)]).run Try.prog W = .ok (.slice (some ⟨W.heap.size, 0, none⟩) 1 1) (W.alloc (.cells #[.int .i64 y9] 3)) := fun W => by kernel_rfl
  have hb3 : ∀ W : World, (Instr.buildSlice 35 1 #[(0, .agg (u.cells A0 c0).toArray)]).run Try.prog W = .ok (.slice (some ⟨W.heap.size, 0, none⟩) 1 1) (W.alloc (.cells (u.cells A0 c0).toArray 37)) := fun W => by kernel_rfl
  obtain ⟨ops, hops⟩ : ∃ ops, ops = opsOf Try.f6 17 := ⟨_, rfl⟩
  rw [← hops]
  conv at hops => rhs; whnf
  have hdst : dstB ops a0.tmps.size = true := by rw [hsz, hops]; kernel_rfl
  subst hops
  have hl8 : ∀ b, v8.ownBlock = some b → b < w.heap.size := fun b hb => (ownsRow_ge h8 b hb).2
  have hl9 : ∀ b, v9.ownBlock = some b → b < w.heap.size := fun b hb => (ownsRow_ge h9 b hb).2
  have hl10 : ∀ b, v10.ownBlock = some b → b < w.heap.size := fun b hb => (ownsRow_ge h10 b hb).2
  have k98 : ∀ b, v9.ownBlock = some b → v8.ownBlock ≠ some b := fun b h h' => k89 b h' h
  have k108 : ∀ b, v10.ownBlock = some b → v8.ownBlock ≠ some b := fun b h h' => k810 b h' h
  have k109 : ∀ b, v10.ownBlock = some b → v9.ownBlock ≠ some b := fun b h h' => k910 b h' h
  refine wp_region_ri (by kernel_rfl) (by kernel_rfl) hdst (FApp v8 v9 v10 (.int .i64 y8) (.int .i64 y9) (u.cells A0 c0)) (GApp w B v8 v9 v10 n xs8 xs9 xs10 (.int .i64 y8) (.int .i64 y9) (u.cells A0 c0)) (GApp.start (Fr.refl _ _).drew h8 h9 h10) ?_ ?_
  · intro listed a W j h hj
    obtain ⟨h0, o, ho', hd⟩ := mem_ready.1 hj
    have hlt : j < 15 := (Array.getElem?_eq_some_iff.1 ho').1
    have hG := h.g
    have hlen : listed.size = 15 := h.len
    have hz := h.sz.trans hsz
    have hws := hG.fr.size
    have n0 : ∀ i, i < 15 → listed.getD i true = false → listed.getD i false = false := fun i hi hl => by
      rw [Array.getD_eq_getD_getElem?, Array.getElem?_eq_getElem (show i < listed.size by omega)] at hl ⊢
      exact hl
    rcases (show j = 0 ∨ j = 1 ∨ j = 2 ∨ j = 3 ∨ j = 4 ∨ j = 5 ∨ j = 6 ∨ j = 7 ∨ j = 8 ∨ j = 9 ∨ j = 10 ∨ j = 11 ∨ j = 12 ∨ j = 13 ∨ j = 14 by omega) with rfl | rfl | rfl | rfl | rfl | rfl | rfl | rfl | rfl | rfl | rfl | rfl | rfl | rfl | rfl
    · obtain rfl := Option.some.inj ho'
      have m12 : listed.getD 12 false = false := by
        cases hl : listed.getD 12 false with
        | false => rfl
        | true => rw [← h.cl 12 _ { on := 0, ground := .phase } rfl hl (by simp) rfl]; exact (n0 0 (by decide) h0).symm ▸ rfl
      have f8 := h.yet hdst 8 (i := 12) rfl rfl m12 e8
      refine h.quiet hdst hj ho' rfl (some 82) rfl (v := v8) ?_ ?_ (hG.keep (Fr.refl _ _) (by decide) (by decide))
      · simp [execOp, go_sem, evt' f8]
      · unfold FApp; simp
    · obtain rfl := Option.some.inj ho'
      have f14 := h.free 14 (by kernel_rfl) e14
      refine h.quiet hdst hj ho' rfl (some 83) rfl (v := .int .i64 y8) ?_ ?_ (hG.keep (Fr.refl _ _) (by decide) (by decide))
      · simp [execOp, go_sem, evt' f14]
      · unfold FApp; simp
    · obtain rfl := Option.some.inj ho'
      have l1 : listed.getD 1 false = true := hd { on := 1, ground := .data } (by simp) rfl
      have d1 := (h.val 1 83 l1 rfl).2.1 rfl
      have hk : Fr none_ W (W.alloc (.cells #[.int .i64 y8] 28)) := (Fr.refl _ _).alloc _
      refine h.value hdst hj ho' rfl (some 84) rfl (v := .slice (some ⟨W.heap.size, 0, none⟩) 1 1) (w' := W.alloc (.cells #[.int .i64 y8] 28)) ?_ (fun _ _ h => h) (fun _ _ => by unfold FApp; simp) (hG.step2 hlen hz ⟨hk.mono (fun _ _ h => h.elim), hk⟩ ⟨W.heap.size, rfl, hws, Blk.new _ _ _⟩)
      simp [execOp, go_sem, evt' d1, hb1]
    · obtain rfl := Option.some.inj ho'
      have l0 : listed.getD 0 false = true := hd { on := 0, ground := .data } (by simp) rfl
      have l2 : listed.getD 2 false = true := hd { on := 2, ground := .data } (by simp) rfl
      have d0 := (h.val 0 82 l0 rfl).1 rfl
      obtain ⟨b, eb, hb0, hbk⟩ := hG.b8 l2
      have m3 := n0 3 (by decide) h0
      have m7 : listed.getD 7 false = false := by
        cases hl : listed.getD 7 false with
        | false => rfl
        | true => rw [← h.cl 7 _ { on := 3, ground := .chain } rfl hl (by simp) rfl]; exact m3.symm ▸ rfl
      have m11 : listed.getD 11 false = false := by
        cases hl : listed.getD 11 false with
        | false => rfl
        | true => rw [← h.cl 11 _ { on := 7, ground := .chain } rfl hl (by simp) rfl]; exact m7.symm ▸ rfl
      have m12 : listed.getD 12 false = false := by
        cases hl : listed.getD 12 false with
        | false => rfl
        | true => rw [← h.cl 12 _ { on := 3, ground := .data } rfl hl (by simp) rfl]; exact m3.symm ▸ rfl
      have hrow := hG.r8
      rw [m3] at hrow
      have hrow : W.ownsRow B 28 1 v8 n xs8 := hrow
      refine h.op hdst hj ho' rfl (some 85) rfl fun K hK => ?_
      refine wp_append_lies W (.tmp 82) (.tmp 84) 40 rfl B 28 iR (.int .i64 0) 1 8 Try.underlying40 hiR zR1 zR2 zR3 rfl (by decide) v8 n xs8 d0 hrow ⟨b, 0, none⟩ 1 1 [.int .i64 y8] eb rfl (World.news_of_block hbk) (by intro u hu; rw [List.mem_singleton.1 hu]; rfl) (by decide) (by simp only [maxLen]; omega) (by omega) (Nat.le_trans hB hws) _ rfl ?_
      intro g c w' hown hgr hat hgl
      exact hK _ _ (fun _ _ h => h) (fun _ _ => by unfold FApp; simp) (hG.step3 hlen hz ((grownBy_fr hgr).mono (fun _ _ h => h)) hl8 k89 k810 g c rfl hown hat hws m12 m7 m11)
    · obtain rfl := Option.some.inj ho'
      have m13 : listed.getD 13 false = false := by
        cases hl : listed.getD 13 false with
        | false => rfl
        | true => rw [← h.cl 13 _ { on := 4, ground := .phase } rfl hl (by simp) rfl]; exact (n0 4 (by decide) h0).symm ▸ rfl
      have f9 := h.yet hdst 9 (i := 13) rfl rfl m13 e9
      refine h.quiet hdst hj ho' rfl (some 86) rfl (v := v9) ?_ ?_ (hG.keep (Fr.refl _ _) (by decide) (by decide))
      · simp [execOp, go_sem, evt' f9]
      · unfold FApp; simp
    · obtain rfl := Option.some.inj ho'
      have f12 := h.free 12 (by kernel_rfl) e12
      refine h.quiet hdst hj ho' rfl (some 87) rfl (v := .int .i64 y9) ?_ ?_ (hG.keep (Fr.refl _ _) (by decide) (by decide))
      · simp [execOp, go_sem, evt' f12]
      · unfold FApp; simp
    · obtain rfl := Option.some.inj ho'
      have l5 : listed.getD 5 false = true := hd { on := 5, ground := .data } (by simp) rfl
      have d5 := (h.val 5 87 l5 rfl).2.2.2.1 rfl
      have hk : Fr none_ W (W.alloc (.cells #[.int .i64 y9] 3)) := (Fr.refl _ _).alloc _
      refine h.value hdst hj ho' rfl (some 88) rfl (v := .slice (some ⟨W.heap.size, 0, none⟩) 1 1) (w' := W.alloc (.cells #[.int .i64 y9] 3)) ?_ (fun _ _ h => h) (fun _ _ => by unfold FApp; simp) (hG.step6 hlen hz ⟨hk.mono (fun _ _ h => h.elim), hk⟩ ⟨W.heap.size, rfl, hws, Blk.new _ _ _⟩)
      simp [execOp, go_sem, evt' d5, hb2]
    · obtain rfl := Option.some.inj ho'
      have l4 : listed.getD 4 false = true := hd { on := 4, ground := .data } (by simp) rfl
      have l6 : listed.getD 6 false = true := hd { on := 6, ground := .data } (by simp) rfl
      have d4 := (h.val 4 86 l4 rfl).2.2.1 rfl
      obtain ⟨b, eb, hb0, hbk⟩ := hG.b9 l6
      have m7 := n0 7 (by decide) h0
      have m11 : listed.getD 11 false = false := by
        cases hl : listed.getD 11 false with
        | false => rfl
        | true => rw [← h.cl 11 _ { on := 7, ground := .chain } rfl hl (by simp) rfl]; exact m7.symm ▸ rfl
      have m13 : listed.getD 13 false = false := by
        cases hl : listed.getD 13 false with
        | false => rfl
        | true => rw [← h.cl 13 _ { on := 7, ground := .data } rfl hl (by simp) rfl]; exact m7.symm ▸ rfl
      have hrow := hG.r9
      rw [m7] at hrow
      have hrow : W.ownsRow B 3 1 v9 n xs9 := hrow
      refine h.op hdst hj ho' rfl (some 89) rfl fun K hK => ?_
      refine wp_append_lies W (.tmp 86) (.tmp 88) 43 rfl B 3 iI (.int .i64 0) 1 8 Try.underlying43 hiI zI1 zI2 zI3 rfl (by decide) v9 n xs9 d4 hrow ⟨b, 0, none⟩ 1 1 [.int .i64 y9] eb rfl (World.news_of_block hbk) (by intro u hu; rw [List.mem_singleton.1 hu]; rfl) (by decide) (by simp only [maxLen]; omega) (by omega) (Nat.le_trans hB hws) _ rfl ?_
      intro g c w' hown hgr hat hgl
      exact hK _ _ (fun _ _ h => h) (fun _ _ => by unfold FApp; simp) (hG.step7 hlen hz ((grownBy_fr hgr).mono (fun _ _ h => h)) hl9 k98 k910 g c rfl hown hat hws m13 m11)
    · obtain rfl := Option.some.inj ho'
      have m14 : listed.getD 14 false = false := by
        cases hl : listed.getD 14 false with
        | false => rfl
        | true => rw [← h.cl 14 _ { on := 8, ground := .phase } rfl hl (by simp) rfl]; exact (n0 8 (by decide) h0).symm ▸ rfl
      have f10 := h.yet hdst 10 (i := 14) rfl rfl m14 e10
      refine h.quiet hdst hj ho' rfl (some 90) rfl (v := v10) ?_ ?_ (hG.keep (Fr.refl _ _) (by decide) (by decide))
      · simp [execOp, go_sem, evt' f10]
      · unfold FApp; simp
    · obtain rfl := Option.some.inj ho'
      have f13 := h.free 13 (by kernel_rfl) e13
      have hqW : Blk W q (u.cells A0 c0) 37 := hq.keep hG.fr (fun e => by rcases e with e | e | e; exact hq8 e; exact hq9 e; exact hq10 e)
      have q0 : W.cell? ⟨q, 0, none⟩ = some (.int .u8 u.k) := hqW.cell 0
      have q1 : W.cell? ⟨q, 1, none⟩ = some (.int .i64 u.n) := hqW.cell 1
      have q2 : W.cell? ⟨q, 2, none⟩ = some (.string u.s) := hqW.cell 2
      have q3 : W.cell? ⟨q, 3, none⟩ = some (.slice A0 u.l.length c0) := hqW.cell 3
      have q4 : W.cell? ⟨q, 4, none⟩ = some (.int .i64 u.r) := hqW.cell 4
      refine h.quiet hdst hj ho' rfl (some 91) rfl (v := .agg (u.cells A0 c0).toArray) ?_ ?_ (hG.keep (Fr.refl _ _) (by decide) (by decide))
      · simp [execOp, go_sem, evt' f13, q0, q1, q2, q3, q4, Try.underlying37]
      · unfold FApp; simp
    · obtain rfl := Option.some.inj ho'
      have l9 : listed.getD 9 false = true := hd { on := 9, ground := .data } (by simp) rfl
      have d9 := (h.val 9 91 l9 rfl).2.2.2.2.2 rfl
      have hk : Fr none_ W (W.alloc (.cells (u.cells A0 c0).toArray 37)) := (Fr.refl _ _).alloc _
      refine h.value hdst hj ho' rfl (some 92) rfl (v := .slice (some ⟨W.heap.size, 0, none⟩) 1 1) (w' := W.alloc (.cells (u.cells A0 c0).toArray 37)) ?_ (fun _ _ h => h) (fun _ _ => by unfold FApp; simp) (hG.step10 hlen hz ⟨hk.mono (fun _ _ h => h.elim), hk⟩ ⟨W.heap.size, rfl, hws, Blk.new _ _ _⟩)
      simp [execOp, go_sem, evt' d9, hb3]
    · obtain rfl := Option.some.inj ho'
      have l8 : listed.getD 8 false = true := hd { on := 8, ground := .data } (by simp) rfl
      have l10 : listed.getD 10 false = true := hd { on := 10, ground := .data } (by simp) rfl
      have d8 := (h.val 8 90 l8 rfl).2.2.2.2.1 rfl
      obtain ⟨b, eb, hb0, hbk⟩ := hG.b10 l10
      have m11 := n0 11 (by decide) h0
      have m14 : listed.getD 14 false = false := by
        cases hl : listed.getD 14 false with
        | false => rfl
        | true => rw [← h.cl 14 _ { on := 11, ground := .data } rfl hl (by simp) rfl]; exact m11.symm ▸ rfl
      have hrow := hG.r10
      rw [m11] at hrow
      have hrow : W.ownsRow B 37 5 v10 n xs10 := hrow
      refine h.op hdst hj ho' rfl (some 93) rfl fun K hK => ?_
      refine wp_append_lies W (.tmp 90) (.tmp 92) 35 rfl B 37 iV _ 5 64 Try.underlying35 hiV zV1 zV2 zV3 rfl (by decide) v10 n xs10 d8 hrow ⟨b, 0, none⟩ 1 1 (u.cells A0 c0) eb rfl (World.news_of_block hbk) (by intro u hu; simp at hu; rcases hu with rfl | rfl | rfl | rfl | rfl <;> rfl) (by decide) (by simp only [maxLen]; omega) (by omega) (Nat.le_trans hB hws) _ rfl ?_
      intro g c w' hown hgr hat hgl
      exact hK _ _ (fun _ _ h => h) (fun _ _ => by unfold FApp; simp) (hG.step11 hlen hz ((grownBy_fr hgr).mono (fun _ _ h => h)) hl10 k108 k109 g c rfl hown hat hws m14)
    · obtain rfl := Option.some.inj ho'
      refine h.quiet hdst hj ho' rfl (some 8) rfl (v := a.eval (.tmp 85)) ?_ ?_ (hG.step12 hlen hz rfl)
      · simp [execOp, go_sem]
      · unfold FApp; simp
    · obtain rfl := Option.some.inj ho'
      refine h.quiet hdst hj ho' rfl (some 9) rfl (v := a.eval (.tmp 89)) ?_ ?_ (hG.step13 hlen hz rfl)
      · simp [execOp, go_sem]
      · unfold FApp; simp
    · obtain rfl := Option.some.inj ho'
      refine h.quiet hdst hj ho' rfl (some 10) rfl (v := a.eval (.tmp 93)) ?_ ?_ (hG.step14 hlen hz rfl)
      · simp [execOp, go_sem]
      · unfold FApp; simp
  · intro listed a W h hall
    have hG := h.g
    have h8' := hG.r8; have h9' := hG.r9; have h10' := hG.r10
    have m1 := hG.n1 (hall 3 (by decide)) (hall 7 (by decide))
    have m2 := hG.n2 (hall 3 (by decide)) (hall 11 (by decide))
    have m3 := hG.n3 (hall 7 (by decide)) (hall 11 (by decide))
    have c8 := hG.c8 (hall 12 (by decide))
    have c9 := hG.c9 (hall 13 (by decide))
    have c10 := hG.c10 (hall 14 (by decide))
    rw [hall 3 (by decide)] at h8'
    rw [hall 7 (by decide)] at h9'
    rw [hall 11 (by decide)] at h10'
    obtain ⟨g8, d8, x8, o8, t8⟩ := h8'
    obtain ⟨g9, d9, x9, o9, t9⟩ := h9'
    obtain ⟨g10, d10, x10, o10, t10⟩ := h10'
    rw [x8] at o8 c8 m1 m2
    rw [x9] at o9 c9 m1 m3
    rw [x10] at o10 c10 m2 m3
    rw [h.back [82, 83, 84, 85, 86, 87, 88, 89, 90, 91, 92, 93, 8, 9, 10] (by kernel_rfl)]
    exact hQ (fun t => a.eval (.tmp t)) W g8 d8 g9 d9 g10 d10 o8 o9 o10 t8 t9 t10 (fun e => m1 (by rw [e]; rfl)) (fun e => m2 (by rw [e]; rfl)) (fun e => m3 (by rw [e]; rfl)) hG.fr c8 c9 c10
end Go.Proofs.Ytpgjbbefgacjkaa

/- Regions 25 and 29 of 'SealSealed': what was told is held against what was sealed. -/
namespace Go.Proofs.Ytpgjbbefgacjkaa
open Go.RowKit
set_option linter.unusedSimpArgs false
set_option linter.unusedVariables false
theorem alike_self (u : V) : alikeV u u = true := by
  induction u using V.ind with
  | h k n s l r ih =>
    have hl : ∀ l : List V, (∀ x, x ∈ l → alikeV x x = true) → alikeL l l = true := by
      intro l
      induction l with
      | nil => intro _; unfold alikeL; rfl
      | cons x l il =>
        intro h
        rw [alikeL, h x (List.mem_cons_self ..), il (fun y hy => h y (List.mem_cons_of_mem _ hy))]
        rfl
    rw [alikeV]
    simp [hl l ih, V.k, V.n, V.s, V.l, V.r]
set_option maxRecDepth 100000 in
set_option maxHeartbeats 1000000 in
theorem nothing_zero0 (w : World) (A1 : Option Addr) (c1 : Nat) : Calls Try.prog 21 #[V.zero.agg A1 c1] w (Bool_ w true) := by
  have hz := zero_Value
  go_enter Try.func21, Try.ntmps21
  have hv : ∀ W : World, RV W none_ True V.zero (V.zero.cells none 0) := by
    intro W
    unfold V.zero RV RVs
    refine ⟨by unfold U8; omega, by unfold I64; omega, by unfold I64; omega, ?_, by simp, none, 0, rfl, Nat.zero_le _, trivial⟩
    exact Nat.zero_le _
  have hv' : ∀ W : World, RV W none_ True V.zero (V.zero.cells A1 c1) := by
    intro W
    unfold V.zero RV RVs
    refine ⟨by unfold U8; omega, by unfold I64; omega, by unfold I64; omega, ?_, by simp, A1, c1, rfl, Nat.zero_le _, trivial⟩
    exact Nat.zero_le _
  go_wp2_with fail
  refine (alike_any V.zero V.zero (List.mem_singleton_self _) V.zero none_ none_ True True A1 none c1 0 _ (hv' _) (hv _) (fun _ h => h.elim) (fun _ h => h.elim)).mono ?_
  rintro e w1 ⟨rfl, hf⟩
  rw [alike_self]
  have HF := Lib.hid hf; clear hf
  go_wp2
  go_ret
  exact ⟨rfl, Fr.trans (by repeat (first | exact Fr.refl _ _ | refine Fr.alloc ?_ _)) HF.out⟩

set_option maxRecDepth 100000 in
set_option maxHeartbeats 4000000 in
theorem reg25y (b qb qo hb hO i k n qcap hcap : Nat) (u : V) (A1 A2 : Option Addr) (c1 c2 : Nat) (D1 D2 : Nat → Prop) (z1 z2 : Prop) (hi : i < n) (hn : n ≤ 60) (a0 : Act) (w : World) (hsz : a0.tmps.size = 191)
    (s9 : a0.tmps[9]? = some (.slice (some ⟨qb, qo, none⟩) n qcap)) (s10 : a0.tmps[10]? = some (.slice (some ⟨hb, hO, none⟩) n hcap)) (s16 : a0.tmps[16]? = some (.int .i64 (i : Int))) (s17 : a0.tmps[17]? = some (.int .i64 (k : Int))) (s18 : a0.tmps[18]? = some (.pointer (some ⟨b, 0, none⟩))) (s19 : a0.tmps[19]? = some (.int .i64 0))
    (hb0 : Blk w b (u.cells A1 c1) 37) (hq : w.cell? ⟨qb, qo + i, none⟩ = some (.int .i64 (k : Int))) (hh : ∀ j, j < 5 → w.cell? ⟨hb, hO + i * 5 + j, none⟩ = (u.cells A2 c2)[j]?)
    (hu1 : RV w D1 z1 u (u.cells A1 c1)) (hD1 : ∀ j, D1 j → j < w.heap.size) (hu2 : RV w D2 z2 u (u.cells A2 c2)) (hD2 : ∀ j, D2 j → j < w.heap.size)
    (Q : Exit → Act → World → Prop) (hQ : ∀ W, Fr none_ w W → Q .normal ⟨backF [some 118, some 119, some 120, some 121, some 122, some 123, some 124, some 125, some 126, some 127, some 128, some 129, some 130, some 131, some 132, some 133, some 134, some 135, some 136, some 137, some 138, some 139, some 140, some 141, some 142, some 143, some 144, some 145, some 146, some 147, some 148, some 149, some 150, some 151, some 152, some 153] [.int .i64 (k : Int), .slice (some ⟨qb, qo, none⟩) n qcap, .int .i64 (i : Int), (.pointer (some ⟨qb, qo + i, none⟩)), (.int .i64 (k : Int)), (.bool true), (.bool true), .int .i64 0, (.bool false), (.bool false), (u.agg A1 c1), .slice (some ⟨hb, hO, none⟩) n hcap, .int .i64 (i : Int), (.pointer (some ⟨hb, hO + i * 5, none⟩)), (u.agg A2 c2), (.bool true), (.bool false), (.bool false), (.bool false), (.bool false), .int .i64 (k : Int), .slice (some ⟨qb, qo, none⟩) n qcap, .int .i64 (i : Int), (.pointer (some ⟨qb, qo + i, none⟩)), (.int .i64 (k : Int)), (.bool false), (.bool false), undef, undef, undef, undef, undef, undef, undef, (Value.bool false), (Value.bool false)] a0.tmps, a0.defers⟩ W) :
    (Code.region 25 (opsOf Try.f6 25) true).wp Try.prog Q a0 w := by
  have hi0 : (0 : Int) ≤ (i : Int) := by omega
  have hi1 : (i : Int) < (n : Int) := by omega
  obtain ⟨ops, hops⟩ : ∃ ops, ops = opsOf Try.f6 25 := ⟨_, rfl⟩
  rw [← hops]
  conv at hops => rhs; whnf
  have hdst : dstB ops a0.tmps.size = true := by rw [hsz, hops]; kernel_rfl
  subst hops
  refine wp_region_fix [.int .i64 (k : Int), .slice (some ⟨qb, qo, none⟩) n qcap, .int .i64 (i : Int), (.pointer (some ⟨qb, qo + i, none⟩)), (.int .i64 (k : Int)), (.bool true), (.bool true), .int .i64 0, (.bool false), (.bool false), (u.agg A1 c1), .slice (some ⟨hb, hO, none⟩) n hcap, .int .i64 (i : Int), (.pointer (some ⟨hb, hO + i * 5, none⟩)), (u.agg A2 c2), (.bool true), (.bool false), (.bool false), (.bool false), (.bool false), .int .i64 (k : Int), .slice (some ⟨qb, qo, none⟩) n qcap, .int .i64 (i : Int), (.pointer (some ⟨qb, qo + i, none⟩)), (.int .i64 (k : Int)), (.bool false), (.bool false), undef, undef, undef, undef, undef, undef, undef, (Value.bool false), (Value.bool false)]  (by kernel_rfl) (by kernel_rfl) hdst (by kernel_rfl) rfl [some 118, some 119, some 120, some 121, some 122, some 123, some 124, some 125, some 126, some 127, some 128, some 129, some 130, some 131, some 132, some 133, some 134, some 135, some 136, some 137, some 138, some 139, some 140, some 141, some 142, some 143, some 144, some 145, some 146, some 147, some 148, some 149, some 150, some 151, some 152, some 153] rfl ?_  ?_ hQ
  · intro ix hix hwx
    have hix : ix < 36 := hix
    rcases (show ix = 0 ∨ ix = 1 ∨ ix = 2 ∨ ix = 3 ∨ ix = 4 ∨ ix = 5 ∨ ix = 6 ∨ ix = 7 ∨ ix = 8 ∨ ix = 9 ∨ ix = 10 ∨ ix = 11 ∨ ix = 12 ∨ ix = 13 ∨ ix = 14 ∨ ix = 15 ∨ ix = 16 ∨ ix = 17 ∨ ix = 18 ∨ ix = 19 ∨ ix = 20 ∨ ix = 21 ∨ ix = 22 ∨ ix = 23 ∨ ix = 24 ∨ ix = 25 ∨ ix = 26 ∨ ix = 27 ∨ ix = 28 ∨ ix = 29 ∨ ix = 30 ∨ ix = 31 ∨ ix = 32 ∨ ix = 33 ∨ ix = 34 ∨ ix = 35 by omega) with rfl | rfl | rfl | rfl | rfl | rfl | rfl | rfl | rfl | rfl | rfl | rfl | rfl | rfl | rfl | rfl | rfl | rfl | rfl | rfl | rfl | rfl | rfl | rfl | rfl | rfl | rfl | rfl | rfl | rfl | rfl | rfl | rfl | rfl | rfl | rfl
    · exact absurd (hwx.symm.trans (show wantB _ _ 0 = true from by kernel_rfl)) (by decide)
    · exact absurd (hwx.symm.trans (show wantB _ _ 1 = true from by kernel_rfl)) (by decide)
    · exact absurd (hwx.symm.trans (show wantB _ _ 2 = true from by kernel_rfl)) (by decide)
    · exact absurd (hwx.symm.trans (show wantB _ _ 3 = true from by kernel_rfl)) (by decide)
    · exact absurd (hwx.symm.trans (show wantB _ _ 4 = true from by kernel_rfl)) (by decide)
    · exact absurd (hwx.symm.trans (show wantB _ _ 5 = true from by kernel_rfl)) (by decide)
    · exact absurd (hwx.symm.trans (show wantB _ _ 6 = true from by kernel_rfl)) (by decide)
    · exact absurd (hwx.symm.trans (show wantB _ _ 7 = true from by kernel_rfl)) (by decide)
    · exact absurd (hwx.symm.trans (show wantB _ _ 8 = true from by kernel_rfl)) (by decide)
    · exact absurd (hwx.symm.trans (show wantB _ _ 9 = true from by kernel_rfl)) (by decide)
    · exact absurd (hwx.symm.trans (show wantB _ _ 10 = true from by kernel_rfl)) (by decide)
    · exact absurd (hwx.symm.trans (show wantB _ _ 11 = true from by kernel_rfl)) (by decide)
    · exact absurd (hwx.symm.trans (show wantB _ _ 12 = true from by kernel_rfl)) (by decide)
    · exact absurd (hwx.symm.trans (show wantB _ _ 13 = true from by kernel_rfl)) (by decide)
    · exact absurd (hwx.symm.trans (show wantB _ _ 14 = true from by kernel_rfl)) (by decide)
    · exact absurd (hwx.symm.trans (show wantB _ _ 15 = true from by kernel_rfl)) (by decide)
    · exact absurd (hwx.symm.trans (show wantB _ _ 16 = true from by kernel_rfl)) (by decide)
    · exact absurd (hwx.symm.trans (show wantB _ _ 17 = true from by kernel_rfl)) (by decide)
    · exact absurd (hwx.symm.trans (show wantB _ _ 18 = true from by kernel_rfl)) (by decide)
    · exact absurd (hwx.symm.trans (show wantB _ _ 19 = true from by kernel_rfl)) (by decide)
    · exact absurd (hwx.symm.trans (show wantB _ _ 20 = true from by kernel_rfl)) (by decide)
    · exact absurd (hwx.symm.trans (show wantB _ _ 21 = true from by kernel_rfl)) (by decide)
    · exact absurd (hwx.symm.trans (show wantB _ _ 22 = true from by kernel_rfl)) (by decide)
    · exact absurd (hwx.symm.trans (show wantB _ _ 23 = true from by kernel_rfl)) (by decide)
    · exact absurd (hwx.symm.trans (show wantB _ _ 24 = true from by kernel_rfl)) (by decide)
    · exact absurd (hwx.symm.trans (show wantB _ _ 25 = true from by kernel_rfl)) (by decide)
    · exact absurd (hwx.symm.trans (show wantB _ _ 26 = true from by kernel_rfl)) (by decide)
    · rfl
    · rfl
    · rfl
    · rfl
    · rfl
    · rfl
    · rfl
    · exact absurd (hwx.symm.trans (show wantB _ _ 34 = true from by kernel_rfl)) (by decide)
    · exact absurd (hwx.symm.trans (show wantB _ _ 35 = true from by kernel_rfl)) (by decide)
  · intro ix hix hwx ax W T ox vx hox hvx Kc hKc
    have hix : ix < 36 := hix
    rcases (show ix = 0 ∨ ix = 1 ∨ ix = 2 ∨ ix = 3 ∨ ix = 4 ∨ ix = 5 ∨ ix = 6 ∨ ix = 7 ∨ ix = 8 ∨ ix = 9 ∨ ix = 10 ∨ ix = 11 ∨ ix = 12 ∨ ix = 13 ∨ ix = 14 ∨ ix = 15 ∨ ix = 16 ∨ ix = 17 ∨ ix = 18 ∨ ix = 19 ∨ ix = 20 ∨ ix = 21 ∨ ix = 22 ∨ ix = 23 ∨ ix = 24 ∨ ix = 25 ∨ ix = 26 ∨ ix = 27 ∨ ix = 28 ∨ ix = 29 ∨ ix = 30 ∨ ix = 31 ∨ ix = 32 ∨ ix = 33 ∨ ix = 34 ∨ ix = 35 by omega) with rfl | rfl | rfl | rfl | rfl | rfl | rfl | rfl | rfl | rfl | rfl | rfl | rfl | rfl | rfl | rfl | rfl | rfl | rfl | rfl | rfl | rfl | rfl | rfl | rfl | rfl | rfl | rfl | rfl | rfl | rfl | rfl | rfl | rfl | rfl | rfl
    · obtain rfl := Option.some.inj hox
      obtain rfl := Option.some.inj hvx
      have d17 := T.old 17 _ (by kernel_rfl) s17
      exact fix_value (by simp [execOp, go_sem, d17]) hKc
    · obtain rfl := Option.some.inj hox
      obtain rfl := Option.some.inj hvx
      have d9 := T.old 9 _ (by kernel_rfl) s9
      exact fix_value (by simp [execOp, go_sem, d9]) hKc
    · obtain rfl := Option.some.inj hox
      obtain rfl := Option.some.inj hvx
      have d16 := T.old 16 _ (by kernel_rfl) s16
      exact fix_value (by simp [execOp, go_sem, d16]) hKc
    · obtain rfl := Option.some.inj hox
      obtain rfl := Option.some.inj hvx
      have d119 := T.dep 1 119 (.slice (some ⟨qb, qo, none⟩) n qcap) (by kernel_rfl) rfl rfl
      have d120 := T.dep 2 120 (.int .i64 (i : Int)) (by kernel_rfl) rfl rfl
      exact fix_value (by simp [execOp, go_sem, d119, d120, Try.underlying43, hi0, hi1, hi]) hKc
    · obtain rfl := Option.some.inj hox
      obtain rfl := Option.some.inj hvx
      have d121 := T.dep 3 121 ((.pointer (some ⟨qb, qo + i, none⟩))) (by kernel_rfl) rfl rfl
      have qc := T.fr.cellN hq
      exact fix_value (by simp [execOp, go_sem, d121, qc, Try.underlying3]) hKc
    · obtain rfl := Option.some.inj hox
      obtain rfl := Option.some.inj hvx
      have d118 := T.dep 0 118 (.int .i64 (k : Int)) (by kernel_rfl) rfl rfl
      have d122 := T.dep 4 122 ((.int .i64 (k : Int))) (by kernel_rfl) rfl rfl
      exact fix_value (by simp [execOp, go_sem, d118, d122]) hKc
    · obtain rfl := Option.some.inj hox
      obtain rfl := Option.some.inj hvx
      have d123 := T.dep 5 123 ((.bool true)) (by kernel_rfl) rfl rfl
      exact fix_value (by simp [execOp, go_sem, d123]) hKc
    · obtain rfl := Option.some.inj hox
      obtain rfl := Option.some.inj hvx
      have d19 := T.old 19 _ (by kernel_rfl) s19
      exact fix_value (by simp [execOp, go_sem, d19]) hKc
    · obtain rfl := Option.some.inj hox
      obtain rfl := Option.some.inj hvx
      have d125 := T.dep 7 125 (.int .i64 0) (by kernel_rfl) rfl rfl
      exact fix_value (by simp [execOp, go_sem, d125]) hKc
    · obtain rfl := Option.some.inj hox
      obtain rfl := Option.some.inj hvx
      have d126 := T.dep 8 126 ((.bool false)) (by kernel_rfl) rfl rfl
      exact fix_value (by simp [execOp, go_sem, d126]) hKc
    · obtain rfl := Option.some.inj hox
      obtain rfl := Option.some.inj hvx
      have d18 := T.old 18 _ (by kernel_rfl) s18
      have bW := hb0.keep T.fr (fun h => h)
      have q0 := bW.cell 0; have q1 := bW.cell 1; have q2 := bW.cell 2; have q3 := bW.cell 3; have q4 := bW.cell 4
      simp only [V.cells, List.getElem?_cons_zero, List.getElem?_cons_succ] at q0 q1 q2 q3 q4
      exact fix_value (by simp [execOp, go_sem, d18, q0, q1, q2, q3, q4, Try.underlying37]) hKc
    · obtain rfl := Option.some.inj hox
      obtain rfl := Option.some.inj hvx
      have d10 := T.old 10 _ (by kernel_rfl) s10
      exact fix_value (by simp [execOp, go_sem, d10]) hKc
    · obtain rfl := Option.some.inj hox
      obtain rfl := Option.some.inj hvx
      have d16 := T.old 16 _ (by kernel_rfl) s16
      exact fix_value (by simp [execOp, go_sem, d16]) hKc
    · obtain rfl := Option.some.inj hox
      obtain rfl := Option.some.inj hvx
      have d129 := T.dep 11 129 (.slice (some ⟨hb, hO, none⟩) n hcap) (by kernel_rfl) rfl rfl
      have d130 := T.dep 12 130 (.int .i64 (i : Int)) (by kernel_rfl) rfl rfl
      exact fix_value (by simp [execOp, go_sem, d129, d130, Try.underlying35, hi0, hi1, hi]) hKc
    · obtain rfl := Option.some.inj hox
      obtain rfl := Option.some.inj hvx
      have d131 := T.dep 13 131 ((.pointer (some ⟨hb, hO + i * 5, none⟩))) (by kernel_rfl) rfl rfl
      have q0 := T.fr.cellN (hh 0 (by omega)); have q1 := T.fr.cellN (hh 1 (by omega)); have q2 := T.fr.cellN (hh 2 (by omega)); have q3 := T.fr.cellN (hh 3 (by omega)); have q4 := T.fr.cellN (hh 4 (by omega))
      simp only [Nat.add_assoc, Nat.add_zero] at q0 q1 q2 q3 q4
      exact fix_value (by simp [execOp, go_sem, d131, q0, q1, q2, q3, q4, Try.underlying37, Nat.add_assoc]) hKc
    · obtain rfl := Option.some.inj hox
      obtain rfl := Option.some.inj hvx
      have d128 := T.dep 10 128 ((u.agg A1 c1)) (by kernel_rfl) rfl rfl
      have d132 := T.dep 14 132 ((u.agg A2 c2)) (by kernel_rfl) rfl rfl
      exact fix_call 20 _ _ _ #[u.agg A1 c1, u.agg A2 c2] rfl Try.func20 (by kernel_rfl) rfl (by simp [Act.eval, d128, d132]) (alike_any u u (List.mem_singleton_self u) u D1 D2 z1 z2 A1 A2 c1 c2 W (hu1.fr T.fr (fun _ _ h => h)) (hu2.fr T.fr (fun _ _ h => h)) (fun j hj => Nat.lt_of_lt_of_le (hD1 j hj) T.fr.size) (fun j hj => Nat.lt_of_lt_of_le (hD2 j hj) T.fr.size)) (by rintro e w2 ⟨rfl, hf⟩; rw [alike_self]; exact ⟨rfl, hf⟩) hKc
    · obtain rfl := Option.some.inj hox
      obtain rfl := Option.some.inj hvx
      have d133 := T.dep 15 133 ((.bool true)) (by kernel_rfl) rfl rfl
      exact fix_value (by simp [execOp, go_sem, d133]) hKc
    · obtain rfl := Option.some.inj hox
      obtain rfl := Option.some.inj hvx
      have d127 := T.dep 9 127 ((.bool false)) (by kernel_rfl) rfl rfl
      have d134 := T.dep 16 134 ((.bool false)) (by kernel_rfl) rfl rfl
      exact fix_value (by simp [execOp, go_sem, d127, d134]) hKc
    · obtain rfl := Option.some.inj hox
      obtain rfl := Option.some.inj hvx
      have d124 := T.dep 6 124 ((.bool true)) (by kernel_rfl) rfl rfl
      have d135 := T.dep 17 135 ((.bool false)) (by kernel_rfl) rfl rfl
      exact fix_value (by simp [execOp, go_sem, d124, d135]) hKc
    · obtain rfl := Option.some.inj hox
      obtain rfl := Option.some.inj hvx
      have d136 := T.dep 18 136 ((.bool false)) (by kernel_rfl) rfl rfl
      exact fix_value (by simp [execOp, go_sem, d136]) hKc
    · obtain rfl := Option.some.inj hox
      obtain rfl := Option.some.inj hvx
      have d17 := T.old 17 _ (by kernel_rfl) s17
      exact fix_value (by simp [execOp, go_sem, d17]) hKc
    · obtain rfl := Option.some.inj hox
      obtain rfl := Option.some.inj hvx
      have d9 := T.old 9 _ (by kernel_rfl) s9
      exact fix_value (by simp [execOp, go_sem, d9]) hKc
    · obtain rfl := Option.some.inj hox
      obtain rfl := Option.some.inj hvx
      have d16 := T.old 16 _ (by kernel_rfl) s16
      exact fix_value (by simp [execOp, go_sem, d16]) hKc
    · obtain rfl := Option.some.inj hox
      obtain rfl := Option.some.inj hvx
      have d139 := T.dep 21 139 (.slice (some ⟨qb, qo, none⟩) n qcap) (by kernel_rfl) rfl rfl
      have d140 := T.dep 22 140 (.int .i64 (i : Int)) (by kernel_rfl) rfl rfl
      exact fix_value (by simp [execOp, go_sem, d139, d140, Try.underlying43, hi0, hi1, hi]) hKc
    · obtain rfl := Option.some.inj hox
      obtain rfl := Option.some.inj hvx
      have d141 := T.dep 23 141 ((.pointer (some ⟨qb, qo + i, none⟩))) (by kernel_rfl) rfl rfl
      have qc := T.fr.cellN hq
      exact fix_value (by simp [execOp, go_sem, d141, qc, Try.underlying3]) hKc
    · obtain rfl := Option.some.inj hox
      obtain rfl := Option.some.inj hvx
      have d138 := T.dep 20 138 (.int .i64 (k : Int)) (by kernel_rfl) rfl rfl
      have d142 := T.dep 24 142 ((.int .i64 (k : Int))) (by kernel_rfl) rfl rfl
      exact fix_value (by simp [execOp, go_sem, d138, d142]) hKc
    · obtain rfl := Option.some.inj hox
      obtain rfl := Option.some.inj hvx
      have d143 := T.dep 25 143 ((.bool false)) (by kernel_rfl) rfl rfl
      exact fix_value (by simp [execOp, go_sem, d143]) hKc
    · exact absurd (hwx.symm.trans (show wantB _ _ 27 = false from by kernel_rfl)) (by decide)
    · exact absurd (hwx.symm.trans (show wantB _ _ 28 = false from by kernel_rfl)) (by decide)
    · exact absurd (hwx.symm.trans (show wantB _ _ 29 = false from by kernel_rfl)) (by decide)
    · exact absurd (hwx.symm.trans (show wantB _ _ 30 = false from by kernel_rfl)) (by decide)
    · exact absurd (hwx.symm.trans (show wantB _ _ 31 = false from by kernel_rfl)) (by decide)
    · exact absurd (hwx.symm.trans (show wantB _ _ 32 = false from by kernel_rfl)) (by decide)
    · exact absurd (hwx.symm.trans (show wantB _ _ 33 = false from by kernel_rfl)) (by decide)
    · obtain rfl := Option.some.inj hox
      obtain rfl := Option.some.inj hvx
      have d144 := T.dep 26 144 ((.bool false)) (by kernel_rfl) rfl rfl
      have d151 := T.dep 33 151 (undef) (by kernel_rfl) rfl rfl
      exact fix_value (by simp [execOp, go_sem, d144, d151]) hKc
    · obtain rfl := Option.some.inj hox
      obtain rfl := Option.some.inj hvx
      have d137 := T.dep 19 137 ((.bool false)) (by kernel_rfl) rfl rfl
      have d152 := T.dep 34 152 ((Value.bool false)) (by kernel_rfl) rfl rfl
      exact fix_value (by simp [execOp, go_sem, d137, d152]) hKc

set_option maxRecDepth 100000 in
set_option maxHeartbeats 4000000 in
theorem reg25n (b qb qo hb hO i k kp n qcap hcap : Nat) (u : V) (A1 A2 : Option Addr) (c1 c2 : Nat) (D1 D2 : Nat → Prop) (z1 z2 : Prop) (hi : i < n) (hn : n ≤ 60) (a0 : Act) (w : World) (hsz : a0.tmps.size = 191)
    (s9 : a0.tmps[9]? = some (.slice (some ⟨qb, qo, none⟩) n qcap)) (s16 : a0.tmps[16]? = some (.int .i64 (i : Int))) (s17 : a0.tmps[17]? = some (.int .i64 (k : Int))) (s18 : a0.tmps[18]? = some (.pointer (some ⟨b, 0, none⟩))) (s19 : a0.tmps[19]? = some (.int .i64 91))
    (hb0 : Blk w b (V.zero.cells A1 c1) 37) (hq : w.cell? ⟨qb, qo + i, none⟩ = some (.int .i64 (kp : Int))) (hk : kp ≠ k)
    (Q : Exit → Act → World → Prop) (hQ : ∀ W, Fr none_ w W → Q .normal ⟨backF [some 118, some 119, some 120, some 121, some 122, some 123, some 124, some 125, some 126, some 127, some 128, some 129, some 130, some 131, some 132, some 133, some 134, some 135, some 136, some 137, some 138, some 139, some 140, some 141, some 142, some 143, some 144, some 145, some 146, some 147, some 148, some 149, some 150, some 151, some 152, some 153] [.int .i64 (k : Int), .slice (some ⟨qb, qo, none⟩) n qcap, .int .i64 (i : Int), (.pointer (some ⟨qb, qo + i, none⟩)), (.int .i64 (kp : Int)), (.bool false), (.bool false), undef, undef, undef, undef, undef, undef, undef, undef, undef, undef, undef, (Value.bool false), (Value.bool false), .int .i64 (k : Int), .slice (some ⟨qb, qo, none⟩) n qcap, .int .i64 (i : Int), (.pointer (some ⟨qb, qo + i, none⟩)), (.int .i64 (kp : Int)), (.bool true), (.bool true), .int .i64 91, (.bool false), (.bool false), (V.zero.agg A1 c1), (.bool true), (.bool false), (.bool false), (.bool false), (.bool false)] a0.tmps, a0.defers⟩ W) :
    (Code.region 25 (opsOf Try.f6 25) true).wp Try.prog Q a0 w := by
  have hi0 : (0 : Int) ≤ (i : Int) := by omega
  have hi1 : (i : Int) < (n : Int) := by omega
  have hk1 : (k : Int) ≠ (kp : Int) := by omega
  have hk2 : ((k : Int) == (kp : Int)) = false := by simpa using hk1
  have hk3 : ((k : Int) != (kp : Int)) = true := by simpa using hk1
  obtain ⟨ops, hops⟩ : ∃ ops, ops = opsOf Try.f6 25 := ⟨_, rfl⟩
  rw [← hops]
  conv at hops => rhs; whnf
  have hdst : dstB ops a0.tmps.size = true := by rw [hsz, hops]; kernel_rfl
  subst hops
  refine wp_region_fix [.int .i64 (k : Int), .slice (some ⟨qb, qo, none⟩) n qcap, .int .i64 (i : Int), (.pointer (some ⟨qb, qo + i, none⟩)), (.int .i64 (kp : Int)), (.bool false), (.bool false), undef, undef, undef, undef, undef, undef, undef, undef, undef, undef, undef, (Value.bool false), (Value.bool false), .int .i64 (k : Int), .slice (some ⟨qb, qo, none⟩) n qcap, .int .i64 (i : Int), (.pointer (some ⟨qb, qo + i, none⟩)), (.int .i64 (kp : Int)), (.bool true), (.bool true), .int .i64 91, (.bool false), (.bool false), (V.zero.agg A1 c1), (.bool true), (.bool false), (.bool false), (.bool false), (.bool false)]  (by kernel_rfl) (by kernel_rfl) hdst (by kernel_rfl) rfl [some 118, some 119, some 120, some 121, some 122, some 123, some 124, some 125, some 126, some 127, some 128, some 129, some 130, some 131, some 132, some 133, some 134, some 135, some 136, some 137, some 138, some 139, some 140, some 141, some 142, some 143, some 144, some 145, some 146, some 147, some 148, some 149, some 150, some 151, some 152, some 153] rfl ?_  ?_ hQ
  · intro ix hix hwx
    have hix : ix < 36 := hix
    rcases (show ix = 0 ∨ ix = 1 ∨ ix = 2 ∨ ix = 3 ∨ ix = 4 ∨ ix = 5 ∨ ix = 6 ∨ ix = 7 ∨ ix = 8 ∨ ix = 9 ∨ ix = 10 ∨ ix = 11 ∨ ix = 12 ∨ ix = 13 ∨ ix = 14 ∨ ix = 15 ∨ ix = 16 ∨ ix = 17 ∨ ix = 18 ∨ ix = 19 ∨ ix = 20 ∨ ix = 21 ∨ ix = 22 ∨ ix = 23 ∨ ix = 24 ∨ ix = 25 ∨ ix = 26 ∨ ix = 27 ∨ ix = 28 ∨ ix = 29 ∨ ix = 30 ∨ ix = 31 ∨ ix = 32 ∨ ix = 33 ∨ ix = 34 ∨ ix = 35 by omega) with rfl | rfl | rfl | rfl | rfl | rfl | rfl | rfl | rfl | rfl | rfl | rfl | rfl | rfl | rfl | rfl | rfl | rfl | rfl | rfl | rfl | rfl | rfl | rfl | rfl | rfl | rfl | rfl | rfl | rfl | rfl | rfl | rfl | rfl | rfl | rfl
    · exact absurd (hwx.symm.trans (show wantB _ _ 0 = true from by kernel_rfl)) (by decide)
    · exact absurd (hwx.symm.trans (show wantB _ _ 1 = true from by kernel_rfl)) (by decide)
    · exact absurd (hwx.symm.trans (show wantB _ _ 2 = true from by kernel_rfl)) (by decide)
    · exact absurd (hwx.symm.trans (show wantB _ _ 3 = true from by kernel_rfl)) (by decide)
    · exact absurd (hwx.symm.trans (show wantB _ _ 4 = true from by kernel_rfl)) (by decide)
    · exact absurd (hwx.symm.trans (show wantB _ _ 5 = true from by kernel_rfl)) (by decide)
    · exact absurd (hwx.symm.trans (show wantB _ _ 6 = true from by kernel_rfl)) (by decide)
    · rfl
    · rfl
    · rfl
    · rfl
    · rfl
    · rfl
    · rfl
    · rfl
    · rfl
    · rfl
    · rfl
    · exact absurd (hwx.symm.trans (show wantB _ _ 18 = true from by kernel_rfl)) (by decide)
    · exact absurd (hwx.symm.trans (show wantB _ _ 19 = true from by kernel_rfl)) (by decide)
    · exact absurd (hwx.symm.trans (show wantB _ _ 20 = true from by kernel_rfl)) (by decide)
    · exact absurd (hwx.symm.trans (show wantB _ _ 21 = true from by kernel_rfl)) (by decide)
    · exact absurd (hwx.symm.trans (show wantB _ _ 22 = true from by kernel_rfl)) (by decide)
    · exact absurd (hwx.symm.trans (show wantB _ _ 23 = true from by kernel_rfl)) (by decide)
    · exact absurd (hwx.symm.trans (show wantB _ _ 24 = true from by kernel_rfl)) (by decide)
    · exact absurd (hwx.symm.trans (show wantB _ _ 25 = true from by kernel_rfl)) (by decide)
    · exact absurd (hwx.symm.trans (show wantB _ _ 26 = true from by kernel_rfl)) (by decide)
    · exact absurd (hwx.symm.trans (show wantB _ _ 27 = true from by kernel_rfl)) (by decide)
    · exact absurd (hwx.symm.trans (show wantB _ _ 28 = true from by kernel_rfl)) (by decide)
    · exact absurd (hwx.symm.trans (show wantB _ _ 29 = true from by kernel_rfl)) (by decide)
    · exact absurd (hwx.symm.trans (show wantB _ _ 30 = true from by kernel_rfl)) (by decide)
    · exact absurd (hwx.symm.trans (show wantB _ _ 31 = true from by kernel_rfl)) (by decide)
    · exact absurd (hwx.symm.trans (show wantB _ _ 32 = true from by kernel_rfl)) (by decide)
    · exact absurd (hwx.symm.trans (show wantB _ _ 33 = true from by kernel_rfl)) (by decide)
    · exact absurd (hwx.symm.trans (show wantB _ _ 34 = true from by kernel_rfl)) (by decide)
    · exact absurd (hwx.symm.trans (show wantB _ _ 35 = true from by kernel_rfl)) (by decide)
  · intro ix hix hwx ax W T ox vx hox hvx Kc hKc
    have hix : ix < 36 := hix
    rcases (show ix = 0 ∨ ix = 1 ∨ ix = 2 ∨ ix = 3 ∨ ix = 4 ∨ ix = 5 ∨ ix = 6 ∨ ix = 7 ∨ ix = 8 ∨ ix = 9 ∨ ix = 10 ∨ ix = 11 ∨ ix = 12 ∨ ix = 13 ∨ ix = 14 ∨ ix = 15 ∨ ix = 16 ∨ ix = 17 ∨ ix = 18 ∨ ix = 19 ∨ ix = 20 ∨ ix = 21 ∨ ix = 22 ∨ ix = 23 ∨ ix = 24 ∨ ix = 25 ∨ ix = 26 ∨ ix = 27 ∨ ix = 28 ∨ ix = 29 ∨ ix = 30 ∨ ix = 31 ∨ ix = 32 ∨ ix = 33 ∨ ix = 34 ∨ ix = 35 by omega) with rfl | rfl | rfl | rfl | rfl | rfl | rfl | rfl | rfl | rfl | rfl | rfl | rfl | rfl | rfl | rfl | rfl | rfl | rfl | rfl | rfl | rfl | rfl | rfl | rfl | rfl | rfl | rfl | rfl | rfl | rfl | rfl | rfl | rfl | rfl | rfl
    · obtain rfl := Option.some.inj hox
      obtain rfl := Option.some.inj hvx
      have d17 := T.old 17 _ (by kernel_rfl) s17
      exact fix_value (by simp [execOp, go_sem, d17]) hKc
    · obtain rfl := Option.some.inj hox
      obtain rfl := Option.some.inj hvx
      have d9 := T.old 9 _ (by kernel_rfl) s9
      exact fix_value (by simp [execOp, go_sem, d9]) hKc
    · obtain rfl := Option.some.inj hox
      obtain rfl := Option.some.inj hvx
      have d16 := T.old 16 _ (by kernel_rfl) s16
      exact fix_value (by simp [execOp, go_sem, d16]) hKc
    · obtain rfl := Option.some.inj hox
      obtain rfl := Option.some.inj hvx
      have d119 := T.dep 1 119 (.slice (some ⟨qb, qo, none⟩) n qcap) (by kernel_rfl) rfl rfl
      have d120 := T.dep 2 120 (.int .i64 (i : Int)) (by kernel_rfl) rfl rfl
      exact fix_value (by simp [execOp, go_sem, d119, d120, Try.underlying43, hi0, hi1, hi]) hKc
    · obtain rfl := Option.some.inj hox
      obtain rfl := Option.some.inj hvx
      have d121 := T.dep 3 121 ((.pointer (some ⟨qb, qo + i, none⟩))) (by kernel_rfl) rfl rfl
      have qc := T.fr.cellN hq
      exact fix_value (by simp [execOp, go_sem, d121, qc, Try.underlying3]) hKc
    · obtain rfl := Option.some.inj hox
      obtain rfl := Option.some.inj hvx
      have d118 := T.dep 0 118 (.int .i64 (k : Int)) (by kernel_rfl) rfl rfl
      have d122 := T.dep 4 122 ((.int .i64 (kp : Int))) (by kernel_rfl) rfl rfl
      exact fix_value (by simp [execOp, go_sem, d118, d122, hk1, hk2]) hKc
    · obtain rfl := Option.some.inj hox
      obtain rfl := Option.some.inj hvx
      have d123 := T.dep 5 123 ((.bool false)) (by kernel_rfl) rfl rfl
      exact fix_value (by simp [execOp, go_sem, d123]) hKc
    · exact absurd (hwx.symm.trans (show wantB _ _ 7 = false from by kernel_rfl)) (by decide)
    · exact absurd (hwx.symm.trans (show wantB _ _ 8 = false from by kernel_rfl)) (by decide)
    · exact absurd (hwx.symm.trans (show wantB _ _ 9 = false from by kernel_rfl)) (by decide)
    · exact absurd (hwx.symm.trans (show wantB _ _ 10 = false from by kernel_rfl)) (by decide)
    · exact absurd (hwx.symm.trans (show wantB _ _ 11 = false from by kernel_rfl)) (by decide)
    · exact absurd (hwx.symm.trans (show wantB _ _ 12 = false from by kernel_rfl)) (by decide)
    · exact absurd (hwx.symm.trans (show wantB _ _ 13 = false from by kernel_rfl)) (by decide)
    · exact absurd (hwx.symm.trans (show wantB _ _ 14 = false from by kernel_rfl)) (by decide)
    · exact absurd (hwx.symm.trans (show wantB _ _ 15 = false from by kernel_rfl)) (by decide)
    · exact absurd (hwx.symm.trans (show wantB _ _ 16 = false from by kernel_rfl)) (by decide)
    · exact absurd (hwx.symm.trans (show wantB _ _ 17 = false from by kernel_rfl)) (by decide)
    · obtain rfl := Option.some.inj hox
      obtain rfl := Option.some.inj hvx
      have d124 := T.dep 6 124 ((.bool false)) (by kernel_rfl) rfl rfl
      have d135 := T.dep 17 135 (undef) (by kernel_rfl) rfl rfl
      exact fix_value (by simp [execOp, go_sem, d124, d135]) hKc
    · obtain rfl := Option.some.inj hox
      obtain rfl := Option.some.inj hvx
      have d136 := T.dep 18 136 ((Value.bool false)) (by kernel_rfl) rfl rfl
      exact fix_value (by simp [execOp, go_sem, d136]) hKc
    · obtain rfl := Option.some.inj hox
      obtain rfl := Option.some.inj hvx
      have d17 := T.old 17 _ (by kernel_rfl) s17
      exact fix_value (by simp [execOp, go_sem, d17]) hKc
    · obtain rfl := Option.some.inj hox
      obtain rfl := Option.some.inj hvx
      have d9 := T.old 9 _ (by kernel_rfl) s9
      exact fix_value (by simp [execOp, go_sem, d9]) hKc
    · obtain rfl := Option.some.inj hox
      obtain rfl := Option.some.inj hvx
      have d16 := T.old 16 _ (by kernel_rfl) s16
      exact fix_value (by simp [execOp, go_sem, d16]) hKc
    · obtain rfl := Option.some.inj hox
      obtain rfl := Option.some.inj hvx
      have d139 := T.dep 21 139 (.slice (some ⟨qb, qo, none⟩) n qcap) (by kernel_rfl) rfl rfl
      have d140 := T.dep 22 140 (.int .i64 (i : Int)) (by kernel_rfl) rfl rfl
      exact fix_value (by simp [execOp, go_sem, d139, d140, Try.underlying43, hi0, hi1, hi]) hKc
    · obtain rfl := Option.some.inj hox
      obtain rfl := Option.some.inj hvx
      have d141 := T.dep 23 141 ((.pointer (some ⟨qb, qo + i, none⟩))) (by kernel_rfl) rfl rfl
      have qc := T.fr.cellN hq
      exact fix_value (by simp [execOp, go_sem, d141, qc, Try.underlying3]) hKc
    · obtain rfl := Option.some.inj hox
      obtain rfl := Option.some.inj hvx
      have d138 := T.dep 20 138 (.int .i64 (k : Int)) (by kernel_rfl) rfl rfl
      have d142 := T.dep 24 142 ((.int .i64 (kp : Int))) (by kernel_rfl) rfl rfl
      exact fix_value (by simp [execOp, go_sem, d138, d142, hk1, hk3]) hKc
    · obtain rfl := Option.some.inj hox
      obtain rfl := Option.some.inj hvx
      have d143 := T.dep 25 143 ((.bool true)) (by kernel_rfl) rfl rfl
      exact fix_value (by simp [execOp, go_sem, d143]) hKc
    · obtain rfl := Option.some.inj hox
      obtain rfl := Option.some.inj hvx
      have d19 := T.old 19 _ (by kernel_rfl) s19
      exact fix_value (by simp [execOp, go_sem, d19]) hKc
    · obtain rfl := Option.some.inj hox
      obtain rfl := Option.some.inj hvx
      have d145 := T.dep 27 145 (.int .i64 91) (by kernel_rfl) rfl rfl
      exact fix_value (by simp [execOp, go_sem, d145]) hKc
    · obtain rfl := Option.some.inj hox
      obtain rfl := Option.some.inj hvx
      have d146 := T.dep 28 146 ((.bool false)) (by kernel_rfl) rfl rfl
      exact fix_value (by simp [execOp, go_sem, d146]) hKc
    · obtain rfl := Option.some.inj hox
      obtain rfl := Option.some.inj hvx
      have d18 := T.old 18 _ (by kernel_rfl) s18
      have bW := hb0.keep T.fr (fun h => h)
      have q0 := bW.cell 0; have q1 := bW.cell 1; have q2 := bW.cell 2; have q3 := bW.cell 3; have q4 := bW.cell 4
      simp only [V.cells, List.getElem?_cons_zero, List.getElem?_cons_succ] at q0 q1 q2 q3 q4
      exact fix_value (by simp [execOp, go_sem, d18, q0, q1, q2, q3, q4, Try.underlying37]) hKc
    · obtain rfl := Option.some.inj hox
      obtain rfl := Option.some.inj hvx
      have d148 := T.dep 30 148 ((V.zero.agg A1 c1)) (by kernel_rfl) rfl rfl
      exact fix_call 21 _ _ _ #[V.zero.agg A1 c1] rfl Try.func21 (by kernel_rfl) rfl (by simp [Act.eval, d148]) (nothing_zero0 W A1 c1) (by rintro e w2 ⟨rfl, hf⟩; exact ⟨rfl, hf⟩) hKc
    · obtain rfl := Option.some.inj hox
      obtain rfl := Option.some.inj hvx
      have d149 := T.dep 31 149 ((.bool true)) (by kernel_rfl) rfl rfl
      exact fix_value (by simp [execOp, go_sem, d149]) hKc
    · obtain rfl := Option.some.inj hox
      obtain rfl := Option.some.inj hvx
      have d147 := T.dep 29 147 ((.bool false)) (by kernel_rfl) rfl rfl
      have d150 := T.dep 32 150 ((.bool false)) (by kernel_rfl) rfl rfl
      exact fix_value (by simp [execOp, go_sem, d147, d150]) hKc
    · obtain rfl := Option.some.inj hox
      obtain rfl := Option.some.inj hvx
      have d144 := T.dep 26 144 ((.bool true)) (by kernel_rfl) rfl rfl
      have d151 := T.dep 33 151 ((.bool false)) (by kernel_rfl) rfl rfl
      exact fix_value (by simp [execOp, go_sem, d144, d151]) hKc
    · obtain rfl := Option.some.inj hox
      obtain rfl := Option.some.inj hvx
      have d137 := T.dep 19 137 ((Value.bool false)) (by kernel_rfl) rfl rfl
      have d152 := T.dep 34 152 ((.bool false)) (by kernel_rfl) rfl rfl
      exact fix_value (by simp [execOp, go_sem, d137, d152]) hKc

set_option maxRecDepth 100000 in
set_option maxHeartbeats 4000000 in
theorem reg29y (b qb qo hb hO i k n qcap hcap : Nat) (u : V) (A1 A2 : Option Addr) (c1 c2 : Nat) (D1 D2 : Nat → Prop) (z1 z2 : Prop) (hi : i < n) (hn : n ≤ 60) (a0 : Act) (w : World) (hsz : a0.tmps.size = 191)
    (s9 : a0.tmps[9]? = some (.slice (some ⟨qb, qo, none⟩) n qcap)) (s10 : a0.tmps[10]? = some (.slice (some ⟨hb, hO, none⟩) n hcap)) (s16 : a0.tmps[16]? = some (.int .i64 (i : Int))) (s17 : a0.tmps[17]? = some (.int .i64 (k : Int))) (s19 : a0.tmps[19]? = some (.int .i64 0)) (s20 : a0.tmps[20]? = some (.pointer (some ⟨b, 0, none⟩))) (s21 : a0.tmps[21]? = some (.int .i64 0))
    (hb0 : Blk w b (u.cells A1 c1) 37) (hq : w.cell? ⟨qb, qo + i, none⟩ = some (.int .i64 (k : Int))) (hh : ∀ j, j < 5 → w.cell? ⟨hb, hO + i * 5 + j, none⟩ = (u.cells A2 c2)[j]?)
    (hu1 : RV w D1 z1 u (u.cells A1 c1)) (hD1 : ∀ j, D1 j → j < w.heap.size) (hu2 : RV w D2 z2 u (u.cells A2 c2)) (hD2 : ∀ j, D2 j → j < w.heap.size)
    (Q : Exit → Act → World → Prop) (hQ : ∀ W, Fr none_ w W → Q .normal ⟨backF [some 170, some 171, some 172, some 173, some 174, some 175, some 176, some 177, some 178, some 179, some 180, some 181, some 182, some 183, some 184, some 185, some 186, some 187, some 188, some 189] [.int .i64 0, .int .i64 0, (.bool false), (.bool false), .int .i64 (k : Int), .slice (some ⟨qb, qo, none⟩) n qcap, .int .i64 (i : Int), (.pointer (some ⟨qb, qo + i, none⟩)), (.int .i64 (k : Int)), (.bool true), (.bool true), (u.agg A1 c1), .slice (some ⟨hb, hO, none⟩) n hcap, .int .i64 (i : Int), (.pointer (some ⟨hb, hO + i * 5, none⟩)), (u.agg A2 c2), (.bool true), (.bool false), (.bool false), (.bool false)] a0.tmps, a0.defers⟩ W) :
    (Code.region 29 (opsOf Try.f6 29) true).wp Try.prog Q a0 w := by
  have hi0 : (0 : Int) ≤ (i : Int) := by omega
  have hi1 : (i : Int) < (n : Int) := by omega
  obtain ⟨ops, hops⟩ : ∃ ops, ops = opsOf Try.f6 29 := ⟨_, rfl⟩
  rw [← hops]
  conv at hops => rhs; whnf
  have hdst : dstB ops a0.tmps.size = true := by rw [hsz, hops]; kernel_rfl
  subst hops
  refine wp_region_fix [.int .i64 0, .int .i64 0, (.bool false), (.bool false), .int .i64 (k : Int), .slice (some ⟨qb, qo, none⟩) n qcap, .int .i64 (i : Int), (.pointer (some ⟨qb, qo + i, none⟩)), (.int .i64 (k : Int)), (.bool true), (.bool true), (u.agg A1 c1), .slice (some ⟨hb, hO, none⟩) n hcap, .int .i64 (i : Int), (.pointer (some ⟨hb, hO + i * 5, none⟩)), (u.agg A2 c2), (.bool true), (.bool false), (.bool false), (.bool false)]  (by kernel_rfl) (by kernel_rfl) hdst (by kernel_rfl) rfl [some 170, some 171, some 172, some 173, some 174, some 175, some 176, some 177, some 178, some 179, some 180, some 181, some 182, some 183, some 184, some 185, some 186, some 187, some 188, some 189] rfl ?_  ?_ hQ
  · intro ix hix hwx
    have hix : ix < 20 := hix
    rcases (show ix = 0 ∨ ix = 1 ∨ ix = 2 ∨ ix = 3 ∨ ix = 4 ∨ ix = 5 ∨ ix = 6 ∨ ix = 7 ∨ ix = 8 ∨ ix = 9 ∨ ix = 10 ∨ ix = 11 ∨ ix = 12 ∨ ix = 13 ∨ ix = 14 ∨ ix = 15 ∨ ix = 16 ∨ ix = 17 ∨ ix = 18 ∨ ix = 19 by omega) with rfl | rfl | rfl | rfl | rfl | rfl | rfl | rfl | rfl | rfl | rfl | rfl | rfl | rfl | rfl | rfl | rfl | rfl | rfl | rfl
    · exact absurd (hwx.symm.trans (show wantB _ _ 0 = true from by kernel_rfl)) (by decide)
    · exact absurd (hwx.symm.trans (show wantB _ _ 1 = true from by kernel_rfl)) (by decide)
    · exact absurd (hwx.symm.trans (show wantB _ _ 2 = true from by kernel_rfl)) (by decide)
    · exact absurd (hwx.symm.trans (show wantB _ _ 3 = true from by kernel_rfl)) (by decide)
    · exact absurd (hwx.symm.trans (show wantB _ _ 4 = true from by kernel_rfl)) (by decide)
    · exact absurd (hwx.symm.trans (show wantB _ _ 5 = true from by kernel_rfl)) (by decide)
    · exact absurd (hwx.symm.trans (show wantB _ _ 6 = true from by kernel_rfl)) (by decide)
    · exact absurd (hwx.symm.trans (show wantB _ _ 7 = true from by kernel_rfl)) (by decide)
    · exact absurd (hwx.symm.trans (show wantB _ _ 8 = true from by kernel_rfl)) (by decide)
    · exact absurd (hwx.symm.trans (show wantB _ _ 9 = true from by kernel_rfl)) (by decide)
    · exact absurd (hwx.symm.trans (show wantB _ _ 10 = true from by kernel_rfl)) (by decide)
    · exact absurd (hwx.symm.trans (show wantB _ _ 11 = true from by kernel_rfl)) (by decide)
    · exact absurd (hwx.symm.trans (show wantB _ _ 12 = true from by kernel_rfl)) (by decide)
    · exact absurd (hwx.symm.trans (show wantB _ _ 13 = true from by kernel_rfl)) (by decide)
    · exact absurd (hwx.symm.trans (show wantB _ _ 14 = true from by kernel_rfl)) (by decide)
    · exact absurd (hwx.symm.trans (show wantB _ _ 15 = true from by kernel_rfl)) (by decide)
    · exact absurd (hwx.symm.trans (show wantB _ _ 16 = true from by kernel_rfl)) (by decide)
    · exact absurd (hwx.symm.trans (show wantB _ _ 17 = true from by kernel_rfl)) (by decide)
    · exact absurd (hwx.symm.trans (show wantB _ _ 18 = true from by kernel_rfl)) (by decide)
    · exact absurd (hwx.symm.trans (show wantB _ _ 19 = true from by kernel_rfl)) (by decide)
  · intro ix hix hwx ax W T ox vx hox hvx Kc hKc
    have hix : ix < 20 := hix
    rcases (show ix = 0 ∨ ix = 1 ∨ ix = 2 ∨ ix = 3 ∨ ix = 4 ∨ ix = 5 ∨ ix = 6 ∨ ix = 7 ∨ ix = 8 ∨ ix = 9 ∨ ix = 10 ∨ ix = 11 ∨ ix = 12 ∨ ix = 13 ∨ ix = 14 ∨ ix = 15 ∨ ix = 16 ∨ ix = 17 ∨ ix = 18 ∨ ix = 19 by omega) with rfl | rfl | rfl | rfl | rfl | rfl | rfl | rfl | rfl | rfl | rfl | rfl | rfl | rfl | rfl | rfl | rfl | rfl | rfl | rfl
    · obtain rfl := Option.some.inj hox
      obtain rfl := Option.some.inj hvx
      have d21 := T.old 21 _ (by kernel_rfl) s21
      exact fix_value (by simp [execOp, go_sem, d21]) hKc
    · obtain rfl := Option.some.inj hox
      obtain rfl := Option.some.inj hvx
      have d19 := T.old 19 _ (by kernel_rfl) s19
      exact fix_value (by simp [execOp, go_sem, d19]) hKc
    · obtain rfl := Option.some.inj hox
      obtain rfl := Option.some.inj hvx
      have d170 := T.dep 0 170 (.int .i64 0) (by kernel_rfl) rfl rfl
      have d171 := T.dep 1 171 (.int .i64 0) (by kernel_rfl) rfl rfl
      exact fix_value (by simp [execOp, go_sem, d170, d171]) hKc
    · obtain rfl := Option.some.inj hox
      obtain rfl := Option.some.inj hvx
      have d172 := T.dep 2 172 ((.bool false)) (by kernel_rfl) rfl rfl
      exact fix_value (by simp [execOp, go_sem, d172]) hKc
    · obtain rfl := Option.some.inj hox
      obtain rfl := Option.some.inj hvx
      have d17 := T.old 17 _ (by kernel_rfl) s17
      exact fix_value (by simp [execOp, go_sem, d17]) hKc
    · obtain rfl := Option.some.inj hox
      obtain rfl := Option.some.inj hvx
      have d9 := T.old 9 _ (by kernel_rfl) s9
      exact fix_value (by simp [execOp, go_sem, d9]) hKc
    · obtain rfl := Option.some.inj hox
      obtain rfl := Option.some.inj hvx
      have d16 := T.old 16 _ (by kernel_rfl) s16
      exact fix_value (by simp [execOp, go_sem, d16]) hKc
    · obtain rfl := Option.some.inj hox
      obtain rfl := Option.some.inj hvx
      have d175 := T.dep 5 175 (.slice (some ⟨qb, qo, none⟩) n qcap) (by kernel_rfl) rfl rfl
      have d176 := T.dep 6 176 (.int .i64 (i : Int)) (by kernel_rfl) rfl rfl
      exact fix_value (by simp [execOp, go_sem, d175, d176, Try.underlying43, hi0, hi1, hi]) hKc
    · obtain rfl := Option.some.inj hox
      obtain rfl := Option.some.inj hvx
      have d177 := T.dep 7 177 ((.pointer (some ⟨qb, qo + i, none⟩))) (by kernel_rfl) rfl rfl
      have qc := T.fr.cellN hq
      exact fix_value (by simp [execOp, go_sem, d177, qc, Try.underlying3]) hKc
    · obtain rfl := Option.some.inj hox
      obtain rfl := Option.some.inj hvx
      have d174 := T.dep 4 174 (.int .i64 (k : Int)) (by kernel_rfl) rfl rfl
      have d178 := T.dep 8 178 ((.int .i64 (k : Int))) (by kernel_rfl) rfl rfl
      exact fix_value (by simp [execOp, go_sem, d174, d178]) hKc
    · obtain rfl := Option.some.inj hox
      obtain rfl := Option.some.inj hvx
      have d179 := T.dep 9 179 ((.bool true)) (by kernel_rfl) rfl rfl
      exact fix_value (by simp [execOp, go_sem, d179]) hKc
    · obtain rfl := Option.some.inj hox
      obtain rfl := Option.some.inj hvx
      have d20 := T.old 20 _ (by kernel_rfl) s20
      have bW := hb0.keep T.fr (fun h => h)
      have q0 := bW.cell 0; have q1 := bW.cell 1; have q2 := bW.cell 2; have q3 := bW.cell 3; have q4 := bW.cell 4
      simp only [V.cells, List.getElem?_cons_zero, List.getElem?_cons_succ] at q0 q1 q2 q3 q4
      exact fix_value (by simp [execOp, go_sem, d20, q0, q1, q2, q3, q4, Try.underlying37]) hKc
    · obtain rfl := Option.some.inj hox
      obtain rfl := Option.some.inj hvx
      have d10 := T.old 10 _ (by kernel_rfl) s10
      exact fix_value (by simp [execOp, go_sem, d10]) hKc
    · obtain rfl := Option.some.inj hox
      obtain rfl := Option.some.inj hvx
      have d16 := T.old 16 _ (by kernel_rfl) s16
      exact fix_value (by simp [execOp, go_sem, d16]) hKc
    · obtain rfl := Option.some.inj hox
      obtain rfl := Option.some.inj hvx
      have d182 := T.dep 12 182 (.slice (some ⟨hb, hO, none⟩) n hcap) (by kernel_rfl) rfl rfl
      have d183 := T.dep 13 183 (.int .i64 (i : Int)) (by kernel_rfl) rfl rfl
      exact fix_value (by simp [execOp, go_sem, d182, d183, Try.underlying35, hi0, hi1, hi]) hKc
    · obtain rfl := Option.some.inj hox
      obtain rfl := Option.some.inj hvx
      have d184 := T.dep 14 184 ((.pointer (some ⟨hb, hO + i * 5, none⟩))) (by kernel_rfl) rfl rfl
      have q0 := T.fr.cellN (hh 0 (by omega)); have q1 := T.fr.cellN (hh 1 (by omega)); have q2 := T.fr.cellN (hh 2 (by omega)); have q3 := T.fr.cellN (hh 3 (by omega)); have q4 := T.fr.cellN (hh 4 (by omega))
      simp only [Nat.add_assoc, Nat.add_zero] at q0 q1 q2 q3 q4
      exact fix_value (by simp [execOp, go_sem, d184, q0, q1, q2, q3, q4, Try.underlying37, Nat.add_assoc]) hKc
    · obtain rfl := Option.some.inj hox
      obtain rfl := Option.some.inj hvx
      have d181 := T.dep 11 181 ((u.agg A1 c1)) (by kernel_rfl) rfl rfl
      have d185 := T.dep 15 185 ((u.agg A2 c2)) (by kernel_rfl) rfl rfl
      exact fix_call 20 _ _ _ #[u.agg A1 c1, u.agg A2 c2] rfl Try.func20 (by kernel_rfl) rfl (by simp [Act.eval, d181, d185]) (alike_any u u (List.mem_singleton_self u) u D1 D2 z1 z2 A1 A2 c1 c2 W (hu1.fr T.fr (fun _ _ h => h)) (hu2.fr T.fr (fun _ _ h => h)) (fun j hj => Nat.lt_of_lt_of_le (hD1 j hj) T.fr.size) (fun j hj => Nat.lt_of_lt_of_le (hD2 j hj) T.fr.size)) (by rintro e w2 ⟨rfl, hf⟩; rw [alike_self]; exact ⟨rfl, hf⟩) hKc
    · obtain rfl := Option.some.inj hox
      obtain rfl := Option.some.inj hvx
      have d186 := T.dep 16 186 ((.bool true)) (by kernel_rfl) rfl rfl
      exact fix_value (by simp [execOp, go_sem, d186]) hKc
    · obtain rfl := Option.some.inj hox
      obtain rfl := Option.some.inj hvx
      have d180 := T.dep 10 180 ((.bool true)) (by kernel_rfl) rfl rfl
      have d187 := T.dep 17 187 ((.bool false)) (by kernel_rfl) rfl rfl
      exact fix_value (by simp [execOp, go_sem, d180, d187]) hKc
    · obtain rfl := Option.some.inj hox
      obtain rfl := Option.some.inj hvx
      have d173 := T.dep 3 173 ((.bool false)) (by kernel_rfl) rfl rfl
      have d188 := T.dep 18 188 ((.bool false)) (by kernel_rfl) rfl rfl
      exact fix_value (by simp [execOp, go_sem, d173, d188]) hKc

set_option maxRecDepth 100000 in
set_option maxHeartbeats 4000000 in
theorem reg29n (b qb qo hb hO i k kp n qcap hcap : Nat) (u : V) (A1 A2 : Option Addr) (c1 c2 : Nat) (D1 D2 : Nat → Prop) (z1 z2 : Prop) (hi : i < n) (hn : n ≤ 60) (a0 : Act) (w : World) (hsz : a0.tmps.size = 191)
    (s9 : a0.tmps[9]? = some (.slice (some ⟨qb, qo, none⟩) n qcap)) (s16 : a0.tmps[16]? = some (.int .i64 (i : Int))) (s17 : a0.tmps[17]? = some (.int .i64 (k : Int))) (s19 : a0.tmps[19]? = some (.int .i64 91)) (s21 : a0.tmps[21]? = some (.int .i64 91))
    (hb0 : Blk w b (V.zero.cells A1 c1) 37) (hq : w.cell? ⟨qb, qo + i, none⟩ = some (.int .i64 (kp : Int))) (hk : kp ≠ k)
    (Q : Exit → Act → World → Prop) (hQ : ∀ W, Fr none_ w W → Q .normal ⟨backF [some 170, some 171, some 172, some 173, some 174, some 175, some 176, some 177, some 178, some 179, some 180, some 181, some 182, some 183, some 184, some 185, some 186, some 187, some 188, some 189] [.int .i64 91, .int .i64 91, (.bool false), (.bool false), .int .i64 (k : Int), .slice (some ⟨qb, qo, none⟩) n qcap, .int .i64 (i : Int), (.pointer (some ⟨qb, qo + i, none⟩)), (.int .i64 (kp : Int)), (.bool false), (.bool false), undef, undef, undef, undef, undef, undef, undef, (Value.bool false), (Value.bool false)] a0.tmps, a0.defers⟩ W) :
    (Code.region 29 (opsOf Try.f6 29) true).wp Try.prog Q a0 w := by
  have hi0 : (0 : Int) ≤ (i : Int) := by omega
  have hi1 : (i : Int) < (n : Int) := by omega
  have hk1 : (k : Int) ≠ (kp : Int) := by omega
  have hk2 : ((k : Int) == (kp : Int)) = false := by simpa using hk1
  have hk3 : ((k : Int) != (kp : Int)) = true := by simpa using hk1
  obtain ⟨ops, hops⟩ : ∃ ops, ops = opsOf Try.f6 29 := ⟨_, rfl⟩
  rw [← hops]
  conv at hops => rhs; whnf
  have hdst : dstB ops a0.tmps.size = true := by rw [hsz, hops]; kernel_rfl
  subst hops
  refine wp_region_fix [.int .i64 91, .int .i64 91, (.bool false), (.bool false), .int .i64 (k : Int), .slice (some ⟨qb, qo, none⟩) n qcap, .int .i64 (i : Int), (.pointer (some ⟨qb, qo + i, none⟩)), (.int .i64 (kp : Int)), (.bool false), (.bool false), undef, undef, undef, undef, undef, undef, undef, (Value.bool false), (Value.bool false)]  (by kernel_rfl) (by kernel_rfl) hdst (by kernel_rfl) rfl [some 170, some 171, some 172, some 173, some 174, some 175, some 176, some 177, some 178, some 179, some 180, some 181, some 182, some 183, some 184, some 185, some 186, some 187, some 188, some 189] rfl ?_  ?_ hQ
  · intro ix hix hwx
    have hix : ix < 20 := hix
    rcases (show ix = 0 ∨ ix = 1 ∨ ix = 2 ∨ ix = 3 ∨ ix = 4 ∨ ix = 5 ∨ ix = 6 ∨ ix = 7 ∨ ix = 8 ∨ ix = 9 ∨ ix = 10 ∨ ix = 11 ∨ ix = 12 ∨ ix = 13 ∨ ix = 14 ∨ ix = 15 ∨ ix = 16 ∨ ix = 17 ∨ ix = 18 ∨ ix = 19 by omega) with rfl | rfl | rfl | rfl | rfl | rfl | rfl | rfl | rfl | rfl | rfl | rfl | rfl | rfl | rfl | rfl | rfl | rfl | rfl | rfl
    · exact absurd (hwx.symm.trans (show wantB _ _ 0 = true from by kernel_rfl)) (by decide)
    · exact absurd (hwx.symm.trans (show wantB _ _ 1 = true from by kernel_rfl)) (by decide)
    · exact absurd (hwx.symm.trans (show wantB _ _ 2 = true from by kernel_rfl)) (by decide)
    · exact absurd (hwx.symm.trans (show wantB _ _ 3 = true from by kernel_rfl)) (by decide)
    · exact absurd (hwx.symm.trans (show wantB _ _ 4 = true from by kernel_rfl)) (by decide)
    · exact absurd (hwx.symm.trans (show wantB _ _ 5 = true from by kernel_rfl)) (by decide)
    · exact absurd (hwx.symm.trans (show wantB _ _ 6 = true from by kernel_rfl)) (by decide)
    · exact absurd (hwx.symm.trans (show wantB _ _ 7 = true from by kernel_rfl)) (by decide)
    · exact absurd (hwx.symm.trans (show wantB _ _ 8 = true from by kernel_rfl)) (by decide)
    · exact absurd (hwx.symm.trans (show wantB _ _ 9 = true from by kernel_rfl)) (by decide)
    · exact absurd (hwx.symm.trans (show wantB _ _ 10 = true from by kernel_rfl)) (by decide)
    · rfl
    · rfl
    · rfl
    · rfl
    · rfl
    · rfl
    · rfl
    · exact absurd (hwx.symm.trans (show wantB _ _ 18 = true from by kernel_rfl)) (by decide)
    · exact absurd (hwx.symm.trans (show wantB _ _ 19 = true from by kernel_rfl)) (by decide)
  · intro ix hix hwx ax W T ox vx hox hvx Kc hKc
    have hix : ix < 20 := hix
    rcases (show ix = 0 ∨ ix = 1 ∨ ix = 2 ∨ ix = 3 ∨ ix = 4 ∨ ix = 5 ∨ ix = 6 ∨ ix = 7 ∨ ix = 8 ∨ ix = 9 ∨ ix = 10 ∨ ix = 11 ∨ ix = 12 ∨ ix = 13 ∨ ix = 14 ∨ ix = 15 ∨ ix = 16 ∨ ix = 17 ∨ ix = 18 ∨ ix = 19 by omega) with rfl | rfl | rfl | rfl | rfl | rfl | rfl | rfl | rfl | rfl | rfl | rfl | rfl | rfl | rfl | rfl | rfl | rfl | rfl | rfl
    · obtain rfl := Option.some.inj hox
      obtain rfl := Option.some.inj hvx
      have d21 := T.old 21 _ (by kernel_rfl) s21
      exact fix_value (by simp [execOp, go_sem, d21]) hKc
    · obtain rfl := Option.some.inj hox
      obtain rfl := Option.some.inj hvx
      have d19 := T.old 19 _ (by kernel_rfl) s19
      exact fix_value (by simp [execOp, go_sem, d19]) hKc
    · obtain rfl := Option.some.inj hox
      obtain rfl := Option.some.inj hvx
      have d170 := T.dep 0 170 (.int .i64 91) (by kernel_rfl) rfl rfl
      have d171 := T.dep 1 171 (.int .i64 91) (by kernel_rfl) rfl rfl
      exact fix_value (by simp [execOp, go_sem, d170, d171]) hKc
    · obtain rfl := Option.some.inj hox
      obtain rfl := Option.some.inj hvx
      have d172 := T.dep 2 172 ((.bool false)) (by kernel_rfl) rfl rfl
      exact fix_value (by simp [execOp, go_sem, d172]) hKc
    · obtain rfl := Option.some.inj hox
      obtain rfl := Option.some.inj hvx
      have d17 := T.old 17 _ (by kernel_rfl) s17
      exact fix_value (by simp [execOp, go_sem, d17]) hKc
    · obtain rfl := Option.some.inj hox
      obtain rfl := Option.some.inj hvx
      have d9 := T.old 9 _ (by kernel_rfl) s9
      exact fix_value (by simp [execOp, go_sem, d9]) hKc
    · obtain rfl := Option.some.inj hox
      obtain rfl := Option.some.inj hvx
      have d16 := T.old 16 _ (by kernel_rfl) s16
      exact fix_value (by simp [execOp, go_sem, d16]) hKc
    · obtain rfl := Option.some.inj hox
      obtain rfl := Option.some.inj hvx
      have d175 := T.dep 5 175 (.slice (some ⟨qb, qo, none⟩) n qcap) (by kernel_rfl) rfl rfl
      have d176 := T.dep 6 176 (.int .i64 (i : Int)) (by kernel_rfl) rfl rfl
      exact fix_value (by simp [execOp, go_sem, d175, d176, Try.underlying43, hi0, hi1, hi]) hKc
    · obtain rfl := Option.some.inj hox
      obtain rfl := Option.some.inj hvx
      have d177 := T.dep 7 177 ((.pointer (some ⟨qb, qo + i, none⟩))) (by kernel_rfl) rfl rfl
      have qc := T.fr.cellN hq
      exact fix_value (by simp [execOp, go_sem, d177, qc, Try.underlying3]) hKc
    · obtain rfl := Option.some.inj hox
      obtain rfl := Option.some.inj hvx
      have d174 := T.dep 4 174 (.int .i64 (k : Int)) (by kernel_rfl) rfl rfl
      have d178 := T.dep 8 178 ((.int .i64 (kp : Int))) (by kernel_rfl) rfl rfl
      exact fix_value (by simp [execOp, go_sem, d174, d178, hk1, hk2]) hKc
    · obtain rfl := Option.some.inj hox
      obtain rfl := Option.some.inj hvx
      have d179 := T.dep 9 179 ((.bool false)) (by kernel_rfl) rfl rfl
      exact fix_value (by simp [execOp, go_sem, d179]) hKc
    · exact absurd (hwx.symm.trans (show wantB _ _ 11 = false from by kernel_rfl)) (by decide)
    · exact absurd (hwx.symm.trans (show wantB _ _ 12 = false from by kernel_rfl)) (by decide)
    · exact absurd (hwx.symm.trans (show wantB _ _ 13 = false from by kernel_rfl)) (by decide)
    · exact absurd (hwx.symm.trans (show wantB _ _ 14 = false from by kernel_rfl)) (by decide)
    · exact absurd (hwx.symm.trans (show wantB _ _ 15 = false from by kernel_rfl)) (by decide)
    · exact absurd (hwx.symm.trans (show wantB _ _ 16 = false from by kernel_rfl)) (by decide)
    · exact absurd (hwx.symm.trans (show wantB _ _ 17 = false from by kernel_rfl)) (by decide)
    · obtain rfl := Option.some.inj hox
      obtain rfl := Option.some.inj hvx
      have d180 := T.dep 10 180 ((.bool false)) (by kernel_rfl) rfl rfl
      have d187 := T.dep 17 187 (undef) (by kernel_rfl) rfl rfl
      exact fix_value (by simp [execOp, go_sem, d180, d187]) hKc
    · obtain rfl := Option.some.inj hox
      obtain rfl := Option.some.inj hvx
      have d173 := T.dep 3 173 ((.bool false)) (by kernel_rfl) rfl rfl
      have d188 := T.dep 18 188 ((Value.bool false)) (by kernel_rfl) rfl rfl
      exact fix_value (by simp [execOp, go_sem, d173, d188]) hKc

theorem foldl_out : ∀ (l : List (Option Nat × Value)) (acc : Array Value) (t : Nat), (∀ p, p ∈ l → p.1 ≠ some t) → (l.foldl (fun acc p => match p.1 with | none => acc | some u => acc.setIfInBounds u p.2) acc).size = acc.size ∧ (l.foldl (fun acc p => match p.1 with | none => acc | some u => acc.setIfInBounds u p.2) acc)[t]? = acc[t]?
  | [], acc, t, _ => by simp
  | p :: l, acc, t, h => by
    have ih := foldl_out l (match p.1 with | none => acc | some u => acc.setIfInBounds u p.2) t (fun q hq => h q (List.mem_cons_of_mem _ hq))
    simp only [List.foldl_cons]
    have h0 := h p (List.mem_cons_self ..)
    refine ⟨ih.1.trans (by split <;> simp), ih.2.trans ?_⟩
    split
    · rfl
    · rename_i u hu
      rw [Array.getElem?_setIfInBounds, if_neg (fun e => h0 (by rw [hu, e]))]
theorem foldl_size : ∀ (l : List (Option Nat × Value)) (acc : Array Value), (l.foldl (fun acc p => match p.1 with | none => acc | some u => acc.setIfInBounds u p.2) acc).size = acc.size
  | [], acc => rfl
  | p :: l, acc => by
    simp only [List.foldl_cons]
    rw [foldl_size l]
    split <;> simp
theorem backF_e (ds : List (Option Nat)) (vals : List Value) (t0 : Array Value) (S : List Nat) (hS : ∀ d, d ∈ ds → ∀ t, d = some t → t ∈ S) : backF ds vals t0 = S.foldl (fun acc t => acc.setIfInBounds t ((backF ds vals t0).getD t undef)) t0 := by
  refine frame_back S t0 _ (foldl_size _ _) fun t ht => (foldl_out _ _ t fun p hp e => ht (hS p.1 ?_ t e)).2
  exact (List.of_mem_zip (a := p.1) (b := p.2) hp).1

theorem reg25 (b qb qo hb hO i k kp n qcap hcap : Nat) (u v : V) (A1 A2 : Option Addr) (c1 c2 : Nat) (D1 D2 : Nat → Prop) (z1 z2 : Prop) (hi : i < n) (hn : n ≤ 60) (a0 : Act) (w : World) (hsz : a0.tmps.size = 191)
    (s9 : a0.tmps[9]? = some (.slice (some ⟨qb, qo, none⟩) n qcap)) (s16 : a0.tmps[16]? = some (.int .i64 (i : Int))) (s17 : a0.tmps[17]? = some (.int .i64 (k : Int))) (s18 : a0.tmps[18]? = some (.pointer (some ⟨b, 0, none⟩))) (s10 : a0.tmps[10]? = some (.slice (some ⟨hb, hO, none⟩) n hcap)) (s19 : a0.tmps[19]? = some (.int .i64 (if k = kp then 0 else 91)))
    (hb0 : Blk w b (u.cells A1 c1) 37) (hq : w.cell? ⟨qb, qo + i, none⟩ = some (.int .i64 (kp : Int))) (hh : ∀ j, j < 5 → w.cell? ⟨hb, hO + i * 5 + j, none⟩ = (v.cells A2 c2)[j]?)
    (hu1 : RV w D1 z1 u (u.cells A1 c1)) (hD1 : ∀ j, D1 j → j < w.heap.size) (hu2 : RV w D2 z2 v (v.cells A2 c2)) (hD2 : ∀ j, D2 j → j < w.heap.size) (hu : u = if k = kp then v else V.zero)
    (Q : Exit → Act → World → Prop) (hQ : ∀ (e : Nat → Value) W, Fr none_ w W → e 153 = .bool false → Q .normal ⟨[118, 119, 120, 121, 122, 123, 124, 125, 126, 127, 128, 129, 130, 131, 132, 133, 134, 135, 136, 137, 138, 139, 140, 141, 142, 143, 144, 145, 146, 147, 148, 149, 150, 151, 152, 153].foldl (fun acc t => acc.setIfInBounds t (e t)) a0.tmps, a0.defers⟩ W) :
    (Code.region 25 (opsOf Try.f6 25) true).wp Try.prog Q a0 w := by
  by_cases hk : k = kp
  · rw [if_pos hk] at hu
    subst hu
    subst hk
    simp only [if_pos] at s19
    refine reg25y b qb qo hb hO i k n qcap hcap u A1 A2 c1 c2 D1 D2 z1 z2 hi hn a0 w hsz s9 s10 s16 s17 s18 s19 hb0 hq hh hu1 hD1 hu2 hD2 Q fun W hW => ?_
    rw [backF_e _ _ a0.tmps [118, 119, 120, 121, 122, 123, 124, 125, 126, 127, 128, 129, 130, 131, 132, 133, 134, 135, 136, 137, 138, 139, 140, 141, 142, 143, 144, 145, 146, 147, 148, 149, 150, 151, 152, 153] (by decide)]
    refine hQ _ W hW ?_
    simp [backF, hsz]
  · rw [if_neg hk] at hu
    subst hu
    simp only [if_neg hk] at s19
    refine reg25n b qb qo hb hO i k kp n qcap hcap V.zero A1 A2 c1 c2 D1 D2 z1 z2 hi hn a0 w hsz s9 s16 s17 s18 s19 hb0 hq (fun e => hk e.symm) Q fun W hW => ?_
    rw [backF_e _ _ a0.tmps [118, 119, 120, 121, 122, 123, 124, 125, 126, 127, 128, 129, 130, 131, 132, 133, 134, 135, 136, 137, 138, 139, 140, 141, 142, 143, 144, 145, 146, 147, 148, 149, 150, 151, 152, 153] (by decide)]
    refine hQ _ W hW ?_
    simp [backF, hsz]

theorem reg29 (b qb qo hb hO i k kp n qcap hcap : Nat) (u v : V) (A1 A2 : Option Addr) (c1 c2 : Nat) (D1 D2 : Nat → Prop) (z1 z2 : Prop) (hi : i < n) (hn : n ≤ 60) (a0 : Act) (w : World) (hsz : a0.tmps.size = 191)
    (s9 : a0.tmps[9]? = some (.slice (some ⟨qb, qo, none⟩) n qcap)) (s16 : a0.tmps[16]? = some (.int .i64 (i : Int))) (s17 : a0.tmps[17]? = some (.int .i64 (k : Int))) (s20 : a0.tmps[20]? = some (.pointer (some ⟨b, 0, none⟩))) (s10 : a0.tmps[10]? = some (.slice (some ⟨hb, hO, none⟩) n hcap)) (s19 : a0.tmps[19]? = some (.int .i64 (if k = kp then 0 else 91))) (s21 : a0.tmps[21]? = some (.int .i64 (if k = kp then 0 else 91)))
    (hb0 : Blk w b (u.cells A1 c1) 37) (hq : w.cell? ⟨qb, qo + i, none⟩ = some (.int .i64 (kp : Int))) (hh : ∀ j, j < 5 → w.cell? ⟨hb, hO + i * 5 + j, none⟩ = (v.cells A2 c2)[j]?)
    (hu1 : RV w D1 z1 u (u.cells A1 c1)) (hD1 : ∀ j, D1 j → j < w.heap.size) (hu2 : RV w D2 z2 v (v.cells A2 c2)) (hD2 : ∀ j, D2 j → j < w.heap.size) (hu : u = if k = kp then v else V.zero)
    (Q : Exit → Act → World → Prop) (hQ : ∀ (e : Nat → Value) W, Fr none_ w W → e 189 = .bool false → Q .normal ⟨[170, 171, 172, 173, 174, 175, 176, 177, 178, 179, 180, 181, 182, 183, 184, 185, 186, 187, 188, 189].foldl (fun acc t => acc.setIfInBounds t (e t)) a0.tmps, a0.defers⟩ W) :
    (Code.region 29 (opsOf Try.f6 29) true).wp Try.prog Q a0 w := by
  by_cases hk : k = kp
  · rw [if_pos hk] at hu
    subst hu
    subst hk
    simp only [if_pos] at s19 s21
    refine reg29y b qb qo hb hO i k n qcap hcap u A1 A2 c1 c2 D1 D2 z1 z2 hi hn a0 w hsz s9 s10 s16 s17 s19 s20 s21 hb0 hq hh hu1 hD1 hu2 hD2 Q fun W hW => ?_
    rw [backF_e _ _ a0.tmps [170, 171, 172, 173, 174, 175, 176, 177, 178, 179, 180, 181, 182, 183, 184, 185, 186, 187, 188, 189] (by decide)]
    refine hQ _ W hW ?_
    simp [backF, hsz]
  · rw [if_neg hk] at hu
    subst hu
    simp only [if_neg hk] at s19 s21
    refine reg29n b qb qo hb hO i k kp n qcap hcap V.zero A1 A2 c1 c2 D1 D2 z1 z2 hi hn a0 w hsz s9 s16 s17 s19 s21 hb0 hq (fun e => hk e.symm) Q fun W hW => ?_
    rw [backF_e _ _ a0.tmps [170, 171, 172, 173, 174, 175, 176, 177, 178, 179, 180, 181, 182, 183, 184, 185, 186, 187, 188, 189] (by decide)]
    refine hQ _ W hW ?_
    simp [backF, hsz]
end Go.Proofs.Ytpgjbbefgacjkaa

/- Region 13 of 'SealSealed': Seal is called. -/
namespace Go.Proofs.Ytpgjbbefgacjkaa
open Go.RowKit
set_option linter.unusedSimpArgs false
set_option linter.unusedVariables false

set_option maxRecDepth 100000 in
set_option maxHeartbeats 4000000 in
theorem reg13 (p sb so q K sc : Nat) (u : V) (A2 : Option Addr) (c2 : Nat) (b e : Int) (R : World → Prop) (hK : K < 6) (a0 : Act) (w : World) (hsz : a0.tmps.size = 191)
    (s5 : a0.tmps[5]? = some (.pointer (some ⟨p, 0, none⟩))) (s6 : a0.tmps[6]? = some (.slice (some ⟨sb, so, none⟩) 6 sc)) (s12 : a0.tmps[12]? = some (.int .i64 (K : Int))) (s13 : a0.tmps[13]? = some (.pointer (some ⟨q, 0, none⟩)))
    (hs : w.cell? ⟨sb, so + K, none⟩ = some (.int .i64 (2 * (K : Int) + 1))) (hq : Blk w q (u.cells A2 c2) 37)
    (hcall : ∀ W, Fr none_ w W → Calls Try.prog 11 #[.pointer (some ⟨p, 0, none⟩), .int .i64 (2 * (K : Int) + 1), u.agg A2 c2] W fun x w' => x = .returned (.tuple #[.int .i64 b, .int .i64 e]) ∧ R w')
    (Q : Exit → Act → World → Prop) (hQ : ∀ W, (R) W → Q .normal ⟨backF [some 65, some 66, some 67, some 68, some 69, some 70, some 71, some 64, some 72, some 73, some 14, some 15] [.pointer (some ⟨p, 0, none⟩), .slice (some ⟨sb, so, none⟩) 6 sc, .int .i64 (K : Int), (.pointer (some ⟨sb, so + K, none⟩)), (.int .i64 (2 * (K : Int) + 1)), (u.agg A2 c2), (.tuple #[.int .i64 b, .int .i64 e]), (.tuple #[.int .i64 b, .int .i64 e]), (.int .i64 b), (.int .i64 e), (.int .i64 b), (.int .i64 e)] a0.tmps, a0.defers⟩ W) :
    (Code.region 13 (opsOf Try.f6 13) true).wp Try.prog Q a0 w := by
  have hi0 : (0 : Int) ≤ (K : Int) := by omega
  have hi1 : (K : Int) < 6 := by omega
  obtain ⟨ops, hops⟩ : ∃ ops, ops = opsOf Try.f6 13 := ⟨_, rfl⟩
  rw [← hops]
  conv at hops => rhs; whnf
  have hdst : dstB ops a0.tmps.size = true := by rw [hsz, hops]; kernel_rfl
  subst hops
  refine wp_region_one [.pointer (some ⟨p, 0, none⟩), .slice (some ⟨sb, so, none⟩) 6 sc, .int .i64 (K : Int), (.pointer (some ⟨sb, so + K, none⟩)), (.int .i64 (2 * (K : Int) + 1)), (u.agg A2 c2), (.tuple #[.int .i64 b, .int .i64 e]), (.tuple #[.int .i64 b, .int .i64 e]), (.int .i64 b), (.int .i64 e), (.int .i64 b), (.int .i64 e)] 6 (R) (by kernel_rfl) (by kernel_rfl) hdst (by kernel_rfl) rfl [some 65, some 66, some 67, some 68, some 69, some 70, some 71, some 64, some 72, some 73, some 14, some 15] rfl ?_ (by decide) (by kernel_rfl) ?_ hQ
  · intro ix hix hwx
    have hix : ix < 12 := hix
    rcases (show ix = 0 ∨ ix = 1 ∨ ix = 2 ∨ ix = 3 ∨ ix = 4 ∨ ix = 5 ∨ ix = 6 ∨ ix = 7 ∨ ix = 8 ∨ ix = 9 ∨ ix = 10 ∨ ix = 11 by omega) with rfl | rfl | rfl | rfl | rfl | rfl | rfl | rfl | rfl | rfl | rfl | rfl
    · exact absurd (hwx.symm.trans (show wantB _ _ 0 = true from by kernel_rfl)) (by decide)
    · exact absurd (hwx.symm.trans (show wantB _ _ 1 = true from by kernel_rfl)) (by decide)
    · exact absurd (hwx.symm.trans (show wantB _ _ 2 = true from by kernel_rfl)) (by decide)
    · exact absurd (hwx.symm.trans (show wantB _ _ 3 = true from by kernel_rfl)) (by decide)
    · exact absurd (hwx.symm.trans (show wantB _ _ 4 = true from by kernel_rfl)) (by decide)
    · exact absurd (hwx.symm.trans (show wantB _ _ 5 = true from by kernel_rfl)) (by decide)
    · exact absurd (hwx.symm.trans (show wantB _ _ 6 = true from by kernel_rfl)) (by decide)
    · exact absurd (hwx.symm.trans (show wantB _ _ 7 = true from by kernel_rfl)) (by decide)
    · exact absurd (hwx.symm.trans (show wantB _ _ 8 = true from by kernel_rfl)) (by decide)
    · exact absurd (hwx.symm.trans (show wantB _ _ 9 = true from by kernel_rfl)) (by decide)
    · exact absurd (hwx.symm.trans (show wantB _ _ 10 = true from by kernel_rfl)) (by decide)
    · exact absurd (hwx.symm.trans (show wantB _ _ 11 = true from by kernel_rfl)) (by decide)
  · intro ix hix hwx ax W T ox vx hox hvx Kc hKc
    have hix : ix < 12 := hix
    rcases (show ix = 0 ∨ ix = 1 ∨ ix = 2 ∨ ix = 3 ∨ ix = 4 ∨ ix = 5 ∨ ix = 6 ∨ ix = 7 ∨ ix = 8 ∨ ix = 9 ∨ ix = 10 ∨ ix = 11 by omega) with rfl | rfl | rfl | rfl | rfl | rfl | rfl | rfl | rfl | rfl | rfl | rfl
    · obtain rfl := Option.some.inj hox
      obtain rfl := Option.some.inj hvx
      have d5 := T.old 5 _ (by kernel_rfl) s5
      exact one_value (by simp [execOp, go_sem, d5]) (by decide) hKc
    · obtain rfl := Option.some.inj hox
      obtain rfl := Option.some.inj hvx
      have d6 := T.old 6 _ (by kernel_rfl) s6
      exact one_value (by simp [execOp, go_sem, d6]) (by decide) hKc
    · obtain rfl := Option.some.inj hox
      obtain rfl := Option.some.inj hvx
      have d12 := T.old 12 _ (by kernel_rfl) s12
      exact one_value (by simp [execOp, go_sem, d12]) (by decide) hKc
    · obtain rfl := Option.some.inj hox
      obtain rfl := Option.some.inj hvx
      have d66 := T.dep 1 66 (.slice (some ⟨sb, so, none⟩) 6 sc) (by kernel_rfl) rfl rfl
      have d67 := T.dep 2 67 (.int .i64 (K : Int)) (by kernel_rfl) rfl rfl
      exact one_value (by simp [execOp, go_sem, d66, d67, Try.underlying40, hi0, hi1, hK]) (by decide) hKc
    · obtain rfl := Option.some.inj hox
      obtain rfl := Option.some.inj hvx
      have d68 := T.dep 3 68 ((.pointer (some ⟨sb, so + K, none⟩))) (by kernel_rfl) rfl rfl
      have fr := T.fr (.inr (by kernel_rfl))
      have qc := fr.cellN hs
      exact one_value (by simp [execOp, go_sem, d68, qc, Try.underlying28]) (by decide) hKc
    · obtain rfl := Option.some.inj hox
      obtain rfl := Option.some.inj hvx
      have d13 := T.old 13 _ (by kernel_rfl) s13
      have fr := T.fr (.inr (by kernel_rfl))
      have bW := hq.keep fr (fun h => h)
      have q0 := bW.cell 0; have q1 := bW.cell 1; have q2 := bW.cell 2; have q3 := bW.cell 3; have q4 := bW.cell 4
      simp only [V.cells, List.getElem?_cons_zero, List.getElem?_cons_succ] at q0 q1 q2 q3 q4
      exact one_value (by simp [execOp, go_sem, d13, q0, q1, q2, q3, q4, Try.underlying37]) (by decide) hKc
    · obtain rfl := Option.some.inj hox
      obtain rfl := Option.some.inj hvx
      have d65 := T.dep 0 65 (.pointer (some ⟨p, 0, none⟩)) (by kernel_rfl) rfl rfl
      have d69 := T.dep 4 69 ((.int .i64 (2 * (K : Int) + 1))) (by kernel_rfl) rfl rfl
      have d70 := T.dep 5 70 ((u.agg A2 c2)) (by kernel_rfl) rfl rfl
      exact one_call 11 _ _ _ #[.pointer (some ⟨p, 0, none⟩), .int .i64 (2 * (K : Int) + 1), u.agg A2 c2] rfl Try.func11 (by kernel_rfl) rfl (by simp [Act.eval, d65, d69, d70]) (hcall W (T.fr (.inl rfl))) (by intro x w2 h; exact h) rfl hKc
    · obtain rfl := Option.some.inj hox
      obtain rfl := Option.some.inj hvx
      have d71 := T.dep 6 71 ((.tuple #[.int .i64 b, .int .i64 e])) (by kernel_rfl) rfl rfl
      exact one_value (by simp [execOp, go_sem, d71]) (by decide) hKc
    · obtain rfl := Option.some.inj hox
      obtain rfl := Option.some.inj hvx
      have d64 := T.dep 7 64 ((.tuple #[.int .i64 b, .int .i64 e])) (by kernel_rfl) rfl rfl
      exact one_value (by simp [execOp, go_sem, d64]) (by decide) hKc
    · obtain rfl := Option.some.inj hox
      obtain rfl := Option.some.inj hvx
      have d64 := T.dep 7 64 ((.tuple #[.int .i64 b, .int .i64 e])) (by kernel_rfl) rfl rfl
      exact one_value (by simp [execOp, go_sem, d64]) (by decide) hKc
    · obtain rfl := Option.some.inj hox
      obtain rfl := Option.some.inj hvx
      have d72 := T.dep 8 72 ((.int .i64 b)) (by kernel_rfl) rfl rfl
      exact one_value (by simp [execOp, go_sem, d72]) (by decide) hKc
    · obtain rfl := Option.some.inj hox
      obtain rfl := Option.some.inj hvx
      have d73 := T.dep 9 73 ((.int .i64 e)) (by kernel_rfl) rfl rfl
      exact one_value (by simp [execOp, go_sem, d73]) (by decide) hKc
end Go.Proofs.Ytpgjbbefgacjkaa
