/- Package seal with a world that is none: boxes, what is unlocked, pairs; a range over a function that gives nothing. -/
import Derived.RangeFuncNested
import Derived.RangeFuncBound
import Derived.RangeFuncCalls
import Derived.RangeFuncLeaves
import Derived.Shelf.Abstract
import Derived.Shelf.RegionOpen
import Derived.WalkKit
import Derived.OwnWalkIn
import Derived.TacticsInMore
import Derived.LoopNIn
import Derived.LoopIn
import Derived.Maps.OwnIn
import Derived.WalkMore
import Derived.Test.YtkiinokhdmmagaaGreatNone9
namespace Go.Proofs.YtkiinokhdmmagaaGreat
open Go.RowKit Go.Shelf
set_option linter.unusedSimpArgs false
set_option linter.unusedVariables false
set_option linter.unusedSectionVars false
attribute [local go_sem] Oper.semAt_some
theorem fr_below0 {n : Nat} {Wa Wb : World} (h : Below n Wa Wb) : Fr (fun b => n ≤ b) Wa Wb := ⟨h.os, h.tape, h.output, h.size, fun b hb hn => h.block b (by omega)⟩
set_option maxRecDepth 100000 in
set_option maxHeartbeats 1000000 in
theorem boxes_no {w : World} {q : Option Addr} (h : NoW w q) (r : Int) : Calls Tryz.prog 13 #[.pointer q, .int .i64 r] w (Same (.tuple #[.slice none 0 0, .int .i64 1]) w) := by
  have H := Lib.hid h; clear h
  go_enter Tryz.func13, Tryz.ntmps13
  go_wp2_with (refine (smark_no H.out r).mono ?_; rintro e w' ⟨rfl, rfl⟩)
  go_ret2
  exact ⟨rfl, rfl⟩
set_option maxRecDepth 100000 in
set_option maxHeartbeats 1000000 in
theorem unlocked_no {w : World} {q : Option Addr} (h : NoW w q) (v : V) (va : Option Addr) (vc : Nat) : Calls Tryz.prog 14 #[.pointer q, v.agg va vc] w fun e w' => e = .returned (.tuple #[.slice none 0 0, .int .i64 1]) ∧ Fr none_ w w' := by
  have hf : Fr none_ w ((w.alloc (.cells #[.pointer q] 31)).alloc (.cells (v.cells va vc).toArray 28)) := ((Fr.refl none_ w).alloc _).alloc _
  have hk := h.keep hf
  have H := Lib.hid hk; clear h hk
  have HF := Lib.hid hf; clear hf
  have x0 := ((Blk.new w [.pointer q] 31).alloc (.cells (v.cells va vc).toArray 28)).cell 0
  change _ = some (Value.pointer q) at x0
  go_enter Tryz.func14, Tryz.ntmps14
  go_upto_region 1 with (fail)
  refine code_gen ?_
  intro W1 hW
  rw [← hW] at H HF x0
  clear hW
  refine wp_scope_straight ?_
  go_wp2_with fail
  refine (sthere_no H.out).mono ?_
  rintro e w' ⟨rfl, rfl⟩
  go_wp2
  rw [Exit.noGoto_ret]
  go_ret2
  exact ⟨rfl, HF.out⟩
/-- The function over all pairs, handed back. -/
def PairsOut (w : World) (q : Option Addr) (e : Ending) (w' : World) : Prop :=
  e = .returned (.func (.func 76) #[] #[.pointer (some ⟨w.heap.size, 0, none⟩)]) ∧ w'.cell? ⟨w.heap.size, 0, none⟩ = some (.pointer q) ∧ Fr none_ w w'
set_option maxRecDepth 100000 in
set_option maxHeartbeats 1000000 in
theorem spairs_any (q : Option Addr) (w : World) : Calls Tryz.prog 48 #[.pointer q] w (PairsOut w q) := by
  have hmf : ∀ (fn : Fn) (first cap : Array Value) (w : World), (Instr.makeFunc fn first cap).run Tryz.prog w = .ok (.func fn first cap) w := fun _ _ _ _ => rfl
  have h0 := (Blk.new w [.pointer q] 31).cell 0
  have H0 := Lib.hid h0; clear h0
  go_enter Tryz.func48, Tryz.ntmps48
  go_wp2
  go_ret
  exact ⟨rfl, H0.out, (Fr.refl _ _).alloc _⟩
set_option maxRecDepth 100000 in
set_option maxHeartbeats 2000000 in
theorem pairs1_no {w : World} {q : Option Addr} (h : NoW w q) (b : Nat) (hb : w.cell? ⟨b, 0, none⟩ = some (.pointer q)) (Kp : World → World → Prop) (n : Nat) (hn : 1 ≤ n) :
    SeqStopsK Fence.wide n Tryz.prog 76 #[.pointer (some ⟨b, 0, none⟩)] (fun x : Int × Int => #[.int .i64 x.1, .int .i64 x.2]) Kp (fun xs => xs = []) (fun _ => False) 0 w := by
  intro yl J Jx W0 hW0 hJ hJx hY h0
  have hf0 : Fr (fun b => w.heap.size ≤ b) w W0 := fr_below0 hW0
  have hbl := cell_lt hb
  have x0 : W0.cell? ⟨b, 0, none⟩ = some (.pointer q) := cell_keep (fun hb => hf0.block b hb (by omega)) hb
  have hq : NoW W0 q := by
    rcases h with rfl | ⟨p, rfl, hp⟩
    · exact .inl rfl
    · exact .inr ⟨p, rfl, hp.keep hf0 (by have := hp.lt; omega)⟩
  have hq1 := hq.keep ((Fr.refl none_ W0).alloc (.cells #[.func (.yield yl) #[] #[]] 136))
  have hj1 : J [] (W0.alloc (.cells #[.func (.yield yl) #[] #[]] 136)) := hJ [] W0 _ none h0 (World.grownBy_alloc W0 _ none) (fun r e => by cases e)
  have HQ := Lib.hid hq1; clear hq1
  have HJ := Lib.hid hj1; clear hj1
  have x1 : (W0.alloc (.cells #[.func (.yield yl) #[] #[]] 136)).cell? ⟨b, 0, none⟩ = some (.pointer q) := cell_keep (fun hb => ((Fr.refl none_ W0).alloc _).block b hb (fun h => h)) x0
  generalize hWq : W0.alloc (.cells #[.func (.yield yl) #[] #[]] 136) = Wq at HQ HJ x1
  clear h hb hW0 hJ hJx hY h0 hf0 hq x0
  refine callsIn_of_wp Tryz.func76 rfl trivial ?_ rfl
  simp only [Tryz.ntmps76, List.size_toArray, List.length_cons, List.length_nil, Nat.reduceAdd, Nat.reduceSub, Array.replicate_succ, Array.replicate_zero, List.push_toArray, List.append_toArray, List.nil_append, List.cons_append]
  gi_wp2_with (rw [hWq])
  refine ⟨trivial, ?_⟩
  refine (callsIn_wide.2 (sthere_no HQ.out)).mono ?_
  rintro e w' ⟨rfl, rfl⟩
  gi_wp2
  refine bodyPost_ret (results_none rfl _ _ _) rfl ?_
  exact ⟨⟨_, rfl⟩, .inl ⟨[], rfl, HJ.out⟩⟩
/-- A range over a function that gives nothing: what stands behind it. -/
theorem wpIn_range_nothing {α : Type} {n : Nat} {g : Operand} {ps : Array Tmp} {assign body : Code} {Q : Exit → Act → World → Prop} {a : Act} {w : World}
    (h1 : 1 ≤ n) {gf : Nat} {lb : Array Value} (hg : a.eval g = .func (.func gf) #[] lb) (eg : ∀ args w, (callFunc gf args).run Tryz.prog w = .ok (.enter gf args) w)
    {encs : α → Array Value} {Kp : World → World → Prop} (hseq : SeqStopsK Fence.wide (n - 1) Tryz.prog gf lb encs Kp (fun xs => xs = []) (fun _ => False) 0 w)
    (hdone : ∀ (Dd : Nat) (W : World), w.heap.size ≤ Dd → Fr none_ w W → W.heap[Dd]? = some (.deferred (some [])) → Q .normal { a with defers := { target := .collected Dd, args := #[] } :: a.defers } W) :
    (Code.rangeFunc g ps assign body).wpIn Fence.wide n Tryz.prog Q a w := by
  refine wpIn_rangeFunc ?_
  intro fn hfn
  rw [show Fence.wide.round = none from rfl]
  obtain ⟨rec, hrec⟩ : ∃ rec : LoopState → Option Code → Loop, rec = fun st pe => { state := st, pending := pe, fn, tmps := a.tmps, params := ps, assign, body, defers := w.heap.size } := ⟨_, rfl⟩
  obtain ⟨W1, hW1⟩ : ∃ W1, (w.alloc (.deferred (some []))).alloc (.loop (rec .ready none)) = W1 := ⟨_, rfl⟩
  have hL1 : W1.heap[w.heap.size + 1]? = some (.loop (rec .ready none)) := by
    rw [← hW1]; have := World.alloc_heap_new (w.alloc (.deferred (some []))) (.loop (rec .ready none)); rwa [World.size_alloc] at this
  have hK1 : W1.heap[w.heap.size]? = some (.deferred (some [])) := by
    rw [← hW1]; exact (Below.heap_alloc _ _ _ (by simp)).trans (World.alloc_heap_new w _)
  have hI1 : Fr none_ w W1 := by rw [← hW1]; exact ((Fr.refl _ _).alloc _).alloc _
  have hb1 : Below w.heap.size w W1 := hI1.below
  refine ⟨w.heap.size + 1, [{ target := .collected w.heap.size, args := #[] }], W1, { target := .fn (.func gf) lb, args := #[.func (.yield (w.heap.size + 1)) #[] #[]] }, W1, gf,
    #[.func (.yield (w.heap.size + 1)) #[] #[]] ++ lb, W1, ?_, ?_, ?_, ?_, fun _ => h1, ?_⟩
  · rw [← hW1, hrec]; exact run_enterLoop_outer _ _ _ _ _
  · simp only [resolve, hg]
    simp [go_sem]
  · intro f' hf'; simp [Target.leads] at hf'; subst hf'; trivial
  · simp [invoke, go_sem, eg]
  · have hturn : ∀ {Wa Wb : World} {row : Option Nat}, Wa.grownBy Wb row → (∀ r, row = some r → W1.heap.size ≤ r ∧ ∃ o : Obj, Wa.heap[r]? = some o ∧ o.isWalk = true) → (∀ r, row = some r → w.heap.size ≤ r ∧ ∃ o : Obj, Wa.heap[r]? = some o ∧ o.isCells = false) :=
      fun _ hr r e => by obtain ⟨hB, o, ho, hw⟩ := hr r e; exact ⟨by have := hI1.size; omega, o, ho, Obj.not_cells_of_walk hw⟩
    refine (hseq (w.heap.size + 1)
      (fun pre W => Fr none_ w W ∧ W.heap[w.heap.size + 1]? = some (.loop (rec .ready none)) ∧ W.heap[w.heap.size]? = some (.deferred (some [])))
      (fun _ _ => False) W1 hb1 ?_ (fun s Wa Wb row hs _ _ => hs) (fun pre x W _ hl => absurd hl (Nat.not_lt_zero _)) ⟨hI1, hL1, hK1⟩).mono ?_
    · rintro s Wa Wb row ⟨hs1, hs2, hs3⟩ hg' hr
      have hr2 := hturn hg' hr
      have hr3 : ∀ r, row = some r → ∃ o : Obj, Wa.heap[r]? = some o ∧ o.isWalk = true := fun r e => (hr r e).2
      refine ⟨hs1.trans' (grownBy_fr hg') (fun i hi e => by have := (hr2 i e).1; omega), (grownBy_keeps hg' hr3 hs2 rfl).trans hs2, (grownBy_keeps hg' hr3 hs3 rfl).trans hs3⟩
    · rintro e W2 ⟨⟨v, rfl⟩, (⟨xs, hS, hi, hl, hk⟩ | ⟨pre, hSp, hx⟩)⟩
      · have hg' := grownBy_putObj' W2 (w.heap.size + 1) (.loop { rec .ready none with state := .exhausted })
        exact ⟨none, _, by have := run_endLoop (P := Tryz.prog) hl (by rw [hrec]; simp); rw [hrec] at this ⊢; exact this, hdone _ _ (Nat.le_refl _) (hi.trans' (grownBy_fr hg') (fun i hi e => by injection e with e; omega)) ((World.putObj_heap_other (by omega)).trans hk)⟩
      · exact hx.elim
theorem Blk.turn0 {W W' : World} {b : Nat} {cs : List Value} {t : Nat} {r : Nat} {o : Obj} (h : Blk W b cs t) (hg : W.grownBy W' (some r)) (ho : W.heap[r]? = some o) (hc : o.isCells = false) : Blk W' b cs t := by
  refine h.keep (S := fun b => some r = some b) (grownBy_fr hg) (fun e => ?_)
  injection e with e
  subst e
  unfold Blk at h
  rw [ho] at h
  injection h with h
  subst h
  cases hc
theorem pairs_results {a : Act} {Wf : World} {n : Nat} (h6 : a.tmps[6]?.getD undef = .pointer (some ⟨n + 1 + 1, 0, none⟩)) (c1 : Wf.cell? ⟨n + 1 + 1, 0, none⟩ = some (.bool true)) :
    (results Tryz.f16 a.tmps).run Tryz.prog Wf = .ok (.bool true) Wf := by
  simp [results, Tryz.results16, h6, go_sem, c1]
set_option maxRecDepth 100000 in
set_option maxHeartbeats 8000000 in
theorem pairs_no {w : World} {q : Option Addr} (h : NoW w q) : Calls Tryz.prog 16 #[.pointer q, .slice none 0 0, .int .i64 1] w (Bool_ w true) := by
  have hf0 : Fr none_ w (((w.alloc (.cells #[.slice none 0 0] 96)).alloc (.cells #[.int .i64 1] 3)).alloc (.cells #[.bool false] 4)) := (((Fr.refl _ _).alloc _).alloc _).alloc _
  have hb0 := ((Blk.new w [.slice none 0 0] 96).alloc (.cells #[.int .i64 1] 3)).alloc (.cells #[.bool false] 4)
  have hb2 := Blk.new ((w.alloc (.cells #[.slice none 0 0] 96)).alloc (.cells #[.int .i64 1] 3)) [.bool false] 4
  rw [World.size_alloc, World.size_alloc] at hb2
  have HQ := Lib.hid (h.keep hf0); clear h
  have HF0 := Lib.hid hf0; clear hf0
  have HB0 := Lib.hid hb0; clear hb0
  have HB2 := Lib.hid hb2; clear hb2
  refine (callsIn_wide (n := 8)).1 ?_
  refine callsIn_of_wp_marks Tryz.func16 rfl trivial ?_ rfl
  simp only [Tryz.ntmps16, List.size_toArray, List.length_cons, List.length_nil, Nat.reduceAdd, Nat.reduceSub, Array.replicate_succ, Array.replicate_zero, List.push_toArray, List.append_toArray, List.nil_append, List.cons_append]
  gi_wp2_with fail
  refine ⟨trivial, ?_⟩
  refine (callsIn_wide.2 (spairs_any q _)).mono ?_
  rintro e W1 ⟨rfl, hc, hf⟩
  have HF1 := Lib.hid (HF0.out.trans hf)
  have HQ1 := Lib.hid (HQ.out.keep hf)
  have HB1 := Lib.hid (HB0.out.keep hf (fun h => h))
  have HB3 := Lib.hid (HB2.out.keep hf (fun h => h))
  have hsz := hf.size
  clear HF0 HQ HB0 HB2
  generalize (((w.alloc (.cells #[.slice none 0 0] 96)).alloc (.cells #[.int .i64 1] 3)).alloc (.cells #[.bool false] 4)).heap.size = nn at *
  clear hf
  have HC := Lib.hid hc; clear hc
  have hfe : ∀ (lb : Array Value) (W : World), Sem.run Tryz.prog (binOp .eql 98 (.func (.func 76) #[] lb) .nilFunc) W = .ok (.bool false) W := fun lb W => by kernel_rfl
  gi_wp2_with fail
  refine wpIn_loop_rounds 3 ?_
  rw [roundsIn_succ]
  gi_wp2_with fail
  have hf2 : Fr none_ W1 ((W1.alloc (.cells #[.int .i64 0] 3)).alloc (.cells #[.int .i64 0] 3)) := ((Fr.refl _ _).alloc _).alloc _
  have h8 := ((Blk.new W1 [.int .i64 0] 3).alloc (.cells #[.int .i64 0] 3))
  have h9 := Blk.new (W1.alloc (.cells #[.int .i64 0] 3)) [.int .i64 0] 3
  rw [World.size_alloc] at h9
  have HF2 := Lib.hid (HF1.out.trans hf2)
  have HQ2 := Lib.hid (HQ1.out.keep hf2)
  have HB2 := Lib.hid (HB1.out.keep hf2 (fun h => h))
  have HR2 := Lib.hid (HB3.out.keep hf2 (fun h => h))
  have HC2 := Lib.hid (cell_keep (fun hb => hf2.block nn hb (fun h => h)) HC.out)
  have H8 := Lib.hid h8
  have H9 := Lib.hid h9
  clear hf2 h8 h9 HF1 HQ1 HB1 HB3 HC
  generalize (W1.alloc (.cells #[.int .i64 0] 3)).alloc (.cells #[.int .i64 0] 3) = W2 at HF2 HQ2 HB2 HR2 HC2 H8 H9 ⊢
  refine wpIn_range_nothing (encs := fun x : Int × Int => #[.int .i64 x.1, .int .i64 x.2]) (Kp := fun _ _ => True) (by omega) (gf := 76) rfl (enters_of Tryz.func76 (by kernel_rfl) rfl) (pairs1_no HQ2.out nn HC2.out _ 7 (by omega)) ?_
  intro Dd W3 hD hf3 hK
  have x9 : W3.cell? ⟨W1.heap.size + 1, 0, none⟩ = some (.int .i64 0) := (H9.out.keep hf3 (fun h => h)).cell 0
  have x8 : W3.cell? ⟨W1.heap.size, 0, none⟩ = some (.int .i64 0) := (H8.out.keep hf3 (fun h => h)).cell 0
  have x4 : W3.cell? ⟨w.heap.size, 0, none⟩ = some (.slice none 0 0) := (HB2.out.keep hf3 (fun h => h)).cell 0
  have HF3 := Lib.hid (HF2.out.trans hf3)
  have HQ3 := Lib.hid (HQ2.out.keep hf3)
  have HB3 := Lib.hid (HB2.out.keep hf3 (fun h => h))
  have HR3 := Lib.hid (HR2.out.keep hf3 (fun h => h))
  have HC3 := Lib.hid (cell_keep (fun hb => hf3.block nn hb (fun h => h)) HC2.out)
  have HK3 := Lib.hid hK
  have HF2S := Lib.hid HF2.out.size
  clear hf3 hK HF2 HQ2 HB2 HR2 HC2 H8 H9
  gi_wp2_with fail
  rw [roundsIn_succ]
  gi_wp2_with fail
  have hf4 : Fr none_ W3 ((W3.alloc (.cells #[.int .i64 1] 3)).alloc (.cells #[.int .i64 0] 3)) := ((Fr.refl _ _).alloc _).alloc _
  have g8 := ((Blk.new W3 [.int .i64 1] 3).alloc (.cells #[.int .i64 0] 3))
  have g9 := Blk.new (W3.alloc (.cells #[.int .i64 1] 3)) [.int .i64 0] 3
  rw [World.size_alloc] at g9
  have HF4 := Lib.hid (HF3.out.trans hf4)
  have HQ4 := Lib.hid (HQ3.out.keep hf4)
  have HB4 := Lib.hid (HB3.out.keep hf4 (fun h => h))
  have HR4 := Lib.hid (HR3.out.keep hf4 (fun h => h))
  have HC4 := Lib.hid (cell_keep (fun hb => hf4.block nn hb (fun h => h)) HC3.out)
  have HK4 := Lib.hid ((hf4.block Dd (heap_lt HK3.out) (fun h => h)).trans HK3.out)
  have HD4 := Lib.hid (Nat.lt_of_lt_of_le (heap_lt HK3.out) hf4.size)
  have G8 := Lib.hid g8
  have G9 := Lib.hid g9
  clear hf4 g8 g9 HF3 HQ3 HB3 HR3 HC3 HK3 x4 x8 x9
  generalize (W3.alloc (.cells #[.int .i64 1] 3)).alloc (.cells #[.int .i64 0] 3) = W4 at HF4 HQ4 HB4 HR4 HC4 HK4 HD4 G8 G9 ⊢
  refine wpIn_range_nothing (encs := fun x : Int × Int => #[.int .i64 x.1, .int .i64 x.2]) (Kp := fun _ _ => True) (by omega) (gf := 76) rfl (enters_of Tryz.func76 (by kernel_rfl) rfl) (pairs1_no HQ4.out nn HC4.out _ 7 (by omega)) ?_
  intro De W5 hE hf5 hK
  have x9 : W5.cell? ⟨W3.heap.size + 1, 0, none⟩ = some (.int .i64 0) := (G9.out.keep hf5 (fun h => h)).cell 0
  have x8 : W5.cell? ⟨W3.heap.size, 0, none⟩ = some (.int .i64 1) := (G8.out.keep hf5 (fun h => h)).cell 0
  have x4 : W5.cell? ⟨w.heap.size, 0, none⟩ = some (.slice none 0 0) := (HB4.out.keep hf5 (fun h => h)).cell 0
  have HF5 := Lib.hid (HF4.out.trans hf5)
  have HR5 := Lib.hid (HR4.out.keep hf5 (fun h => h))
  have HK5 := Lib.hid ((hf5.block Dd (heap_lt HK4.out) (fun h => h)).trans HK4.out)
  have HE5 := Lib.hid hK
  have HNE := Lib.hid (show De ≠ Dd by have := HD4.out; omega)
  have HDW := Lib.hid hD
  have HEW := Lib.hid hE
  have HWD := HF2S
  have HWE := Lib.hid HF4.out.size
  clear hf5 hK HF4 HQ4 HB4 HR4 HC4 HK4 HD4 G8 G9 hD hE
  gi_wp2_with fail
  rw [roundsIn_succ]
  have x6 : (W5.alloc (.cells #[.int .i64 2] 3)).cell? ⟨w.heap.size + 1 + 1, 0, none⟩ = some (.bool false) := (HR5.out.alloc _).cell 0
  have z6 := (HR5.out.alloc (.cells #[.int .i64 2] 3)).frozen 0
  gi_wp2_with fail
  have k6 : KeepsOthers W5 ((W5.alloc (.cells #[.int .i64 2] 3)).setCell ⟨w.heap.size + 1 + 1, 0, none⟩ (.bool true)) := (KeepsOthers.alloc _ _).trans (KeepsOthers.setCell _ _ _)
  have hE6 := k6.same De _ HE5.out rfl
  have hD6 := k6.same Dd _ HK5.out rfl
  have b6 : Blk ((W5.alloc (.cells #[.int .i64 2] 3)).setCell ⟨w.heap.size + 1 + 1, 0, none⟩ (.bool true)) (w.heap.size + 1 + 1) [.bool true] 4 := (HR5.out.alloc _).set 0 (.bool true)
  have f6 : Fr none_ w ((W5.alloc (.cells #[.int .i64 2] 3)).setCell ⟨w.heap.size + 1 + 1, 0, none⟩ (.bool true)) := (HF5.out.alloc _).setNew (by omega) 0 _
  have hwD : w.heap.size ≤ Dd := Nat.le_trans HWD.out HDW.out
  have hwE : w.heap.size ≤ De := Nat.le_trans HWE.out HEW.out
  generalize (W5.alloc (.cells #[.int .i64 2] 3)).setCell ⟨w.heap.size + 1 + 1, 0, none⟩ (.bool true) = W6 at hE6 hD6 b6 f6 ⊢
  refine ⟨by simp, .inl ⟨_, _, rfl, run_takeDeferred hE6, ?_⟩⟩
  have hD7 : (W6.putObj De (.deferred none)).heap[Dd]? = some (.deferred (some [])) := (World.putObj_heap_other (fun e => HNE.out e.symm)).trans hD6
  have g7 := grownBy_putObj' W6 De (.deferred none)
  have b7 := b6.turn0 g7 hE6 rfl
  have f7 : Fr none_ w (W6.putObj De (.deferred none)) := f6.trans' (grownBy_fr g7) (fun i hi e => by injection e with e; omega)
  refine ⟨by simp, .inl ⟨_, _, rfl, run_takeDeferred hD7, ?_⟩⟩
  have g8 := grownBy_putObj' (W6.putObj De (.deferred none)) Dd (.deferred none)
  have b8 := b7.turn0 g8 hD7 rfl
  have f8 : Fr none_ w ((W6.putObj De (.deferred none)).putObj Dd (.deferred none)) := f7.trans' (grownBy_fr g8) (fun i hi e => by injection e with e; omega)
  have y6 := b8.cell 0
  change _ = some (Value.bool true) at y6
  refine ⟨_, pairs_results (n := w.heap.size) rfl y6, rfl, f8⟩
end Go.Proofs.YtkiinokhdmmagaaGreat
