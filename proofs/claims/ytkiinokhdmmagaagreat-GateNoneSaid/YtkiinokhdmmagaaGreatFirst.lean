/- 'First' of package gate. -/
import Derived.Test.YtkiinokhdmmagaaGreatGates
namespace Go.Proofs.YtkiinokhdmmagaaGreat
open Go.RowKit Go.Shelf
set_option linter.unusedSimpArgs false
set_option linter.unusedVariables false
set_option linter.unusedSectionVars false
attribute [local go_sem] Oper.semAt_some
def firstIn (W : AW) (l : List Int) : Option Int := (gatesIn W l).find? (cutB W)
def firstV (o : Option Int) : Value := .tuple #[.int .i64 (o.getD 0), .bool o.isSome]
/-- A block that is no cells turns: one that is cells stays. -/
theorem Blk.turn {W W' : World} {b : Nat} {cs : List Value} {t : Nat} {row : Option Nat} (h : Blk W b cs t) (hg : W.grownBy W' row) (hr : ∀ r, row = some r → ∃ o : Obj, W.heap[r]? = some o ∧ o.isCells = false) : Blk W' b cs t := by
  refine h.keep (S := fun b => row = some b) (grownBy_fr hg) (fun e => ?_)
  obtain ⟨o, ho, hc⟩ := hr b e
  unfold Blk at h
  rw [ho] at h
  injection h with h
  subst h
  cases hc
/-- A block that holds cells turns: what is no cells stays. -/
theorem keepsOthers_set (W : World) (b i : Nat) (v : Value) : KeepsOthers W (W.setCell ⟨b, i, none⟩ v) := KeepsOthers.setCell _ _ _
theorem keepsOthers_fr {W W' : World} (h : Fr none_ W W') : KeepsOthers W W' := ⟨h.size, fun k o hk _ => (h.block k (heap_lt hk) (fun h => h)).trans hk⟩
section
variable {w : World} {p : Nat} {W : AW} {M D : Nat → Prop} {pa : Option Addr} {pc bc bt bf bm ck fk : Nat} {L : List (Int × Nat × Nat)} {FL : List ((Int × Int) × Int × Nat)}
def FirstI (w : World) (p : Nat) (W : AW) (n : Nat) (pre : List Int) (W' : World) : Prop :=
  Fr none_ w W' ∧ Blk W' n [.pointer (some ⟨p, 0, none⟩)] 31 ∧ Blk W' (n + 1) [.int .i64 0] 22 ∧ Blk W' (n + 1 + 1) [.bool false] 4 ∧ ∀ q, q ∈ pre → cutB W q = false
def FirstX (w : World) (W : AW) (n : Nat) (c : Code) (pre : List Int) (W' : World) : Prop :=
  c = .ret ∧ Fr none_ w W' ∧ ∃ p0 g, pre = p0 ++ [g] ∧ (∀ q, q ∈ p0 → cutB W q = false) ∧ cutB W g = true ∧ Blk W' (n + 1) [.int .i64 g] 22 ∧ Blk W' (n + 1 + 1) [.bool true] 4
theorem FirstI.own (w : World) (p : Nat) (W : AW) (n B : Nat) (hB : w.heap.size ≤ B) : OwnFrom B (FirstI w p W n) := by
  rintro s Wa Wb row ⟨hf, h1, h2, h3, h4⟩ hg hr
  have hr2 := fun r e => (hr r e).2
  refine ⟨hf.trans' (grownBy_fr hg) (fun i hi e => ?_), h1.turn hg hr2, h2.turn hg hr2, h3.turn hg hr2, h4⟩
  have := (hr i e).1
  omega
theorem FirstX.own (w : World) (W : AW) (n B : Nat) (hB : w.heap.size ≤ B) (c : Code) : OwnFrom B (FirstX w W n c) := by
  rintro s Wa Wb row ⟨hc, hf, p0, g, h1, h2, h3, h4, h5⟩ hg hr
  have hr2 := fun r e => (hr r e).2
  refine ⟨hc, hf.trans' (grownBy_fr hg) (fun i hi e => ?_), p0, g, h1, h2, h3, h4.turn hg hr2, h5.turn hg hr2⟩
  have := (hr i e).1
  omega
abbrev noZ : World → Nat → Prop := fun _ _ => False
theorem kept_put' {n0 : Nat} (W : World) (l : Nat) (o o' : Obj) (hn : n0 ≤ l) (hl : W.heap[l]? = some o) (h1 : o.isCells = false) (h2 : o.isWalk = false) : Kept n0 noZ W (W.putObj l o') := by
  have hg := grownBy_putObj' W l o'
  refine ⟨⟨hg.os, hg.tape, hg.output, hg.size, fun b hb hn' => hg.block b hb (fun e => hn' ?_)⟩, fun b hb => hb.elim⟩
  injection e with e
  subst e
  exact ⟨hn, .inr ⟨o, hl, h1, h2⟩⟩
theorem first_found {W : AW} {l p0 : List Int} {g : Int} (h : p0 ++ [g] <+: gatesIn W l) (h0 : ∀ q, q ∈ p0 → cutB W q = false) (h1 : cutB W g = true) : firstIn W l = some g := by
  obtain ⟨t, ht⟩ := h
  unfold firstIn
  rw [← ht, List.find?_append, List.find?_append]
  have e : p0.find? (cutB W) = none := by
    rw [List.find?_eq_none]
    intro q hq
    rw [h0 q hq]
    simp
  rw [e]
  simp [h1]
theorem first_none {W : AW} {l : List Int} (h : ∀ q, q ∈ gatesIn W l → cutB W q = false) : firstIn W l = none := by
  unfold firstIn
  rw [List.find?_eq_none]
  intro q hq
  rw [h q hq]
  simp
theorem first_results {a : Act} {Wf : World} {n : Nat} {g : Int} {b : Bool} (h4 : a.tmps[4]?.getD undef = .pointer (some ⟨n + 1, 0, none⟩)) (h5 : a.tmps[5]?.getD undef = .pointer (some ⟨n + 1 + 1, 0, none⟩)) (c1 : Wf.cell? ⟨n + 1, 0, none⟩ = some (.int .i64 g)) (c2 : Wf.cell? ⟨n + 1 + 1, 0, none⟩ = some (.bool b)) :
    (results Tryz.f23 a.tmps).run Tryz.prog Wf = .ok (.tuple #[.int .i64 g, .bool b]) Wf := by
  simp [results, Tryz.results23, h4, h5, go_sem, c1, c2]
def First_ (w : World) (o : Option Int) (e : Ending) (w' : World) : Prop := e = .returned (firstV o) ∧ Fr none_ w w'
set_option maxRecDepth 100000 in
set_option maxHeartbeats 8000000 in
theorem first_any (h : RepW w p W M D pa pc bc bt bf bm ck fk L FL) (hok : W.Ok) (r : Int) (l : List Int) (hw : WayOf W r l) (hl : l.length ≤ 1000000) :
    Calls Tryz.prog 23 #[.pointer (some ⟨p, 0, none⟩), .int .i64 r] w (First_ w (firstIn W l)) := by
  have H := Lib.hid h; clear h
  have HW := Lib.hid hw; clear hw
  have HL := Lib.hid hl; clear hl
  have HOK := Lib.hid hok; clear hok
  refine (callsIn_wide (n := 6)).1 ?_
  refine callsIn_of_wp_marks Tryz.func23 rfl trivial ?_ rfl
  simp only [Tryz.ntmps23, List.size_toArray, List.length_cons, List.length_nil, Nat.reduceAdd, Nat.reduceSub, Array.replicate_succ, Array.replicate_zero, List.push_toArray, List.append_toArray, List.nil_append, List.cons_append]
  gi_wp2_with fail
  refine ⟨trivial, ?_⟩
  have hf0 : Fr none_ w (((w.alloc (.cells #[.pointer (some ⟨p, 0, none⟩)] 31)).alloc (.cells #[.int .i64 0] 22)).alloc (.cells #[.bool false] 4)) := (((Fr.refl _ _).alloc _).alloc _).alloc _
  refine (callsIn_wide.2 (gthere_any (H.out.keep hf0 (fun _ _ h => h) (fun _ _ h => h)))).mono ?_
  rintro e W1 ⟨rfl, hW⟩
  have hb0 : Blk W1 w.heap.size [.pointer (some ⟨p, 0, none⟩)] 31 := by rw [hW]; exact ((Blk.new w _ _).alloc _).alloc _
  have hb1 : Blk W1 (w.heap.size + 1) [.int .i64 0] 22 := by
    rw [hW]
    have h := Blk.new (w.alloc (.cells #[.pointer (some ⟨p, 0, none⟩)] 31)) [.int .i64 0] 22
    rw [World.size_alloc] at h
    exact h.alloc _
  have hb2 : Blk W1 (w.heap.size + 1 + 1) [.bool false] 4 := by
    rw [hW]
    have h := Blk.new ((w.alloc (.cells #[.pointer (some ⟨p, 0, none⟩)] 31)).alloc (.cells #[.int .i64 0] 22)) [.bool false] 4
    rw [World.size_alloc, World.size_alloc] at h
    exact h
  have hf1 : Fr none_ w W1 := by rw [hW]; exact hf0
  clear hW hf0
  have x0 : W1.cell? ⟨w.heap.size, 0, none⟩ = some (.pointer (some ⟨p, 0, none⟩)) := hb0.cell 0
  have HB0 := Lib.hid hb0; clear hb0
  have HB1 := Lib.hid hb1; clear hb1
  have HB2 := Lib.hid hb2; clear hb2
  have HF1 := Lib.hid hf1; clear hf1
  gi_wp2_with fail
  refine ⟨trivial, ?_⟩
  refine (callsIn_wide.2 (each_any p r W1)).mono ?_
  rintro e W2 ⟨rfl, h1, h2, hf, hsz⟩
  have hr2 := H.out.keep (HF1.out.trans hf) (fun _ _ h => h) (fun _ _ h => h)
  have hi0 : FirstI w p W w.heap.size [] W2 := ⟨HF1.out.trans hf, HB0.out.keep hf (fun h => h), HB1.out.keep hf (fun h => h), HB2.out.keep hf (fun h => h), fun q h => absurd h (List.not_mem_nil)⟩
  have hs2 : w.heap.size ≤ W2.heap.size := (HF1.out.trans hf).size
  have hseq := each1_stops hr2 r l HW.out HL.out _ _ h1 h2 noZ (Kept W2.heap.size noZ) W2.heap.size (Nat.le_refl _) hr2.mlt hr2.dlt (cell_lt h1) (fun _ _ h => h) (fun _ _ _ h => h.elim) 5 (by omega)
  have hkn : ∀ b, M b → b < W2.heap.size := hr2.mlt
  have HSEQ := Lib.hid hseq; clear hseq
  have HI0 := Lib.hid hi0; clear hi0
  have HS2 := Lib.hid hs2; clear hs2
  clear hr2 h1 h2 hf hsz hkn x0 HF1 HB0 HB1 HB2
  gi_wp2
  refine wpIn_rangeFunc_ownF rfl (by omega) (gf := 78) (lb := #[.pointer (some ⟨W1.heap.size, 0, none⟩), .pointer (some ⟨W1.heap.size + 1, 0, none⟩)]) rfl trivial (enters_of Tryz.func78 (by kernel_rfl) rfl) HSEQ.out Kept.trans (fun W l o o' h1 h2 h3 h4 => kept_put' W l o o' h1 h2 h3 h4) (Below.refl _ _) (fun _ => rfl)
    (FirstI w p W w.heap.size) (FirstX w W w.heap.size) (FirstI.own w p W _ _ HS2.out) (FirstX.own w W _ _ HS2.out) HI0.out
    (fun x => { tmps := #[.pointer (some ⟨p, 0, none⟩), .int .i64 r, .pointer (some ⟨w.heap.size, 0, none⟩), undef, .pointer (some ⟨w.heap.size + 1, 0, none⟩), .pointer (some ⟨w.heap.size + 1 + 1, 0, none⟩), .int .i64 x, .pointer (some ⟨p, 0, none⟩), .bool true, .bool false, .pointer (some ⟨p, 0, none⟩), .int .i64 r, .func (.func 78) #[] #[.pointer (some ⟨W1.heap.size, 0, none⟩), .pointer (some ⟨W1.heap.size + 1, 0, none⟩)], .int .i64 x, undef, undef, undef, undef], defers := [] }) ?assign ?body ?done ?stop
  case assign =>
    intro l x W K hK
    gi_wp2
    exact hK
  case body =>
    rintro yl pre x Wr hi hlen
    have x0 := hi.2.1.cell 0
    have hrr := H.out.keep hi.1 (fun _ _ h => h) (fun _ _ h => h)
    have HI := Lib.hid hi; clear hi
    have HRR := Lib.hid hrr; clear hrr
    gi_wp2_with fail
    refine ⟨trivial, ?_⟩
    refine (CallsIn.inRound yl (callsIn_wide.2 (gcut_any HRR.out HOK.out x))).mono ?_
    rintro e W3 ⟨rfl, hf3⟩
    have hi3 : Blk W3 w.heap.size [.pointer (some ⟨p, 0, none⟩)] 31 := HI.out.2.1.keep hf3 (fun h => h)
    have hi4 : Blk W3 (w.heap.size + 1) [.int .i64 0] 22 := HI.out.2.2.1.keep hf3 (fun h => h)
    have hi5 : Blk W3 (w.heap.size + 1 + 1) [.bool false] 4 := HI.out.2.2.2.1.keep hf3 (fun h => h)
    have hw3 := HI.out.1.trans hf3
    have HF3 := Lib.hid hf3; clear hf3
    have HW3 := Lib.hid hw3; clear hw3
    cases hc : cutB W x with
    | false =>
      have HC := Lib.hid hc; clear hc
      have HI3 := Lib.hid hi3; clear hi3
      have HI4 := Lib.hid hi4; clear hi4
      have HI5 := Lib.hid hi5; clear hi5
      clear x0
      gi_wp2
      refine ⟨keepsOthers_fr HF3.out, ⟨HF3.out.mono (fun _ _ h => h.elim), fun _ h => h.elim⟩, HW3.out, HI3.out, HI4.out, HI5.out, fun q hq => ?_⟩
      rcases List.mem_append.1 hq with hq | hq
      · exact HI.out.2.2.2.2 q hq
      · rw [List.mem_singleton.1 hq]; exact HC.out
    | true =>
      have y1 : W3.cell? ⟨w.heap.size + 1, 0, none⟩ = some (.int .i64 0) := hi4.cell 0
      have y2 : W3.cell? ⟨w.heap.size + 1 + 1, 0, none⟩ = some (.bool false) := hi5.cell 0
      have z1 := hi4.frozen 0
      have z2 := hi5.frozen 0
      have HC := Lib.hid hc; clear hc
      have HI3 := Lib.hid hi3; clear hi3
      have HI4 := Lib.hid hi4; clear hi4
      have HI5 := Lib.hid hi5; clear hi5
      clear x0
      gi_wp2
      refine ⟨(keepsOthers_fr HF3.out).trans ((KeepsOthers.setCell _ _ _).trans (KeepsOthers.setCell _ _ _)), rfl, (HW3.out.setNew (by omega) 0 _).setNew (by omega) 0 _, pre, x, rfl, HI.out.2.2.2.2, HC.out, ?_, ?_⟩
      · exact (HI4.out.set 0 (.int .i64 x)).other _ _ (by simp)
      · exact (HI5.out.other ⟨w.heap.size + 1, 0, none⟩ (.int .i64 x) (by simp)).set 0 (.bool true)
  case done =>
    rintro Dd xs Wr hD rfl hi hK
    have y1 : Wr.cell? ⟨w.heap.size + 1, 0, none⟩ = some (.int .i64 0) := hi.2.2.1.cell 0
    have y2 : Wr.cell? ⟨w.heap.size + 1 + 1, 0, none⟩ = some (.bool false) := hi.2.2.2.1.cell 0
    have z1 := hi.2.2.1.frozen 0
    have z2 := hi.2.2.2.1.frozen 0
    have HI := Lib.hid hi; clear hi
    have HK := Lib.hid hK; clear hK
    gi_wp2
    have hK2 : ((Wr.setCell ⟨w.heap.size + 1, 0, none⟩ (.int .i64 0)).setCell ⟨w.heap.size + 1 + 1, 0, none⟩ (.bool false)).heap[Dd]? = some (.deferred (some [])) := ((KeepsOthers.setCell _ _ _).trans (KeepsOthers.setCell _ _ _)).same Dd _ HK.out rfl
    refine ⟨by simp, .inl ⟨_, _, rfl, run_takeDeferred hK2, ?_⟩⟩
    have hg := grownBy_putObj' ((Wr.setCell ⟨w.heap.size + 1, 0, none⟩ (.int .i64 0)).setCell ⟨w.heap.size + 1 + 1, 0, none⟩ (.bool false)) Dd (.deferred none)
    have hr2 : ∀ r, some Dd = some r → ∃ o : Obj, ((Wr.setCell ⟨w.heap.size + 1, 0, none⟩ (.int .i64 0)).setCell ⟨w.heap.size + 1 + 1, 0, none⟩ (.bool false)).heap[r]? = some o ∧ o.isCells = false := fun r e => by injection e with e; subst e; exact ⟨_, hK2, rfl⟩
    have b1 : Blk ((Wr.setCell ⟨w.heap.size + 1, 0, none⟩ (.int .i64 0)).setCell ⟨w.heap.size + 1 + 1, 0, none⟩ (.bool false)) (w.heap.size + 1) [.int .i64 0] 22 := (HI.out.2.2.1.set 0 (.int .i64 0)).other _ _ (by simp)
    have b2 : Blk ((Wr.setCell ⟨w.heap.size + 1, 0, none⟩ (.int .i64 0)).setCell ⟨w.heap.size + 1 + 1, 0, none⟩ (.bool false)) (w.heap.size + 1 + 1) [.bool false] 4 := (HI.out.2.2.2.1.other ⟨w.heap.size + 1, 0, none⟩ (.int .i64 0) (by simp)).set 0 (.bool false)
    refine ⟨_, first_results (n := w.heap.size) rfl rfl ((b1.turn hg hr2).cell 0) ((b2.turn hg hr2).cell 0), ?_, ?_⟩
    · rw [first_none HI.out.2.2.2.2]
      rfl
    · refine Fr.trans' ((HI.out.1.setNew (by omega) 0 _).setNew (by omega) 0 _) (grownBy_fr hg) (fun i hi e => ?_)
      injection e with e
      have := HS2.out
      omega
  case stop =>
    rintro Dd c pre Wr hD hpre hx hK
    obtain ⟨rfl, hf, p0, g, rfl, h0, h1, h2, h3⟩ := hx
    have HK := Lib.hid hK; clear hK
    gi_wp2
    refine ⟨by simp, .inl ⟨_, _, rfl, run_takeDeferred HK.out, ?_⟩⟩
    have hg := grownBy_putObj' Wr Dd (.deferred none)
    have hr2 : ∀ r, some Dd = some r → ∃ o : Obj, Wr.heap[r]? = some o ∧ o.isCells = false := fun r e => by injection e with e; subst e; exact ⟨_, HK.out, rfl⟩
    refine ⟨_, first_results (n := w.heap.size) rfl rfl ((h2.turn hg hr2).cell 0) ((h3.turn hg hr2).cell 0), ?_, ?_⟩
    · rw [first_found hpre h0 h1]
      rfl
    · refine Fr.trans' hf (grownBy_fr hg) (fun i hi e => ?_)
      injection e with e
      have := HS2.out
      omega
end
end Go.Proofs.YtkiinokhdmmagaaGreat
