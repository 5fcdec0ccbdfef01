/- A thing of a world is written over: the plain law. -/
import Derived.Test.YtkiinokhdmmagaaGreatSeal
namespace Go.Proofs.YtkiinokhdmmagaaGreat
open Go.RowKit
set_option linter.unusedSimpArgs false
set_option linter.unusedVariables false
set_option linter.unusedSectionVars false
def AW.upd (W : AW) (r : Int) (y : X) : AW := { W with things := W.things.map fun t => if t.1 = r then (r, y) else t }
theorem upd_mem {W : AW} {r : Int} {y : X} {q : Int} {z : X} : (q, z) ∈ (W.upd r y).things ↔ (q = r ∧ z = y ∧ ∃ x, (r, x) ∈ W.things) ∨ (q ≠ r ∧ (q, z) ∈ W.things) := by
  unfold AW.upd
  simp only [List.mem_map]
  constructor
  · rintro ⟨⟨a, x⟩, ha, he⟩
    by_cases e : a = r
    · rw [if_pos e] at he
      injection he with e1 e2
      exact .inl ⟨e1.symm, e2.symm, x, by rw [← e]; exact ha⟩
    · rw [if_neg e] at he
      injection he with e1 e2
      subst e1; subst e2
      exact .inr ⟨e, ha⟩
  · rintro (⟨rfl, rfl, x, hx⟩ | ⟨hn, h⟩)
    · exact ⟨(q, x), hx, by simp⟩
    · exact ⟨(q, z), h, by simp [hn]⟩
theorem upd_fst {W : AW} {r : Int} {y : X} : (W.upd r y).things.map (·.1) = W.things.map (·.1) := by
  unfold AW.upd
  rw [List.map_map]
  refine List.map_congr_left fun t _ => ?_
  show (if t.1 = r then (r, y) else t).1 = t.1
  split
  · rename_i e; exact e.symm
  · rfl
theorem at_upd {W : AW} {r : Int} {y : X} (q : Int) : (W.upd r y).at_ q = if q = r then (W.at_ r).map (fun _ => y) else W.at_ q := by
  unfold AW.at_ AW.upd
  simp only
  generalize W.things = l
  by_cases q1 : q = r
  · subst q1
    rw [if_pos rfl]
    induction l with
    | nil => rfl
    | cons t l ih =>
      simp only [List.map_cons, List.find?_cons]
      by_cases e : t.1 = q
      · simp [e]
      · have h1 : (t.1 == q) = false := by simpa using e
        rw [if_neg e]
        simp only [h1]
        exact ih
  · rw [if_neg q1]
    induction l with
    | nil => rfl
    | cons t l ih =>
      simp only [List.map_cons, List.find?_cons]
      by_cases e : t.1 = r
      · have h1 : (r == q) = false := by simpa using fun e => q1 e.symm
        have h2 : (t.1 == q) = false := by rw [e]; exact h1
        rw [if_pos e]
        simp only [h1, h2]
        exact ih
      · rw [if_neg e]
        cases hq : (t.1 == q) with
        | true => rfl
        | false => exact ih
theorem AW.Ok.upd {W : AW} (h : W.Ok) {r : Int} {y : X} (hp : y.plain) (hm : y.val.may = true) (ho : y.of_ ≤ W.last) : (W.upd r y).Ok := by
  refine ⟨fun t ht => ?_, fun t ht => ?_⟩
  · obtain ⟨q, z⟩ := t
    rcases upd_mem.1 ht with ⟨_, rfl, _⟩ | ⟨_, h1⟩
    · exact ⟨hp, hm⟩
    · exact h.plain _ h1
  · obtain ⟨q, z⟩ := t
    rcases upd_mem.1 ht with ⟨_, rfl, _⟩ | ⟨_, h1⟩
    · exact ho
    · exact h.ofs _ h1
section
variable {w : World} {p : Nat} {W : AW} {M D : Nat → Prop} {pa : Option Addr} {pc bc bt bf bm ck fk : Nat} {L : List (Int × Nat × Nat)} {FL : List ((Int × Int) × Int × Nat)}
theorem RepW.keysN (h : RepW w p W M D pa pc bc bt bf bm ck fk L FL) : (L.map (·.1)).Nodup := by
  refine h.perm.nodup_iff.2 ?_
  have h1 : (W.things.map (·.1)).Pairwise (· < ·) := List.pairwise_map.2 h.rise
  exact h1.imp (fun h e => by omega)
theorem nodup_key {α β : Type} {l : List (α × β)} (h : (l.map (·.1)).Nodup) {a : α} {x y : β} (hx : (a, x) ∈ l) (hy : (a, y) ∈ l) : x = y := by
  induction l with
  | nil => cases hx
  | cons t l ih =>
    rw [List.map_cons, List.nodup_cons] at h
    rcases List.mem_cons.1 hx with e1 | hx <;> rcases List.mem_cons.1 hy with e2 | hy
    · rw [← e1] at e2; injection e2 with _ e2; exact e2.symm
    · exact absurd (List.mem_map_of_mem (f := (·.1)) hy) (by rw [show (a, y).1 = t.1 from by rw [← e1]]; exact h.1)
    · exact absurd (List.mem_map_of_mem (f := (·.1)) hx) (by rw [show (a, x).1 = t.1 from by rw [← e2]]; exact h.1)
    · exact ih h.2 hx hy
theorem RepW.blk_inj (h : RepW w p W M D pa pc bc bt bf bm ck fk L FL) {r q : Int} {b s t : Nat} (h1 : (r, b, s) ∈ L) (h2 : (q, b, t) ∈ L) : r = q := by
  have hn := h.blks
  clear h
  induction L with
  | nil => cases h1
  | cons e l ih =>
    rw [List.map_cons, List.nodup_cons] at hn
    rcases List.mem_cons.1 h1 with e1 | h1 <;> rcases List.mem_cons.1 h2 with e2 | h2
    · rw [← e1] at e2; injection e2 with e2 _; exact e2.symm
    · exact absurd (List.mem_map_of_mem (f := (·.2.1)) h2) (by rw [show (q, b, t).2.1 = e.2.1 from by rw [← e1]]; exact hn.1)
    · exact absurd (List.mem_map_of_mem (f := (·.2.1)) h1) (by rw [show (r, b, s).2.1 = e.2.1 from by rw [← e2]]; exact hn.1)
    · exact ih h1 h2 hn.2
theorem blkOf_mem {r : Int} {b : Nat} (h : blkOf L r = some b) : ∃ s, (r, b, s) ∈ L := by
  unfold blkOf at h
  cases hf : L.find? (fun e => e.1 == r) with
  | none => rw [hf] at h; cases h
  | some e =>
    rw [hf] at h
    injection h with h
    have h1 := List.mem_of_find?_eq_some hf
    have h2 : e.1 = r := by simpa using List.find?_some hf
    obtain ⟨a, c, d⟩ := e
    exact ⟨d, by rw [← h, ← h2]; exact h1⟩
/-- A thing's block is none of the world's own. -/
theorem RepW.thing_apart (h : RepW w p W M D pa pc bc bt bf bm ck fk L FL) {b : Nat} {cs : List Value} (hb : Blk w b cs 80) : b ≠ p ∧ b ≠ bc ∧ b ≠ bt ∧ b ≠ bf ∧ b ≠ bm := by
  refine ⟨?_, ?_, ?_, ?_, ?_⟩
  · rintro rfl; exact absurd (hb.type_inj h.str) (by decide)
  · rintro rfl; exact absurd (hb.type_inj h.cutB) (by decide)
  · rintro rfl; exact hb.not_map h.mapB
  · rintro rfl; exact hb.not_map h.facB
  · rintro rfl; exact absurd (hb.type_inj h.madeB) (by decide)
/-- **What the writing over of a thing leaves.** -/
theorem RepW.upd (h : RepW w p W M D pa pc bc bt bf bm ck fk L FL) {w' : World} {r : Int} {b : Nat} {x y : X} {u : Under} {Dx : Nat → Prop} {cs : List Value}
    (hb : blkOf L r = some b) (hx : W.at_ r = some x) (hcs : Blk w b cs 80) (hkd : y.kind = x.kind) (h14 : x.kind = 14 → y.of_ = x.of_ ∧ y.set = x.set)
    (k : Fr (fun i => i = b) w w') (hbox : Blk w' b (y.cells u) 80) (hy : RX w' Dx True y u) (hdx : ∀ i, Dx i → i < w'.heap.size ∧ ¬ M i) :
    RepW w' p (W.upd r y) M (fun i => D i ∨ Dx i) pa pc bc bt bf bm ck fk L FL := by
  obtain ⟨s0, hmem⟩ := blkOf_mem hb
  obtain ⟨np, nc, nt, nf, nm⟩ := h.thing_apart hcs
  have hbM := (h.thing r b s0 hmem).1
  have hDb : ∀ i, D i → ¬ (i = b) := fun i hd e => h.md i hd (e ▸ hbM)
  have hxm := mem_of_at hx
  refine { str := h.str.keep k (fun e => np e.symm), par := ?_, cutB := h.cutB.keep k (fun e => nc e.symm), madeB := h.madeB.keep k (fun e => nm e.symm), mapB := (k.block bt (heap_lt h.mapB) (fun e => nt e.symm)).trans h.mapB, facB := (k.block bf (heap_lt h.facB) (fun e => nf e.symm)).trans h.facB, m := h.m, btf := h.btf, md := ?_, mlt := fun i hi => Nat.lt_of_lt_of_le (h.mlt i hi) k.size, dlt := ?_, rise := ?_, low := ?_, perm := ?_, born := h.born, blks := h.blks, thing := ?_, facs := ?_, facn := h.facn, sides := h.sides, mades := h.mades, last := h.last }
  · intro i hi
    obtain ⟨q, o, h1, h2, h3⟩ := h.par i hi
    exact ⟨q, o, h1, .inl h2, cell_keep (fun hb => k.block q hb (hDb q h2)) h3⟩
  · rintro i (hd | hd) hm
    · exact h.md i hd hm
    · exact (hdx i hd).2 hm
  · rintro i (hd | hd)
    · exact Nat.lt_of_lt_of_le (h.dlt i hd) k.size
    · exact (hdx i hd).1
  · have h1 : ((W.upd r y).things.map (·.1)).Pairwise (· < ·) := by rw [upd_fst]; exact List.pairwise_map.2 h.rise
    exact List.pairwise_map.1 h1
  · rintro ⟨q, z⟩ ht
    rcases upd_mem.1 ht with ⟨rfl, rfl, x', hx'⟩ | ⟨_, h1⟩
    · have h1 := h.low _ hx'
      exact h1
    · exact h.low _ h1
  · rw [upd_fst]; exact h.perm
  · intro q c s hq
    by_cases e : q = r
    · subst e
      have e1 := nodup_key h.keysN hq hmem
      injection e1 with e1 _
      subst e1
      exact ⟨hbM, y, u, upd_mem.2 (.inl ⟨rfl, rfl, x, hxm⟩), hbox, hy.mono fun _ h => .inr h⟩
    · obtain ⟨h1, z, v, h2, h3, h4⟩ := h.thing q c s hq
      have hcb : ¬ (c = b) := fun e1 => e (h.blk_inj (e1 ▸ hq) hmem)
      exact ⟨h1, z, v, upd_mem.2 (.inr ⟨e, h2⟩), h3.keep k hcb, (h4.fr k hDb).mono fun _ h => .inl h⟩
  · intro t s q
    rw [h.facs]
    constructor
    · rintro ⟨z, h1, h2, h3, h4⟩
      by_cases e : q = r
      · subst e
        obtain rfl := pairwise_unique h.rise h1 hxm
        obtain ⟨e1, e2⟩ := h14 h2
        exact ⟨y, upd_mem.2 (.inl ⟨rfl, rfl, z, hxm⟩), hkd.trans h2, e1.trans h3, e2.trans h4⟩
      · exact ⟨z, upd_mem.2 (.inr ⟨e, h1⟩), h2, h3, h4⟩
    · rintro ⟨z, h1, h2, h3, h4⟩
      rcases upd_mem.1 h1 with ⟨rfl, rfl, x', hx'⟩ | ⟨hn, h1⟩
      · have hk : x.kind = 14 := hkd.symm.trans h2
        obtain ⟨e1, e2⟩ := h14 hk
        exact ⟨x, hxm, hk, e1.symm.trans h3, e2.symm.trans h4⟩
      · exact ⟨z, h1, h2, h3, h4⟩
end
end Go.Proofs.YtkiinokhdmmagaaGreat
