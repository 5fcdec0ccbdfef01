/- Ranging over the map of things; 'other', 'there' and 'fits' of package world. -/
import Derived.Test.YtpgjbbefgacjkaaNames
import Derived.Maps.RangeWalk
namespace Go.Proofs.Ytpgjbbefgacjkaa
open Go.RowKit
set_option linter.unusedSimpArgs false
set_option linter.unusedVariables false
set_option linter.unusedSectionVars false

/-! ### 1. Ranging over a map that is known entry by entry -/
/-- Block r ranges over the map in block b, whose entries are es; the entries of these stamps have come. -/
structure It (w : World) (b r : Nat) (es : Array MapEntry) (ck : Nat) (seen : Array Nat) : Prop where
  map : w.heap[b]? = some (.map es ck)
  it : w.heap[r]? = some (.mapIter (some b) ck seen ck)
  old : ∀ x ∈ es.toList, x.born < ck
  nodup : (es.toList.map (·.born)).Nodup
theorem It.keep {S : Nat → Prop} {w w' : World} {b r : Nat} {es : Array MapEntry} {ck : Nat} {seen : Array Nat} (h : It w b r es ck seen) (k : Fr S w w') (hb : ¬ S b) (hr : ¬ S r) : It w' b r es ck seen :=
  { h with map := (k.block b (heap_lt h.map) hb).trans h.map, it := (k.block r (heap_lt h.it) hr).trans h.it }
section
variable {P : Program} (w : World) {ops : Array Oper} {rest : List Oper} {o : Oper} {a : Act} {Q : Exit → Act → World → Prop}
theorem wpList_range_raw (hg : o.guard = none) (m : Operand) (t k e : TypeId) (b : Nat) (es : Array MapEntry) (ck : Nat) (hop : o.op = Op.range t m) (ht : P.underlying t = some (.map k e))
    (hm : a.eval m = .map (some b)) (hb : w.heap[b]? = some (.map es ck)) (hold : ∀ x ∈ es.toList, x.born < ck) (hnd : (es.toList.map (·.born)).Nodup)
    (hK : ∀ w', It w' b w.heap.size es ck #[] → Fr none_ w w' → w'.heap.size = w.heap.size + 1 → wpList P ops Q rest (a.put o.dst (.pointer (some ⟨w.heap.size, 0, none⟩))) w') :
    wpList P ops Q (o :: rest) a w := by
  refine wpList_plain hg fun K' hK' => ?_
  unfold Oper.wp
  simp [execOp, hop, hm, run_range_map w t k e b es ck ht hb, Result.andThen]
  exact hK' _ _ (hK _ ⟨(Below.heap_alloc _ _ _ (by have := heap_lt hb; omega)).trans hb, heap_alloc_new w _, hold, hnd⟩ ((Fr.refl none_ w).alloc _) (by simp))
theorem wpList_next_raw (hg : o.guard = none) (it : Operand) (b r : Nat) (es : Array MapEntry) (ck : Nat) (seen : Array Nat) (hop : o.op = Op.next it false) (hit : a.eval it = .pointer (some ⟨r, 0, none⟩)) (h : It w b r es ck seen)
    (hDone : (∀ x ∈ es.toList, seen.contains x.born = true) → wpList P ops Q rest (a.put o.dst (.tuple #[.bool false])) w)
    (hMore : ∀ e w', e ∈ es.toList → seen.contains e.born = false → (leftOf es (seen.push e.born)).size < (leftOf es seen).size → It w' b r es ck (seen.push e.born) → Fr (· = r) w w' → w'.heap.size = w.heap.size →
      (Instr.entry (.pointer (some ⟨r, 0, none⟩))).run P w' = .ok (.tuple #[e.key, e.val]) w' → wpList P ops Q rest (a.put o.dst (.tuple #[.bool true, e.key, e.val])) w') :
    wpList P ops Q (o :: rest) a w := by
  have hne : b ≠ r := fun e => by have h1 := h.map; have h2 := h.it; rw [e, h2] at h1; cases h1
  refine wpList_plain hg fun K' hK' => ?_
  unfold Oper.wp
  rcases run_next_at (P := P) w o.type r b ck ck seen es ck h.it h.map h.old (Nat.le_refl _) with ⟨h0, hrun⟩ | ⟨e, he, w1, hal, hrun⟩
  · simp [execOp, hop, hit, hrun, Result.andThen]
    exact hK' _ _ (hDone (all_seen es seen h0))
  · obtain ⟨hem, hes⟩ := mem_left he
    have hr1 : w1.heap[r]? = some (.mapIter (some b) ck seen ck) := by rcases hal with rfl | rfl <;> exact h.it
    have hb1 : w1.heap[b]? = some (.map es ck) := by rcases hal with rfl | rfl <;> exact h.map
    have hset := MapKept.heap_set (o' := .mapIter (some b) ck (seen.push e.born) ck) hr1
    have hb' : (ChangeMaps.setBlock w1 r (.mapIter (some b) ck (seen.push e.born) ck)).heap[b]? = some (.map es ck) := (hset.2 b hne).trans hb1
    simp [execOp, hop, hit, hrun, Result.andThen]
    refine hK' _ _ (hMore e _ hem hes (left_shrinks es seen e he) ⟨hb', hset.1, h.old, h.nodup⟩ ?_ ?_ (run_entry_at _ r b ck seen es ck e hset.1 hb' hem h.nodup))
    · rcases hal with rfl | rfl
      · exact ⟨rfl, rfl, rfl, by simp [ChangeMaps.setBlock], fun i _ hi => hset.2 i hi⟩
      · exact ⟨rfl, rfl, rfl, by simp [ChangeMaps.setBlock], fun i _ hi => hset.2 i hi⟩
    · rcases hal with rfl | rfl <;> simp [ChangeMaps.setBlock]
end

section
variable {w : World} {p : Nat} {W : AW} {M D : Nat → Prop} {pa : Option Addr} {pc bc bt bf bm ck fk : Nat} {L : List (Int × Nat × Nat)} {FL : List ((Int × Int) × Int × Nat)}
def otherB (W : AW) (r k of : Int) : Bool := W.things.any fun t => decide (t.1 ≠ r) && decide (t.2.kind = k) && decide (t.2.of_ = of)
theorem RepW.born_lt (h : RepW w p W M D pa pc bc bt bf bm ck fk L FL) : ∀ x ∈ ((L.map ent).toArray).toList, x.born < ck := by
  intro x hx
  rw [List.toList_toArray] at hx; obtain ⟨e, he, rfl⟩ := List.mem_map.1 hx
  exact h.born.2 e he
theorem RepW.born_nd (h : RepW w p W M D pa pc bc bt bf bm ck fk L FL) : (((L.map ent).toArray).toList.map (·.born)).Nodup := by
  have := h.born.1
  simpa [List.map_map, Function.comp_def] using this
/-- An entry of the map: its thing. -/
theorem RepW.entry (h : RepW w p W M D pa pc bc bt bf bm ck fk L FL) (e : MapEntry) (he : e ∈ ((L.map ent).toArray).toList) :
    ∃ q b x u, e.key = .int .i64 q ∧ e.val = .pointer (some ⟨b, 0, none⟩) ∧ M b ∧ (q, x) ∈ W.things ∧ Blk w b (x.cells u) 69 ∧ RX w D True x u ∧ (q, b, e.born) ∈ L := by
  rw [List.toList_toArray] at he; obtain ⟨⟨q, b, s⟩, he0, rfl⟩ := List.mem_map.1 he
  obtain ⟨hm, x, u, hx, hb, hr⟩ := h.thing q b s he0
  exact ⟨q, b, x, u, rfl, rfl, hm, hx, hb, hr, he0⟩
/-- Every thing has its entry. -/
theorem RepW.entry_of (h : RepW w p W M D pa pc bc bt bf bm ck fk L FL) (q : Int) (x : X) (hx : (q, x) ∈ W.things) : ∃ e ∈ ((L.map ent).toArray).toList, e.key = .int .i64 q := by
  have h1 := h.perm.mem_iff.2 (List.mem_map_of_mem (f := (·.1)) hx)
  obtain ⟨e, he, hr⟩ := List.mem_map.1 h1
  exact ⟨ent e, by rw [List.toList_toArray]; exact List.mem_map_of_mem he, by show Value.int .i64 e.1 = _; rw [hr]⟩
theorem things_inj (h : RepW w p W M D pa pc bc bt bf bm ck fk L FL) (q : Int) (x y : X) (hx : (q, x) ∈ W.things) (hy : (q, y) ∈ W.things) : x = y := pairwise_unique h.rise hx hy
def OthRel (w : World) (W : AW) (rr k of : Int) (bt r ck : Nat) (es : Array MapEntry) (n : Nat) (wr : World) : Prop :=
  ∃ seen, It wr bt r es ck seen ∧ n = (leftOf es seen).size ∧ Fr none_ w wr ∧ r < wr.heap.size ∧
    ∀ e ∈ es.toList, seen.contains e.born = true → ∀ q x, e.key = .int .i64 q → (q, x) ∈ W.things → ¬ (q ≠ rr ∧ x.kind = k ∧ x.of_ = of)
set_option maxRecDepth 100000 in
set_option maxHeartbeats 2000000 in
theorem other_any (h : RepW w p W M D pa pc bc bt bf bm ck fk L FL) (rr k of : Int) : Calls Try.prog 74 #[.pointer (some ⟨p, 0, none⟩), .int .i64 rr, .int .u8 k, .int .i64 of] w (Bool_ w (otherB W rr k of)) := by
  have c2 := h.c2
  have hbn := h.born_lt
  have hnd := h.born_nd
  have hmp := h.mapB
  have hent := @RepW.entry w p W M D pa pc bc bt bf bm ck fk L FL h
  have heo := @RepW.entry_of w p W M D pa pc bc bt bf bm ck fk L FL h
  have hij := @things_inj w p W M D pa pc bc bt bf bm ck fk L FL h
  have hmlt := h.mlt
  generalize hes : (L.map ent).toArray = es at hbn hnd hmp hent heo
  clear hes
  have H := Lib.hid h; clear h
  have HBN := Lib.hid hbn; clear hbn
  have HND := Lib.hid hnd; clear hnd
  have HMP := Lib.hid hmp; clear hmp
  have HENT := Lib.hid hent; clear hent
  have HEO := Lib.hid heo; clear heo
  have HIJ := Lib.hid hij; clear hij
  have HMLT := Lib.hid hmlt; clear hmlt
  go_enter Try.func74, Try.ntmps74
  go_wp2_with (first | (at_range; refine wpList_range_raw _ rfl _ _ _ _ bt es ck rfl Try.underlying59 rfl HMP.out HBN.out HND.out ?_; intro w0 hit hf0 hs0; have HIT := Lib.hid hit; clear hit; have HF0 := Lib.hid hf0; clear hf0; have HS0 := Lib.hid hs0; clear hs0) | fail)
  go_frame
  go_loopg [] ((leftOf es #[]).size) (fun k' wr => OthRel w W rr k of bt w.heap.size ck es k' wr)
  case atStart => exact ⟨#[], HIT.out, rfl, HF0.out, by rw [HS0.out]; omega, fun e _ h => by simp at h⟩
  case round =>
    obtain ⟨seen, hit, hn, hf, hlt, hall⟩ := hrel
    subst hn
    have HI := Lib.hid hit; clear hit
    have HF := Lib.hid hf; clear hf
    have HA := Lib.hid hall; clear hall
    go_wp2_with (first | (at_next; refine wpList_next_raw _ rfl _ bt w.heap.size es ck seen rfl rfl HI.out ?_ ?_) | fail)
    · intro hd
      have HD := Lib.hid hd; clear hd
      go_wp2
      go_ret
      refine ⟨ret_bool ?_, HF.out⟩
      unfold otherB
      refine (List.any_eq_false.2 fun t ht => ?_).symm
      obtain ⟨e, he, hk⟩ := HEO.out t.1 t.2 ht
      have := HA.out e he (by simpa using HD.out e (by simpa using he)) t.1 t.2 hk ht
      simp only [Bool.and_eq_true, decide_eq_true_eq, not_and]
      intro h1 h2
      exact this ⟨h1.1, h1.2, h2⟩
    · intro e w1 he' hse hsh hit1 hf1 hs1 hen
      have he : e ∈ es.toList := by simpa using he'
      clear he'
      obtain ⟨q, b, x, u, hk, hv, hm, hx, hb, hr, hmem⟩ := HENT.out e he
      rw [hk, hv] at hen ⊢
      have hbl : b < w.heap.size := HMLT.out b hm
      have hb1 : Blk w1 b (x.cells u) 69 := (hb.keep HF.out (fun h => h)).keep hf1 (by show ¬ b = w.heap.size; omega)
      have k0 : w1.cell? ⟨b, 0, none⟩ = some (.int .u8 x.kind) := hb1.cell 0
      have k10 : w1.cell? ⟨b, 10, none⟩ = some (.int .i64 x.of_) := hb1.cell 10
      have hfw : Fr none_ w w1 := Fr.trans' (S' := (· = w.heap.size)) HF.out hf1 (by intro i hi h; omega)
      have HFW := Lib.hid hfw; clear hfw
      have HIT1 := Lib.hid hit1; clear hit1
      have HK := Lib.hid hk; clear hk
      have HX := Lib.hid hx; clear hx
      have HSH := Lib.hid hsh; clear hsh
      clear hb hb1 hr hv hmem hf1 hm
      have hlt1 : w.heap.size < w1.heap.size := by omega
      have hnext : ¬ (q ≠ rr ∧ x.kind = k ∧ x.of_ = of) → OthRel w W rr k of bt w.heap.size ck es (leftOf es (seen.push e.born)).size w1 := by
        intro hno
        refine ⟨_, HIT1.out, rfl, HFW.out, hlt1, ?_⟩
        intro e' he' hc q' x' hk' hx'
        rw [contains_push] at hc
        rcases (Bool.or_eq_true _ _).mp hc with hc | hc
        · exact HA.out e' he' hc q' x' hk' hx'
        · have heq : e' = e := born_inj HND.out he' he (by simpa using hc)
          subst heq
          rw [HK.out] at hk'
          injection hk' with _ hk'
          subst hk'
          rw [HIJ.out _ _ _ hx' HX.out]
          exact hno
      have HN := Lib.hid hnext; clear hnext
      by_cases h1 : q = rr
      · have d1 : (q == rr) = true := by simpa using h1
        have D1 := Lib.hid h1; clear h1
        go_wp2
        go_roundg (leftOf es (seen.push e.born)).size
        case measure => exact HSH.out
        case rel => exact HN.out (fun h => h.1 D1.out)
      · have d1 : (q == rr) = false := by simpa using h1
        have D1 := Lib.hid h1; clear h1
        by_cases h2 : x.kind = k
        · have d2 : (x.kind == k) = true := by simpa using h2
          have D2 := Lib.hid h2; clear h2
          by_cases h3 : x.of_ = of
          · have d3 : (x.of_ == of) = true := by simpa using h3
            have D3 := Lib.hid h3; clear h3
            go_wp2
            go_ret
            refine ⟨ret_bool ?_, HFW.out⟩
            unfold otherB
            refine (List.any_eq_true.2 ⟨(q, x), HX.out, ?_⟩).symm
            simp [D1.out, D2.out, D3.out]
          · have d3 : (x.of_ == of) = false := by simpa using h3
            have D3 := Lib.hid h3; clear h3
            go_wp2
            go_roundg (leftOf es (seen.push e.born)).size
            case measure => exact HSH.out
            case rel => exact HN.out (fun h => D3.out h.2.2)
        · have d2 : (x.kind == k) = false := by simpa using h2
          have D2 := Lib.hid h2; clear h2
          go_wp2
          go_roundg (leftOf es (seen.push e.born)).size
          case measure => exact HSH.out
          case rel => exact HN.out (fun h => D2.out h.2.1)

end
end Go.Proofs.Ytpgjbbefgacjkaa
