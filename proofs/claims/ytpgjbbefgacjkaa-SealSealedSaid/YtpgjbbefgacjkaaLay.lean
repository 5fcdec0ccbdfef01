/- 'index', 'lay' of package world: a new thing. -/
import Derived.Test.YtpgjbbefgacjkaaOwnWhat
import Derived.ChangeMaps4
namespace Go.Proofs.Ytpgjbbefgacjkaa
open Go.RowKit
set_option linter.unusedSimpArgs false
set_option linter.unusedVariables false
set_option linter.unusedSectionVars false

/-! ### 1. The plain words -/
/-- A world with a thing more. -/
def AW.lay (W : AW) (x : X) : AW := { W with things := W.things ++ [(W.last + 1, x)], last := W.last + 1, made := W.made.set x.home.toNat (W.made.getD x.home.toNat 0 + 1) }
theorem RX.weak {w : World} {D : Nat → Prop} {z : Prop} {x : X} {u : Under} (hp : x.plain) (h : RX w D z x u) : RX w (fun b => D b ∧ b < w.heap.size) z x u := by
  obtain ⟨e1, e2, e3⟩ := hp
  exact { kind := h.kind, home := h.home, n := h.n, lost := h.lost, of_ := h.of_, by_ := h.by_, set := h.set, vall := h.vall, codel := h.codel, namesl := h.namesl, lc := h.lc, cc := h.cc, nc := h.nc, val := h.val.weak id _ _, vals := by rw [e1]; unfold RVs; trivial, code := by rw [e2]; unfold RSs; trivial, names := by rw [e3]; unfold RNs; trivial }
theorem findNow_none (kk : IntKind) (k : Int) : ∀ (L : List (Int × Nat × Nat)) (i : Nat), (∀ e ∈ L, e.1 ≠ k) → Instr.findNow (.int kk) (.int .i64 k) (L.map ent) i = some none
  | L, i, h => by
    rw [findNow_ints]
    have : (L.zipIdx i).find? (fun e => e.1.1 == k) = none := by
      rw [List.find?_eq_none]
      intro e he
      have := List.fst_mem_of_mem_zipIdx he
      simpa using h e.1 this
    rw [this]
    rfl
theorem Blk.type_inj {w : World} {b : Nat} {cs cs' : List Value} {t t' : Nat} (h : Blk w b cs t) (h' : Blk w b cs' t') : t = t' := by
  unfold Blk at h h'
  rw [h] at h'
  injection h' with h'
  injection h' with _ h2 _
theorem Blk.not_map {w : World} {b : Nat} {cs : List Value} {t ck : Nat} {es : Array MapEntry} (h : Blk w b cs t) (h' : w.heap[b]? = some (.map es ck)) : False := by
  unfold Blk at h
  rw [h] at h'
  cases h'
/-- 'w.things[r] = x', r a number that is not there. -/
theorem run_addThing {W : World} {bt ck : Nat} {L : List (Int × Nat × Nat)} (h : W.heap[bt]? = some (.map (L.map ent).toArray ck)) (r : Int) (b : Nat) (hn : ∀ e ∈ L, e.1 ≠ r) :
    (Instr.mapUpdate 59 (.map (some bt)) (.int .i64 r) (.pointer (some ⟨b, 0, none⟩))).run Try.prog W = .ok () (ChangeMaps.setBlock W bt (.map ((L ++ [(r, b, ck)]).map ent).toArray (ck + 1))) := by
  have hk := findNow_none .i64 r L 0 hn
  have hs := MapKept.run_setObj_map (P := Try.prog) (Obj.map ((L.map ent).toArray.push (ent (r, b, ck))) (ck + 1)) h
  have he : ((L ++ [(r, b, ck)]).map ent).toArray = (L.map ent).toArray.push (ent (r, b, ck)) := by simp
  rw [he]
  unfold Instr.mapUpdate
  simp only [Sem.run_bind, run_underlying Try.underlying59, Result.andThen_ok]
  simp only [run_getObj_map W bt _ ck h, Sem.run_bind, Result.andThen_ok, Sem.run_pure, checkKey_Ref]
  unfold Instr.findKey
  simp only [Sem.run_bind, run_underlying Try.underlying28, Result.andThen_ok, hk, Sem.run_pure]
  exact hs
section
variable {w : World} {p : Nat} {W : AW} {M D : Nat → Prop} {pa : Option Addr} {pc bc bt bf bm ck fk : Nat} {L : List (Int × Nat × Nat)} {FL : List ((Int × Int) × Int × Nat)}
theorem sum_le : ∀ (l : List Int), (∀ i (h : i < l.length), l[i] ≤ 512) → l.sum ≤ 512 * l.length
  | [], _ => by simp
  | a :: l, h => by
    have h0 := h 0 (by simp)
    have h1 := sum_le l (fun i hi => by have := h (i + 1) (by simpa using hi); rwa [List.getElem_cons_succ] at this)
    rw [List.sum_cons, List.length_cons]
    simp only [List.getElem_cons_zero] at h0
    omega
theorem set_sum (l : List Int) (n : Nat) (h : n < l.length) : (l.set n (l.getD n 0 + 1)).sum = l.sum + 1 := by
  induction l generalizing n with
  | nil => simp at h
  | cons a l ih =>
    cases n with
    | zero => simp [List.getD_cons_zero]; omega
    | succ n =>
      rw [List.set_cons_succ, List.getD_cons_succ, List.sum_cons, List.sum_cons, ih n (by simpa using h)]
      omega
theorem RepW.newer (h : RepW w p W M D pa pc bc bt bf bm ck fk L FL) : ∀ e ∈ L, e.1 ≠ W.last + 1 := by
  intro e he hr
  have h1 := h.perm.mem_iff.1 (List.mem_map_of_mem (f := (·.1)) he)
  obtain ⟨t, ht, htr⟩ := List.mem_map.1 h1
  have := (h.low t ht).2
  omega
/-- What the writing of a new thing leaves. -/
theorem RepW.added (h : RepW w p W M D pa pc bc bt bf bm ck fk L FL) {w' : World} {x : X} {u : Under} {b : Nat} {Dx : Nat → Prop}
    (hk : x.kind ≠ 14) (hh : 0 ≤ x.home) (hh2 : x.home.toNat < W.made.length) (hm : W.made.getD x.home.toNat 0 < 512)
    (k : Fr (fun i => i = p ∨ i = bt ∨ i = bm) w w') (hb : w.heap.size ≤ b) (hx : RX w' Dx True x u) (hdx : ∀ i, Dx i → i < w'.heap.size ∧ ¬ M i ∧ i ≠ b)
    (hstr : Blk w' p [.slice pa W.parents.length pc, .slice (some ⟨bc, 0, none⟩) W.cut.length W.cut.length, .map (some bt), .map (some bf), .int .i64 (W.last + 1), .slice (some ⟨bm, 0, none⟩) W.made.length W.made.length] 62)
    (hmap : w'.heap[bt]? = some (.map ((L ++ [(W.last + 1, b, ck)]).map ent).toArray (ck + 1))) (hmade : Blk w' bm (rowI (W.lay x).made) 3) (hbox : Blk w' b (x.cells u) 69) :
    RepW w' p (W.lay x) (fun i => M i ∨ i = b) (fun i => D i ∨ Dx i) pa pc bc bt bf bm (ck + 1) fk (L ++ [(W.last + 1, b, ck)]) FL := by
  have hbM : ¬ M b := fun hm => by have := h.mlt b hm; omega
  have hSM : ∀ i, (i = p ∨ i = bt ∨ i = bm) → M i := by
    rintro i (rfl | rfl | rfl)
    · exact h.m.1
    · exact h.m.2.2.1
    · exact h.m.2.2.2.2
  have hDS : ∀ i, D i → ¬ (i = p ∨ i = bt ∨ i = bm) := fun i hd hs => h.md i hd (hSM i hs)
  -- the blocks of a world are apart
  have hcp : ¬ (bc = p ∨ bc = bt ∨ bc = bm) := by
    rintro (e | e | e)
    · have h1 := h.cutB; rw [e] at h1; exact absurd (h1.type_inj h.str) (by decide)
    · have h1 := h.cutB; rw [e] at h1; exact h1.not_map h.mapB
    · have h1 := h.cutB; rw [e] at h1; exact absurd (h1.type_inj h.madeB) (by decide)
  have hfp : ¬ (bf = p ∨ bf = bt ∨ bf = bm) := by
    rintro (e | e | e)
    · have h1 := h.facB; rw [e] at h1; exact h.str.not_map h1
    · exact h.btf e.symm
    · have h1 := h.facB; rw [e] at h1; exact h.madeB.not_map h1
  have htp : ∀ {q cs}, Blk w q cs 69 → ¬ (q = p ∨ q = bt ∨ q = bm) := by
    intro q cs hq
    rintro (e | e | e)
    · rw [e] at hq; exact absurd (hq.type_inj h.str) (by decide)
    · rw [e] at hq; exact hq.not_map h.mapB
    · rw [e] at hq; exact absurd (hq.type_inj h.madeB) (by decide)
  have hmlen : (W.lay x).made.length = W.made.length := by unfold AW.lay; simp
  refine { str := ?_, par := ?_, cutB := h.cutB.keep k hcp, madeB := hmade, mapB := hmap, facB := (k.block bf (heap_lt h.facB) hfp).trans h.facB, m := ⟨.inl h.m.1, .inl h.m.2.1, .inl h.m.2.2.1, .inl h.m.2.2.2.1, .inl h.m.2.2.2.2⟩, btf := h.btf, md := ?_, mlt := ?_, dlt := ?_, rise := ?_, low := ?_, perm := ?_, born := ?_, blks := ?_, thing := ?_, facs := ?_, facn := h.facn, sides := ?_, mades := ?_, last := ?_ }
  · rw [hmlen]; exact hstr
  · intro i hi
    obtain ⟨q, o, h1, h2, h3⟩ := h.par i hi
    exact ⟨q, o, h1, .inl h2, cell_keep (fun hb => k.block q hb (hDS q h2)) h3⟩
  · rintro i (hd | hd) (hm | hm)
    · exact h.md i hd hm
    · have := h.dlt i hd; omega
    · exact (hdx i hd).2.1 hm
    · exact (hdx i hd).2.2 hm
  · rintro i (hm | rfl)
    · exact Nat.lt_of_lt_of_le (h.mlt i hm) k.size
    · exact hbox.lt
  · rintro i (hd | hd)
    · exact Nat.lt_of_lt_of_le (h.dlt i hd) k.size
    · exact (hdx i hd).1
  · show (W.things ++ [(W.last + 1, x)]).Pairwise _
    rw [List.pairwise_append]
    refine ⟨h.rise, List.pairwise_singleton _ _, fun a ha c hc => ?_⟩
    rw [List.mem_singleton.1 hc]
    have := (h.low a ha).2
    show a.1 < W.last + 1
    omega
  · intro t ht
    have hl := h.last.1
    rcases List.mem_append.1 ht with ht | ht
    · have := h.low t ht
      show 1 ≤ t.1 ∧ t.1 ≤ W.last + 1
      omega
    · rw [List.mem_singleton.1 ht]
      show 1 ≤ W.last + 1 ∧ W.last + 1 ≤ W.last + 1
      omega
  · show ((L ++ [(W.last + 1, b, ck)]).map (·.1)).Perm ((W.things ++ [(W.last + 1, x)]).map (·.1))
    rw [List.map_append, List.map_append]
    exact h.perm.append (List.Perm.refl _)
  · refine ⟨?_, ?_⟩
    · rw [List.map_append, List.nodup_append]
      refine ⟨h.born.1, by simp, fun a ha c hc => ?_⟩
      obtain ⟨e, he, rfl⟩ := List.mem_map.1 ha
      have h1 := h.born.2 e he
      have h2 : c = ck := by simpa using hc
      omega
    · intro e he
      rcases List.mem_append.1 he with he | he
      · have := h.born.2 e he; omega
      · rw [List.mem_singleton.1 he]; exact Nat.lt_succ_self _
  · rw [List.map_append, List.nodup_append]
    refine ⟨h.blks, by simp, fun a ha c hc => ?_⟩
    obtain ⟨⟨r, q, s⟩, he, rfl⟩ := List.mem_map.1 ha
    have h1 := h.mlt q (h.thing r q s he).1
    have h2 : c = b := by simpa using hc
    show q ≠ c
    omega
  · intro r q s he
    rcases List.mem_append.1 he with he | he
    · obtain ⟨h1, y, v, h2, h3, h4⟩ := h.thing r q s he
      exact ⟨.inl h1, y, v, List.mem_append_left _ h2, h3.keep k (htp h3), (h4.fr k hDS).mono fun _ h => .inl h⟩
    · have e := List.mem_singleton.1 he
      injection e with e1 e
      injection e with e2 e3
      subst e1; subst e2
      exact ⟨.inr rfl, x, u, List.mem_append_right _ (List.mem_singleton_self _), hbox, hx.mono fun _ h => .inr h⟩
  · intro t s r
    rw [h.facs]
    refine ⟨fun ⟨y, h1, h2⟩ => ⟨y, List.mem_append_left _ h1, h2⟩, fun ⟨y, h1, h2⟩ => ?_⟩
    rcases List.mem_append.1 h1 with h1 | h1
    · exact ⟨y, h1, h2⟩
    · have e := List.mem_singleton.1 h1
      injection e with _ e
      subst e
      exact absurd h2.1 hk
  · rw [hmlen]; exact h.sides
  · intro i hi
    have hi' : i < W.made.length := by rw [hmlen] at hi; exact hi
    have h1 := h.mades i hi'
    have e : (W.lay x).made[i] = if x.home.toNat = i then W.made.getD x.home.toNat 0 + 1 else W.made[i] := List.getElem_set _
    rw [e]
    split
    · have h2 := h.mades x.home.toNat hh2
      rw [List.getD_eq_getElem?_getD, List.getElem?_eq_getElem hh2] at hm ⊢
      simp only [Option.getD_some] at hm ⊢
      omega
    · exact h1
  · have hl := h.last
    show 0 ≤ W.last + 1 ∧ W.last + 1 ≤ 64 * (W.made.set x.home.toNat (W.made.getD x.home.toNat 0 + 1)).sum
    rw [set_sum W.made x.home.toNat hh2]
    omega
end
/-! ### 2. The walks -/
set_option maxRecDepth 100000 in
set_option maxHeartbeats 1000000 in
theorem index_not14 (w : World) (p bt b : Nat) (r k : Int) (hk : (k == 14) = false) (c2 : w.cell? ⟨p, 2, none⟩ = some (.map (some bt))) (hl : (Instr.lookup 59 (.map (some bt)) (.int .i64 r) false).run Try.prog w = .ok (.pointer (some ⟨b, 0, none⟩)) w) (c0 : w.cell? ⟨b, 0, none⟩ = some (.int .u8 k)) :
    Calls Try.prog 76 #[.pointer (some ⟨p, 0, none⟩), .int .i64 r] w (Same (.tuple #[]) w) := by
  go_enter Try.func76, Try.ntmps76
  go_wp2
  go_end0
  exact ⟨rfl, rfl⟩
section
variable {w : World} {p : Nat} {W : AW} {M D : Nat → Prop} {pa : Option Addr} {pc bc bt bf bm ck fk : Nat} {L : List (Int × Nat × Nat)} {FL : List ((Int × Int) × Int × Nat)}
def LayOut (w : World) (p : Nat) (W : AW) (M D : Nat → Prop) (pa : Option Addr) (pc bc bt bf bm ck fk : Nat) (L : List (Int × Nat × Nat)) (FL : List ((Int × Int) × Int × Nat)) (x : X) (Dx : Nat → Prop) (e : Ending) (w' : World) : Prop :=
  e = .returned (.int .i64 (W.last + 1)) ∧ RepW w' p (W.lay x) (fun i => M i ∨ i = w.heap.size) (fun i => D i ∨ Dx i) pa pc bc bt bf bm (ck + 1) fk (L ++ [(W.last + 1, w.heap.size, ck)]) FL ∧ Fr (fun i => i = p ∨ i = bt ∨ i = bm) w w'
set_option maxRecDepth 100000 in
set_option maxHeartbeats 4000000 in
theorem lay_any (h : RepW w p W M D pa pc bc bt bf bm ck fk L FL) (x : X) (u : Under) (Dx : Nat → Prop) (hk : x.kind ≠ 14) (hh : sideB W x.home = true) (hm : W.made.getD x.home.toNat 0 < 512)
    (hx : RX w Dx True x u) (hdx : ∀ i, Dx i → i < w.heap.size ∧ ¬ M i) :
    Calls Try.prog 51 #[.pointer (some ⟨p, 0, none⟩), x.agg u] w (LayOut w p W M D pa pc bc bt bf bm ck fk L FL x Dx) := by
  obtain ⟨hh0, hh1⟩ := (sideB_iff h x.home).1 hh
  obtain ⟨n, hn⟩ := Int.eq_ofNat_of_zero_le hh0
  have hn1 : n < W.made.length := by omega
  have hmade := h.madeAt hn1
  have hgd : W.made.getD x.home.toNat 0 = W.made[n] := by rw [hn]; simp [List.getD_eq_getElem?_getD, List.getElem?_eq_getElem hn1]
  have hm0 := h.mades n hn1
  have h16 := h.sides.2.2
  have c4 := h.c4
  have fp := h.str.frozen 4
  have hpl := h.str.lt
  have hla := h.last
  have hls : W.last + 1 ≤ 9223372036854775807 := by
    have : W.made.sum ≤ 512 * W.made.length := sum_le W.made (fun i hi => (h.mades i hi).2)
    omega
  have hkb : (x.kind == 14) = false := by simpa using hk
  have H := Lib.hid h; clear h
  have HX := Lib.hid hx; clear hx
  have HDX := Lib.hid hdx; clear hdx
  have HK := Lib.hid hk; clear hk
  have HH := Lib.hid hh; clear hh
  have HM := Lib.hid hm; clear hm
  have HN := Lib.hid hn; clear hn
  have HGD := Lib.hid hgd; clear hgd
  have HM0 := Lib.hid hm0; clear hm0
  have HLA := Lib.hid hla; clear hla
  have HMADE := Lib.hid hmade; clear hmade
  have hl0 : 0 ≤ W.last := HLA.out.1
  go_enter Try.func51, Try.ntmps51
  go_upto_region 2 with (fail)
  refine code_gen ?_
  intro W1 hW
  have hst1 : Fr (fun i => i = p ∨ i = bt ∨ i = bm) w W1 := by rw [hW]; exact ((Fr.refl _ _).setCell (fun _ => Or.inl rfl) _).alloc _
  have hstr1 : Blk W1 p [.slice pa W.parents.length pc, .slice (some ⟨bc, 0, none⟩) W.cut.length W.cut.length, .map (some bt), .map (some bf), .int .i64 (W.last + 1), .slice (some ⟨bm, 0, none⟩) W.made.length W.made.length] 62 := by rw [hW]; exact (H.out.str.set 4 (.int .i64 (W.last + 1))).alloc _
  have hbox1 : Blk W1 w.heap.size (x.cells u) 69 := by
    rw [hW]
    have h := Blk.new (w.setCell ⟨p, 4, none⟩ (.int .i64 (W.last + 1))) (x.cells u) 69
    rw [show (w.setCell ⟨p, 4, none⟩ (.int .i64 (W.last + 1))).heap.size = w.heap.size by simp [World.setCell]] at h
    exact h
  have hpt : bt ≠ p := fun e => by have h1 := H.out.mapB; rw [e] at h1; exact H.out.str.not_map h1
  have htm : bm ≠ bt := fun e => by have h1 := H.out.madeB; rw [e] at h1; exact h1.not_map H.out.mapB
  have hpm : bm ≠ p := fun e => by have h1 := H.out.madeB; rw [e] at h1; exact absurd (h1.type_inj H.out.str) (by decide)
  have hfr0 : Fr (· = p) w W1 := by rw [hW]; exact (Fr.set1 w p 4 _).alloc _
  have hmap1 : W1.heap[bt]? = some (.map (L.map ent).toArray ck) := (hfr0.block bt (heap_lt H.out.mapB) hpt).trans H.out.mapB
  have hmade1 : Blk W1 bm (rowI W.made) 3 := H.out.madeB.keep hfr0 hpm
  have hlt1 : w.heap.size < W1.heap.size := hbox1.lt
  have hrx1 : RX W1 Dx True x u := HX.out.fr hst1 (fun i hd hs => by
    rcases hs with e | e | e
    · exact (HDX.out i hd).2 (e ▸ H.out.m.1)
    · exact (HDX.out i hd).2 (e ▸ H.out.m.2.2.1)
    · exact (HDX.out i hd).2 (e ▸ H.out.m.2.2.2.2))
  have hnw := H.out.newer
  have hmu : (Instr.mapUpdate 59 (.map (some bt)) (.int .i64 (W.last + 1)) (.pointer (some ⟨w.heap.size, 0, none⟩))).run Try.prog W1.drew = .ok () (ChangeMaps.setBlock W1.drew bt (.map ((L ++ [(W.last + 1, w.heap.size, ck)]).map ent).toArray (ck + 1))) := run_addThing (W := W1.drew) hmap1 _ _ hnw
  clear hW fp c4 hnw
  have c2 : W1.cell? ⟨p, 2, none⟩ = some (.map (some bt)) := hstr1.cell 2
  have c4 : W1.cell? ⟨p, 4, none⟩ = some (.int .i64 (W.last + 1)) := hstr1.cell 4
  have HST1 := Lib.hid hst1; clear hst1
  have HSTR1 := Lib.hid hstr1; clear hstr1
  have HBOX1 := Lib.hid hbox1; clear hbox1
  have HMAP1 := Lib.hid hmap1; clear hmap1
  have HMADE1 := Lib.hid hmade1; clear hmade1
  have HRX1 := Lib.hid hrx1; clear hrx1
  have HPT := Lib.hid hpt; clear hpt
  have HTM := Lib.hid htm; clear htm
  have HPM := Lib.hid hpm; clear hpm
  clear hfr0
  obtain ⟨es', hes'⟩ : ∃ es', es' = ((L ++ [(W.last + 1, w.heap.size, ck)]).map ent).toArray := ⟨_, rfl⟩
  rw [← hes'] at hmu
  have HES := Lib.hid hes'; clear hes'
  go_region
  go_upto_region 3 with (fail)
  refine code_gen ?_
  intro W2 hW
  have hset := MapKept.heap_set (w := W1.drew) (o' := .map es' (ck + 1)) HMAP1.out
  have hfr2 : Fr (· = bt) W1 W2 := by rw [hW]; exact ⟨rfl, rfl, rfl, by simp [ChangeMaps.setBlock], fun i _ hi => hset.2 i hi⟩
  have hmap2 : W2.heap[bt]? = some (.map ((L ++ [(W.last + 1, w.heap.size, ck)]).map ent).toArray (ck + 1)) := by rw [← HES.out, hW]; exact hset.1
  have hs2 : W2.heap.size = W1.heap.size := by rw [hW]; simp [ChangeMaps.setBlock]
  clear hW hset c2 c4 hmu
  have hstr2 := HSTR1.out.keep hfr2 (fun e => HPT.out e.symm)
  have hbox2 : Blk W2 w.heap.size (x.cells u) 69 := HBOX1.out.keep hfr2 (fun e => by have := heap_lt H.out.mapB; omega)
  have hmade2 : Blk W2 bm (rowI W.made) 3 := HMADE1.out.keep hfr2 HTM.out
  have hrx2 : RX W2 Dx True x u := HRX1.out.fr hfr2 (fun i hd hs => (HDX.out i hd).2 (hs ▸ H.out.m.2.2.1))
  have hst2 : Fr (fun i => i = p ∨ i = bt ∨ i = bm) w W2 := HST1.out.trans' hfr2 (fun i _ e => Or.inr (Or.inl e))
  have hlk : (Instr.lookup 59 (.map (some bt)) (.int .i64 (W.last + 1)) false).run Try.prog W2 = .ok (.pointer (some ⟨w.heap.size, 0, none⟩)) W2 := by
    have h1 := run_things hmap2 (W.last + 1)
    have h2 : blkOf (L ++ [(W.last + 1, w.heap.size, ck)]) (W.last + 1) = some w.heap.size := by
      unfold blkOf
      have : L.find? (fun e => e.1 == W.last + 1) = none := by
        rw [List.find?_eq_none]
        intro e he
        have := H.out.newer e he
        simpa using this
      rw [List.find?_append, this]
      simp
    rw [h2] at h1
    exact h1
  have c2 : W2.cell? ⟨p, 2, none⟩ = some (.map (some bt)) := hstr2.cell 2
  have c4 : W2.cell? ⟨p, 4, none⟩ = some (.int .i64 (W.last + 1)) := hstr2.cell 4
  have c5 : W2.cell? ⟨p, 5, none⟩ = some (.slice (some ⟨bm, 0, none⟩) W.made.length W.made.length) := hstr2.cell 5
  have y0 : W2.cell? ⟨w.heap.size, 0, none⟩ = some (.int .u8 x.kind) := hbox2.cell 0
  have y1 : W2.cell? ⟨w.heap.size, 1, none⟩ = some (.int .i64 (n : Int)) := by rw [← HN.out]; exact hbox2.cell 1
  have m1 : W2.cell? ⟨bm, n, none⟩ = some (.int .i64 W.made[n]) := by rw [hmade2.cell]; simp [rowI, List.getElem?_eq_getElem hn1]
  have fm := hmade2.frozen n
  have hbl := hmade2.lt
  have hn2 : (n : Int) < W.made.length := by omega
  have hm1 : 0 ≤ W.made[n] := HM0.out.1
  have hm2 : W.made[n] ≤ 512 := HM0.out.2
  have HSTR2 := Lib.hid hstr2; clear hstr2
  have HBOX2 := Lib.hid hbox2; clear hbox2
  have HMADE2 := Lib.hid hmade2; clear hmade2
  have HMAP2 := Lib.hid hmap2; clear hmap2
  have HRX2 := Lib.hid hrx2; clear hrx2
  have HST2 := Lib.hid hst2; clear hst2
  have HS2 := Lib.hid hs2; clear hs2
  have HLK := Lib.hid hlk; clear hlk
  clear hfr2
  go_wp2_with fail
  refine (index_not14 W2 p bt w.heap.size (W.last + 1) x.kind hkb c2 HLK.out y0).mono ?_
  rintro e w' ⟨rfl, rfl⟩
  go_wp2
  go_region
  go_upto_region 6 with (fail)
  refine code_gen ?_
  intro W3 hW
  have hfr3 : Fr (· = bm) w' W3 := by rw [hW]; exact (Fr.set1 w' bm n _).drew
  have hmade3 : Blk W3 bm (rowI (W.lay x).made) 3 := by
    have h1 : Blk W3 bm ((rowI W.made).set n (.int .i64 (W.made[n] + 1))) 3 := by rw [hW]; exact HMADE2.out.set n _
    have h2 : rowI (W.lay x).made = (rowI W.made).set n (.int .i64 (W.made[n] + 1)) := by
      unfold AW.lay rowI
      show List.map _ (W.made.set x.home.toNat (W.made.getD x.home.toNat 0 + 1)) = _
      rw [HGD.out, HN.out, Int.toNat_natCast, List.map_set]
    rw [h2]
    exact h1
  clear hW
  have hstr3 := HSTR2.out.keep hfr3 (fun e => HPM.out e.symm)
  have hbox3 : Blk W3 w.heap.size (x.cells u) 69 := HBOX2.out.keep hfr3 (fun e => by have := H.out.madeB.lt; omega)
  have hmap3 := (hfr3.block bt (heap_lt HMAP2.out) (fun e => HTM.out e.symm)).trans HMAP2.out
  have hrx3 : RX W3 Dx True x u := HRX2.out.fr hfr3 (fun i hd hs => (HDX.out i hd).2 (hs ▸ H.out.m.2.2.2.2))
  have hst3 : Fr (fun i => i = p ∨ i = bt ∨ i = bm) w W3 := HST2.out.trans' hfr3 (fun i _ e => Or.inr (Or.inr e))
  have hout : LayOut w p W M D pa pc bc bt bf bm ck fk L FL x Dx (.returned (.int .i64 (W.last + 1))) W3 := by
    refine ⟨rfl, H.out.added HK.out hh0 (by rw [HN.out]; simpa using hn1) HM.out hst3 (Nat.le_refl _) hrx3 (fun i hd => ⟨by have := (HDX.out i hd).1; have := hst3.size; omega, (HDX.out i hd).2, by have := (HDX.out i hd).1; omega⟩) hstr3 hmap3 hmade3 hbox3, hst3⟩
  have c4' : W3.cell? ⟨p, 4, none⟩ = some (.int .i64 (W.last + 1)) := hstr3.cell 4
  have HOUT := Lib.hid hout; clear hout
  clear hstr3 hbox3 hmap3 hrx3 hst3 hmade3 hfr3 c2 c4 c5 y0 y1 m1 fm hbl
  go_wp2
  go_ret
  exact HOUT.out
end
end Go.Proofs.Ytpgjbbefgacjkaa
