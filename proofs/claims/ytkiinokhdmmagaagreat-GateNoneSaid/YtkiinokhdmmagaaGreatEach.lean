/- The gates of a thing, gone over by a function (package gate: 'each'); gathered (package slices: 'Collect'). -/
import Derived.RangeFuncNested
import Derived.RangeFuncBound
import Derived.RangeFuncCalls
import Derived.RangeFuncLeaves
import Derived.Shelf.Abstract
import Derived.Shelf.RegionOpen
import Derived.WalkKit
import Derived.OwnWalkIn
import Derived.TacticsInMore
import Derived.LoopNIn
import Derived.LoopIn
import Derived.Maps.OwnIn
import Derived.Test.YtkiinokhdmmagaaGreatWay
import Derived.Test.YtkiinokhdmmagaaGreatGNew
namespace Go.Proofs.YtkiinokhdmmagaaGreat
open Go.RowKit Go.Shelf
set_option linter.unusedSimpArgs false
set_option linter.unusedVariables false
set_option linter.unusedSectionVars false
attribute [local go_sem] Oper.semAt_some
/-- Neither cells nor a map nor a walk over one. -/
def Soft (W : World) (b : Nat) : Prop := ∃ o, W.heap[b]? = some o ∧ o.isCells = false ∧ o.isWalk = false
/-- What a round keeps: below n0 all; beyond it all but the blocks of Z, and what is neither cells nor map. -/
structure Kept (n0 : Nat) (Z : World → Nat → Prop) (W W' : World) : Prop where
  fr : Fr (fun b => n0 ≤ b ∧ (Z W b ∨ Soft W b)) W W'
  grow : ∀ b, Z W' b → Z W b ∨ W.heap.size ≤ b
theorem Kept.trans {n0 : Nat} {Z : World → Nat → Prop} {Wa Wb Wc : World} (h : Kept n0 Z Wa Wb) (k : Kept n0 Z Wb Wc) : Kept n0 Z Wa Wc := by
  have hs := h.fr.size
  refine ⟨⟨k.fr.os.trans h.fr.os, k.fr.tape.trans h.fr.tape, k.fr.output.trans h.fr.output, Nat.le_trans h.fr.size k.fr.size, fun i hi hn => ?_⟩, fun b hb => ?_⟩
  · have e1 := h.fr.block i hi hn
    refine (k.fr.block i (Nat.lt_of_lt_of_le hi hs) ?_).trans e1
    rintro ⟨h0, hz | ⟨o, ho, h2⟩⟩
    · rcases h.grow i hz with hz | hz
      · exact hn ⟨h0, .inl hz⟩
      · omega
    · exact hn ⟨h0, .inr ⟨o, e1 ▸ ho, h2⟩⟩
  · rcases k.grow b hb with hb | hb
    · exact h.grow b hb
    · exact .inr (by omega)
theorem Kept.of_fr {n0 : Nat} {Z : World → Nat → Prop} {Wa Wb : World} (hz : ∀ b, Z Wb b → Z Wa b ∨ Wa.heap.size ≤ b) (h : Fr none_ Wa Wb) : Kept n0 Z Wa Wb := ⟨h.mono (fun _ _ h => h.elim), hz⟩
theorem grownBy_of_fr {Wa Wb : World} (h : Fr none_ Wa Wb) : Wa.grownBy Wb none := ⟨h.os, h.tape, h.output, h.size, fun k hk _ => h.block k hk (fun h => h)⟩
theorem fr_of_below {n : Nat} {Wa Wb : World} (h : Below n Wa Wb) : Fr (fun b => n ≤ b) Wa Wb := ⟨h.os, h.tape, h.output, h.size, fun b hb hn => h.block b (by omega)⟩
def gatesIn (W : AW) (l : List Int) : List Int := l.filter fun r => kindOf W r == 15
theorem gatesIn_take {W : AW} {l : List Int} {k : Nat} (h : k < l.length) : gatesIn W (l.take (k + 1)) = gatesIn W (l.take k) ++ (if kindOf W l[k] == 15 then [l[k]] else []) := by
  unfold gatesIn
  rw [List.take_succ_eq_append_getElem h, List.filter_append, List.filter_cons]
  cases kindOf W l[k] == 15 <;> simp
theorem gatesIn_le {W : AW} {l : List Int} {k : Nat} : (gatesIn W (l.take k)).length ≤ k := by
  unfold gatesIn
  exact Nat.le_trans (List.length_filter_le _ _) (List.length_take_le _ _)
theorem gatesIn_pre {W : AW} (l : List Int) (k : Nat) : gatesIn W (l.take k) <+: gatesIn W l := by
  unfold gatesIn
  exact (List.take_prefix k l).filter _
section
variable {w : World} {p : Nat} {W : AW} {M D : Nat → Prop} {pa : Option Addr} {pc bc bt bf bm ck fk : Nat} {L : List (Int × Nat × Nat)} {FL : List ((Int × Int) × Int × Nat)}
/-- What the loop over a way keeps. -/
structure EachInv (w : World) (p : Nat) (W : AW) (M D : Nat → Prop) (pa : Option Addr) (pc bc bt bf bm ck fk : Nat) (L : List (Int × Nat × Nat)) (FL : List ((Int × Int) × Int × Nat)) (n0 b1 : Nat) (A' : Option Addr) (l : List Int) (Z : World → Nat → Prop) (wr : World) : Prop where
  rep : RepW wr p W M D pa pc bc bt bf bm ck fk L FL
  c1 : wr.cell? ⟨b1, 0, none⟩ = some (.pointer (some ⟨p, 0, none⟩))
  rd : RdI wr A' l
  apart : ∀ b o, A' = some ⟨b, o, none⟩ → ¬ Z wr b
  lo : n0 ≤ wr.heap.size
theorem RdI.cells {w : World} {A : Option Addr} {xs : List Int} (h : RdI w A xs) (hx : 0 < xs.length) {b o : Nat} (hA : A = some ⟨b, o, none⟩) : ¬ Soft w b := by
  rintro ⟨ob, ho, h1, _⟩
  obtain ⟨b', o', he, hc⟩ := h 0 hx
  rw [hA] at he
  injection he with he
  injection he with e1 e2
  subst e1
  unfold World.cell? at hc
  simp only [ho] at hc
  cases ob <;> simp_all [Obj.isCells]
theorem RdI.lt {w : World} {A : Option Addr} {xs : List Int} (h : RdI w A xs) (hx : 0 < xs.length) {b o : Nat} (hA : A = some ⟨b, o, none⟩) : b < w.heap.size := by
  obtain ⟨b', o', he, hc⟩ := h 0 hx
  rw [hA] at he
  injection he with he
  injection he with e1 e2
  subst e1
  exact cell_lt hc
set_option maxRecDepth 100000 in
set_option maxHeartbeats 4000000 in
theorem each1_stops (h : RepW w p W M D pa pc bc bt bf bm ck fk L FL) (r : Int) (l : List Int) (hw : WayOf W r l) (hl : l.length ≤ 1000000) (b1 b2 : Nat) (h1 : w.cell? ⟨b1, 0, none⟩ = some (.pointer (some ⟨p, 0, none⟩))) (h2 : w.cell? ⟨b2, 0, none⟩ = some (.int .i64 r))
    (Z : World → Nat → Prop) (Kp : World → World → Prop) (n0 : Nat) (hn0 : n0 ≤ w.heap.size) (hMn : ∀ b, M b → b < n0) (hDn : ∀ b, D b → b < n0) (hb1n : b1 < n0) (hk : ∀ Wa Wb, Kp Wa Wb → Kept n0 Z Wa Wb) (hz0 : ∀ Wa, Below w.heap.size w Wa → ∀ b, Z Wa b → b < w.heap.size) (n : Nat) (hn : 1 ≤ n) :
    SeqStopsK Fence.wide n Tryz.prog 78 #[.pointer (some ⟨b1, 0, none⟩), .pointer (some ⟨b2, 0, none⟩)] (fun x : Int => #[.int .i64 x]) Kp (fun xs => xs = gatesIn W l) (fun pre => pre <+: gatesIn W l) l.length w := by
  intro yl J Jx W0 hW0 hJ hJx hY h0
  have hf0 := fr_of_below hW0
  have hb1 := cell_lt h1
  have hb2 := cell_lt h2
  have hr0 := h.keep hf0 (fun b hb => by have := h.mlt b hb; omega) (fun b hb => by have := h.dlt b hb; omega)
  have x1 : W0.cell? ⟨b1, 0, none⟩ = some (.pointer (some ⟨p, 0, none⟩)) := cell_keep (fun hb => hf0.block b1 hb (by omega)) h1
  have x2 : W0.cell? ⟨b2, 0, none⟩ = some (.int .i64 r) := cell_keep (fun hb => hf0.block b2 hb (by omega)) h2
  have hlo : w.heap.size ≤ W0.heap.size := hf0.size
  have H := Lib.hid h; clear h
  have HR0 := Lib.hid hr0; clear hr0
  have HW := Lib.hid hw; clear hw
  have HL := Lib.hid hl; clear hl
  have HLO := Lib.hid hlo; clear hlo
  have HY := Lib.hid hY; clear hY
  have HJ := Lib.hid hJ; clear hJ
  have HK := Lib.hid hk; clear hk
  have HZ0 := Lib.hid hz0; clear hz0
  have HMN := Lib.hid hMn; clear hMn
  have HDN := Lib.hid hDn; clear hDn
  have HBW := Lib.hid hW0; clear hW0
  have H0 := Lib.hid h0; clear h0
  clear hJx hf0 h1 h2
  refine callsIn_of_wp Tryz.func78 rfl trivial ?_ rfl
  simp only [Tryz.ntmps78, List.size_toArray, List.length_cons, List.length_nil, Nat.reduceAdd, Nat.reduceSub, Array.replicate_succ, Array.replicate_zero, List.push_toArray, List.append_toArray, List.nil_append, List.cons_append]
  gi_wp2_with fail
  refine ⟨trivial, ?_⟩
  refine (callsIn_wide.2 (way_any HR0.out r l HW.out HL.out)).mono ?_
  rintro e W1 ⟨v, rfl, hown, hf1⟩
  obtain ⟨A', c', rfl, hrd, hl63, _, _⟩ := hown.rd
  have hap : ∀ b o, A' = some ⟨b, o, none⟩ → ¬ Z W1 b := fun b o e hz => by
    have g0 := hf1.below
    have g1 := HZ0.out W1 (HBW.out.trans (g0.mono HLO.out)) b hz
    have g2 := (World.ownsRow.lt hown b (by rw [e]; rfl)).1
    have g3 := HLO.out
    omega
  have hinv : EachInv w p W M D pa pc bc bt bf bm ck fk L FL n0 b1 A' l Z W1 :=
    ⟨HR0.out.keep hf1 (fun _ _ h => h) (fun _ _ h => h), cell_keep (fun hb => hf1.block b1 hb (fun h => h)) x1, hrd, hap, Nat.le_trans hn0 (Nat.le_trans HLO.out hf1.size)⟩
  have hj1 : J (gatesIn W (l.take 0)) W1 := HJ.out [] W0 W1 none H0.out (grownBy_of_fr hf1) (fun r e => by cases e)
  have HINV := Lib.hid hinv; clear hinv
  have HJ1 := Lib.hid hj1; clear hj1
  clear hown hrd hap hf1 x1 x2
  gi_wp2
  gi_loopw [10] (fun i wr => ∃ k : Nat, k ≤ l.length ∧ i = .int .i64 k ∧ EachInv w p W M D pa pc bc bt bf bm ck fk L FL n0 b1 A' l Z wr ∧ J (gatesIn W (l.take k)) wr) (fun i wr => l.length - (intOf i).toNat)
  case atStart => exact ⟨0, Nat.zero_le _, rfl, HINV.out, HJ1.out⟩
  case round =>
    obtain ⟨k, hkl, rfl, hinv, hjk⟩ := hrel
    clear HINV HJ1
    have x1 := hinv.c1
    have HINV := Lib.hid hinv; clear hinv
    have HJK := Lib.hid hjk; clear hjk
    by_cases hlt : k < l.length
    · obtain ⟨b, o, hA, hc⟩ := HINV.out.rd k hlt
      have hnz := HINV.out.apart b o hA
      have hns := HINV.out.rd.cells (by omega) hA
      have hbl := HINV.out.rd.lt (by omega) hA
      have HNZ := Lib.hid hnz; clear hnz
      have HNS := Lib.hid hns; clear hns
      subst hA
      have hlen : (gatesIn W (l.take k)).length < l.length := by have := gatesIn_le (W := W) (l := l) (k := k); omega
      by_cases hkd : kindOf W l[k] = 15
      · have HKD := Lib.hid hkd; clear hkd
        obtain ⟨fn, tmps, assign, body, hy, hR⟩ := HY.out (gatesIn W (l.take k)) l[k] wr HJK.out hlen
        gi_wp2_with fail
        refine ⟨trivial, ?_⟩
        refine (callsIn_wide.2 (kind_any HINV.out.rep l[k])).mono ?_
        rintro e w' ⟨rfl, rfl⟩
        rw [HKD.out]
        gi_wp2
        refine hR.mono ?_
        rintro e W3 (⟨rfl, hJ3, hk3⟩ | ⟨rfl, hJx3⟩)
        · have hK3 := HK.out _ _ hk3
          have hj3 : J (gatesIn W (l.take (k + 1))) W3 := by
            rw [gatesIn_take hlt, HKD.out]
            exact hJ3
          have hi3 : EachInv w p W M D pa pc bc bt bf bm ck fk L FL n0 b1 (some ⟨b, o, none⟩) l Z W3 := by
            refine ⟨HINV.out.rep.keep hK3.fr (fun i hi h => by have := HMN.out i hi; omega) (fun i hi h => by have := HDN.out i hi; omega), cell_keep (fun hb => hK3.fr.block b1 hb (fun h => by omega)) HINV.out.c1, HINV.out.rd.keep hK3.fr (fun b' o' e h => ?_), fun b' o' e h => ?_, Nat.le_trans HINV.out.lo hK3.fr.size⟩
            · injection e with e; injection e with e1 e2; subst e1
              rcases h.2 with h | h
              · exact HNZ.out h
              · exact HNS.out h
            · injection e with e; injection e with e1 e2; subst e1
              rcases hK3.grow _ h with h | h
              · exact HNZ.out h
              · omega
          have HJ3 := Lib.hid hj3; clear hj3 hJ3
          have HI3 := Lib.hid hi3; clear hi3
          clear hK3 hk3
          gi_wp2
          go_roundw
          case rel => exact ⟨k + 1, by omega, by go_num, HI3.out, HJ3.out⟩
          case measure => simp [intOf]; omega
        · have hp := gatesIn_pre (W := W) l (k + 1)
          rw [gatesIn_take hlt, HKD.out] at hp
          gi_wp2
          refine bodyPost_ret (results_none rfl _ _ _) rfl ?_
          exact ⟨⟨_, rfl⟩, .inr ⟨_, hp, hJx3⟩⟩
      · have d15 : (kindOf W l[k] == 15) = false := by simpa using hkd
        have hj3 : J (gatesIn W (l.take (k + 1))) wr := by
          rw [gatesIn_take hlt, d15]
          simpa using HJK.out
        have HJ3 := Lib.hid hj3; clear hj3
        clear hkd
        gi_wp2_with fail
        refine ⟨trivial, ?_⟩
        refine (callsIn_wide.2 (kind_any HINV.out.rep l[k])).mono ?_
        rintro e w' ⟨rfl, rfl⟩
        gi_wp2
        refine ⟨fun _ h => (by cases h), ?_⟩
        gi_wp2
        go_roundw
        case rel => exact ⟨k + 1, by omega, by go_num, HINV.out, HJ3.out⟩
        case measure => simp [intOf]; omega
    · obtain rfl : k = l.length := by omega
      gi_wp2
      go_end0
      have := HJK.out
      rw [List.take_length] at this
      exact ⟨⟨_, rfl⟩, .inl ⟨_, rfl, this⟩⟩
end
/-! ### gathered -/
/-- The box, and the row that it holds. -/
def ZB (bo : Nat) (W : World) (b : Nat) : Prop := b = bo ∨ ∃ sv : Value, W.cell? ⟨bo, 0, none⟩ = some sv ∧ sv.ownBlock = some b
theorem kept_put {n0 bo : Nat} (W : World) (l : Nat) (o o' : Obj) (hn : n0 ≤ l) (hbo : bo < l) (hl : W.heap[l]? = some o) (h1 : o.isCells = false) (h2 : o.isWalk = false) : Kept n0 (ZB bo) W (W.putObj l o') := by
  have hg := grownBy_putObj' W l o'
  refine ⟨⟨hg.os, hg.tape, hg.output, hg.size, fun b hb hn' => hg.block b hb (fun e => hn' ?_)⟩, fun b hb => .inl ?_⟩
  · injection e with e
    subst e
    exact ⟨hn, .inr ⟨o, hl, h1, h2⟩⟩
  · rcases hb with hb | ⟨sv, hc, hs⟩
    · exact .inl hb
    · refine .inr ⟨sv, ?_, hs⟩
      have e : (W.putObj l o').heap[bo]? = W.heap[bo]? := World.putObj_heap_other (by omega)
      unfold World.cell? at hc ⊢
      simp only [e] at hc
      exact hc
theorem ownsRow_cells {W : World} {B e : Nat} {v : Value} {n : Nat} {xs : List Value} (h : W.ownsRow B e 1 v n xs) {b : Nat} (hb : v.ownBlock = some b) : ∃ cur, W.heap[b]? = some (.cells cur e (0, 0)) := by
  rcases h.2 with ⟨rfl, _⟩ | ⟨g, cap, cur, rfl, _, hg, _⟩
  · cases hb
  · have : g = b := by simpa [Value.ownBlock] using hb
    subst this
    exact ⟨cur, hg⟩
/-- A block that is no cells turns: what is gathered stays. -/
theorem Coll.turn {W W' : World} {B bo : Nat} {sv : Value} {xs : List Int} {row : Option Nat} (h : Coll W B bo sv xs) (hg : W.grownBy W' row) (hr : ∀ r, row = some r → ∃ o : Obj, W.heap[r]? = some o ∧ o.isCells = false) : Coll W' B bo sv xs := by
  refine h.keep (S := fun b => row = some b) (grownBy_fr hg) (fun e => ?_) (fun b hb e => ?_)
  · obtain ⟨o, ho, hc⟩ := hr bo e
    have h1 := h.1
    unfold Blk at h1
    rw [ho] at h1
    injection h1 with h1
    subst h1
    cases hc
  · obtain ⟨o, ho, hc⟩ := hr b e
    obtain ⟨cur, h1⟩ := ownsRow_cells h.2 hb
    rw [ho] at h1
    injection h1 with h1
    subst h1
    cases hc
/-- append(v, y), the world as the variadic's row leaves it: in a round. -/
theorem wpListIn_append1 {F : Fence} {n : Nat} {ops : Array Oper} {rest : List Oper} {o : Oper} {a : Act} {Q : Exit → Act → World → Prop} {W : World} (base : Nat) (hgd : o.guard = none) (s x : Operand) (t e : TypeId)
    (ho : o.op = .call { callee := .builtin .append, args := #[s, x], argTypes := #[t, t] })
    (ht : Tryz.prog.underlying t = some (.slice e)) (hinfo : (Tryz.prog.info? e).map (fun i => (i.zero, i.size, i.bytes)) = some (some (.int .i64 0), 1, 8))
    (v : Value) (xs : List Int) (y : Int) (hs : a.eval s = v) (hx : a.eval x = .slice (some ⟨W.heap.size, 0, none⟩) 1 1)
    (HO : OwnI W base e v xs) (hbase : base ≤ W.heap.size) (hl : xs.length + 1 ≤ 17592186044416)
    (h : ∀ g cap w1, OwnI w1 base e (.slice (some ⟨g, 0, none⟩) (xs.length + 1) cap) (xs ++ [y]) → (W.alloc (.cells #[.int .i64 y] e)).grownBy w1 v.ownBlock → (v.ownBlock = some g ∨ (W.alloc (.cells #[.int .i64 y] e)).heap.size ≤ g) → wpListIn F n Tryz.prog ops Q rest (a.put o.dst (.slice (some ⟨g, 0, none⟩) (xs.length + 1) cap)) w1) :
    wpListIn F n Tryz.prog ops Q (o :: rest) a (W.alloc (.cells #[.int .i64 y] e)) := by
  obtain ⟨i0, hi, hz0, hz1, hz2⟩ := info_parts hinfo
  refine wpListIn_append_own_at (W.alloc (.cells #[.int .i64 y] e)) hgd s x t ho base e i0 (.int .i64 0) 1 8 ht hi hz0 hz1 hz2 rfl (by omega) v xs.length (rowI xs) hs (HO.alloc _) ⟨W.heap.size, 0, none⟩ 1 1 [.int .i64 y] hx rfl
    (cell_one_new W (.int .i64 y) e) (by intro u hu; rw [List.mem_singleton.1 hu]; rfl) (by simp only [maxLen]; omega) (by omega) (by simp; omega) ?_
  intro v1 w1 hown hg _ hat
  obtain ⟨g, cap, rfl⟩ := ownsRow_succ hown
  refine h g cap w1 ?_ hg ?_
  · have e1 : (xs ++ [y]).length = xs.length + 1 := by simp
    have e2 : rowI (xs ++ [y]) = rowI xs ++ [.int .i64 y] := by simp [rowI]
    rw [OwnI, e1, e2]
    exact hown
  · rcases hat with hat | hat
    · exact .inl hat.symm
    · right
      have : g = (W.alloc (.cells #[.int .i64 y] e)).heap.size := by simpa [Value.ownBlock] using hat
      omega
def GatherI (w : World) (bo : Nat) (pre : List Int) (W : World) : Prop := (∃ sv, Coll W w.heap.size bo sv pre) ∧ Fr none_ w W
theorem GatherI.own (w : World) (bo : Nat) (B : Nat) (hB : w.heap.size ≤ B) : OwnFrom B (GatherI w bo) := by
  rintro s W W' row ⟨⟨sv, hc⟩, hf⟩ hg hr
  refine ⟨⟨sv, hc.turn hg (fun r e => (hr r e).2)⟩, hf.trans' (grownBy_fr hg) (fun i hi e => ?_)⟩
  have := (hr i e).1
  omega
set_option maxRecDepth 100000 in
set_option maxHeartbeats 4000000 in
theorem appendSeq_any (gf : Nat) (lb : Array Value) (gs : List Int) (N : Nat) (w : World) (hN : N ≤ 1000000) (eg : ∀ args w, (callFunc gf args).run Tryz.prog w = .ok (.enter gf args) w)
    (hseq : SeqStopsK Fence.wide 4 Tryz.prog gf lb (fun x : Int => #[.int .i64 x]) (Kept w.heap.size (ZB w.heap.size)) (fun xs => xs = gs) (fun pre => pre <+: gs) N (w.alloc (.cells #[.slice none 0 0] 54))) :
    Calls Tryz.prog 77 #[.slice none 0 0, .func (.func gf) #[] lb] w (RefsBack w gs) := by
  refine (callsIn_wide (n := 5)).1 ?_
  refine callsIn_of_wp_marks Tryz.func77 rfl trivial ?_ rfl
  simp only [Tryz.ntmps77, List.size_toArray, List.length_cons, List.length_nil, Nat.reduceAdd, Nat.reduceSub, Array.replicate_succ, Array.replicate_zero, List.push_toArray, List.append_toArray, List.nil_append, List.cons_append]
  have hbo := Blk.new w [.slice none 0 0] 54
  have HBO := Lib.hid hbo; clear hbo
  gi_wp2
  refine wpIn_rangeFunc_ownF rfl (by omega) (gf := gf) (lb := lb) rfl trivial eg hseq Kept.trans (fun W l o o' h1 h2 h3 h4 => kept_put W l o o' (by simp at h1; omega) (by simp at h1; omega) h2 h3 h4) (Below.refl _ _) (fun _ => rfl)
    (GatherI w w.heap.size) (fun _ _ _ => False) (GatherI.own w _ _ (by simp)) (fun _ _ _ _ _ hs _ _ => hs)
    ⟨⟨.slice none 0 0, HBO.out, World.ownsRow_nil _ _ _ _⟩, (Fr.refl _ w).alloc _⟩
    (fun x => { tmps := #[.slice none 0 0, .func (.func gf) #[] lb, .pointer (some ⟨w.heap.size, 0, none⟩), undef, .slice none 0 0, .int .i64 x, .func (.func gf) #[] lb, .int .i64 x, undef, undef, undef, undef, undef], defers := [] }) ?assign ?body ?done ?stop
  case assign =>
    intro l x W K hK
    gi_wp2
    exact hK
  case body =>
    rintro l pre x W ⟨⟨sv, hc⟩, hf⟩ hlen
    have c0 : W.cell? ⟨w.heap.size, 0, none⟩ = some sv := hc.1.cell 0
    have hbl := hc.1.lt
    have hsz := hf.size
    have hpl : pre.length + 1 ≤ 17592186044416 := by omega
    have HC := Lib.hid hc; clear hc
    have HF := Lib.hid hf; clear hf
    gi_wp2_with (gi_at_builtin; refine wpListIn_append1 (W := W) w.heap.size rfl _ _ 54 22 rfl Tryz.underlying54 info_Ref sv pre x rfl rfl HC.out.2 hsz hpl ?_; intro g cap w1 hown hg hat
                 obtain ⟨hc1, hf1, ho1, hb1⟩ := coll_step (.cells #[.int .i64 x] 22) HC.out hown hg hat
                 have x0 : w1.cell? ⟨w.heap.size, 0, none⟩ = some sv := hb1.cell 0
                 have xf : w1.frozen? ⟨w.heap.size, 0, none⟩ = false := hb1.frozen 0
                 have HC1 := Lib.hid hc1; clear hc1
                 have HF1 := Lib.hid hf1; clear hf1
                 have HO1 := Lib.hid ho1; clear ho1
                 clear hown hg hat hb1 c0)
    have hge : ∀ b, (b = w.heap.size ∨ sv.ownBlock = some b) → w.heap.size ≤ b := HC.out.ge (Nat.le_refl _)
    refine ⟨⟨HF1.out.size, fun k o hk ho => ?_⟩, ⟨HF1.out.mono (fun i hi h => ⟨hge i h, .inl ?_⟩), fun b hb => ?_⟩, ⟨_, HC1.out⟩, HF.out.trans' HF1.out (fun i hi h => ?_)⟩
    · refine (HF1.out.block k (heap_lt hk) ?_).trans hk
      rintro (e | e)
      · subst e
        have h1 := HC.out.1
        unfold Blk at h1
        rw [hk] at h1
        injection h1 with h1
        subst h1
        cases ho
      · obtain ⟨cur, h1⟩ := ownsRow_cells HC.out.2 e
        rw [hk] at h1
        injection h1 with h1
        subst h1
        cases ho
    · rcases h with h | h
      · exact .inl h
      · exact .inr ⟨sv, HC.out.1.cell 0, h⟩
    · rcases hb with hb | ⟨sv2, hc2, hs2⟩
      · exact .inl (.inl hb)
      · have e := HC1.out.1.cell 0
        rw [e] at hc2
        injection hc2 with hc2
        subst hc2
        rcases HO1.out with h | ⟨b', h, hb'⟩
        · rw [h] at hs2
          exact .inl (.inr ⟨sv, HC.out.1.cell 0, hs2⟩)
        · rw [h] at hs2
          injection hs2 with hs2
          exact .inr (by omega)
    · have := hge i h
      omega
  case done =>
    rintro Dd xs W hD rfl ⟨⟨sv, hc⟩, hf⟩ hK
    have c0 : W.cell? ⟨w.heap.size, 0, none⟩ = some sv := hc.1.cell 0
    have hDlt := heap_lt hK
    have hg := grownBy_putObj' W Dd (.deferred none)
    have hc2 := hc.turn hg (fun r e => by injection e with e; subst e; exact ⟨_, hK, rfl⟩)
    have hf2 : Fr none_ w (W.putObj Dd (.deferred none)) := hf.trans' (grownBy_fr hg) (fun i hi e => by injection e with e; simp at hD; omega)
    have HC2 := Lib.hid hc2; clear hc2
    have HF2 := Lib.hid hf2; clear hf2
    clear hc hf hg
    gi_wp2
    refine ⟨by simp, .inl ⟨_, _, rfl, run_takeDeferred hK, ?_⟩⟩
    exact ⟨sv, results_tmp (t := 4) rfl _ _ _, sv, rfl, HC2.out.2, HF2.out⟩
  case stop =>
    rintro Dd c pre W _ _ h _
    exact h.elim
end Go.Proofs.YtkiinokhdmmagaaGreat
