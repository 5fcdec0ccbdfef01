/- What stands while 'SealSealed' runs. -/
import Derived.Test.YtpgjbbefgacjkaaSRegs
import Derived.Test.YtpgjbbefgacjkaaSOver
import Derived.Test.YtpgjbbefgacjkaaAlike
import Derived.StillTailTactics
import Derived.Deep.CutBlock
import Derived.Deep.CutRange
namespace Go.Proofs.Ytpgjbbefgacjkaa
open Go.RowKit
set_option linter.unusedSimpArgs false
set_option linter.unusedVariables false
set_option linter.unusedSectionVars false
def boxn (n : Nat) : List Int := (List.range n).map fun i : Nat => 13 + (i : Int)
def prn (E : List (Nat × V)) : List Int := E.map fun e => (e.1 : Int)
/-- What stands while the boxes are opened. -/
structure Chk (w0 wr : World) (p bc bt bf bm : Nat) (W : AW) (E : List (Nat × V)) (oa ba qa ha : Option Addr) : Prop where
  rep : ∃ M D ck L, RepW wr p W M D none 0 bc bt bf bm ck 0 L []
  o : RdI wr oa (opns 6)
  b : RdI wr ba (boxn E.length)
  q : RdI wr qa (prn E)
  h : RVs wr (· < wr.heap.size) False (E.map (·.2)) ha
  fr : Fr none_ w0 wr
theorem rdI_keep {w w' : World} {A0 : Option Addr} {ps : List Int} (h : RdI w A0 ps) (k : Fr (w.heap.size ≤ ·) w w') : RdI w' A0 ps := by
  intro j hj
  obtain ⟨b, o, he, hc⟩ := h j hj
  refine ⟨b, o, he, cell_keep (fun hb => k.block b hb (by omega)) hc⟩
theorem Chk.keep {w0 wr w' : World} {p bc bt bf bm : Nat} {W : AW} {E : List (Nat × V)} {oa ba qa ha : Option Addr} (h : Chk w0 wr p bc bt bf bm W E oa ba qa ha) (k : Fr (wr.heap.size ≤ ·) wr w') : Chk w0 w' p bc bt bf bm W E oa ba qa ha := by
  obtain ⟨⟨M, D, ck, L, hr⟩, h2, h3, h4, h5, h6⟩ := h
  refine ⟨⟨M, D, ck, L, hr.keep k (fun b hb => by have := hr.mlt b hb; omega) (fun b hb => by have := hr.dlt b hb; omega)⟩, rdI_keep h2 k, rdI_keep h3 k, rdI_keep h4 k, ?_, h6.trans' k (fun i hi e => by have := h6.size; omega)⟩
  exact RVs.keep (fun b hb => Nat.lt_of_lt_of_le hb k.size) (fun b hb hl => k.block b hl (by omega)) _ _ h5
theorem Chk.keep0 {w0 wr w' : World} {p bc bt bf bm : Nat} {W : AW} {E : List (Nat × V)} {oa ba qa ha : Option Addr} (h : Chk w0 wr p bc bt bf bm W E oa ba qa ha) (k : Fr none_ wr w') : Chk w0 w' p bc bt bf bm W E oa ba qa ha := h.keep (k.mono (fun _ _ h => h.elim))
/-- What stands at the head of the first loop. -/
structure L1 (w wr : World) (p bc bt bf bm : Nat) (W : AW) (M D : Nat → Prop) (ck : Nat) (L : List (Int × Nat × Nat)) (E : List (Nat × V)) (sa : Option Addr) (sc : Nat) (oa : Option Addr) (oc : Nat) (ba : Option Addr) (bcap : Nat) (qa : Option Addr) (qcap : Nat) (ha : Option Addr) (hcap : Nat) (hx : List Value) (Eh : Nat → Prop) : Prop where
  rep : RepW wr p W M D none 0 bc bt bf bm ck 0 L []
  sld : Sld W E
  six : ∀ e, e ∈ E → e.1 < 6
  s : OwnI wr w.heap.size 28 (.slice sa 6 sc) (sers 6)
  o : OwnI wr w.heap.size 28 (.slice oa 6 oc) (opns 6)
  b : OwnI wr w.heap.size 28 (.slice ba E.length bcap) (boxn E.length)
  q : OwnI wr w.heap.size 3 (.slice qa E.length qcap) (prn E)
  h : wr.ownsRow w.heap.size 37 5 (.slice ha E.length hcap) E.length hx
  rvl : RVL wr Eh False (E.map (·.2)) hx
  eh : ∀ b, Eh b → w.heap.size ≤ b ∧ b < wr.heap.size ∧ ¬ M b ∧ (Value.slice ba E.length bcap).ownBlock ≠ some b ∧ (Value.slice qa E.length qcap).ownBlock ≠ some b ∧ (Value.slice ha E.length hcap).ownBlock ≠ some b
  md : ∀ b, ((Value.slice sa 6 sc).ownBlock = some b ∨ (Value.slice oa 6 oc).ownBlock = some b ∨ (Value.slice ba E.length bcap).ownBlock = some b ∨ (Value.slice qa E.length qcap).ownBlock = some b ∨ (Value.slice ha E.length hcap).ownBlock = some b) → ¬ M b ∧ ¬ D b
  so : ∀ b, ((Value.slice sa 6 sc).ownBlock = some b ∨ (Value.slice oa 6 oc).ownBlock = some b) → (Value.slice ba E.length bcap).ownBlock ≠ some b ∧ (Value.slice qa E.length qcap).ownBlock ≠ some b ∧ (Value.slice ha E.length hcap).ownBlock ≠ some b
  bq : ∀ b, (Value.slice ba E.length bcap).ownBlock = some b → (Value.slice qa E.length qcap).ownBlock ≠ some b ∧ (Value.slice ha E.length hcap).ownBlock ≠ some b
  qh : ∀ b, (Value.slice qa E.length qcap).ownBlock = some b → (Value.slice ha E.length hcap).ownBlock ≠ some b
  ml : ∀ i, M i → w.heap.size ≤ i
  fr : Fr none_ w wr
def L1R (w : World) (p bc bt bf bm : Nat) (sa : Option Addr) (sc : Nat) (oa : Option Addr) (oc : Nat) (g : Nat) (s8 s9 s10 s11 : Value) (wr : World) : Prop :=
  ∃ (i : Nat) (W : AW) (M D : Nat → Prop) (ck : Nat) (L : List (Int × Nat × Nat)) (E : List (Nat × V)) (ba : Option Addr) (bcap : Nat) (qa : Option Addr) (qcap : Nat) (ha : Option Addr) (hcap : Nat) (hx : List Value) (Eh : Nat → Prop), i + g = 60 ∧ E.length ≤ i ∧ s11 = .int .i64 (i : Int) ∧
    s8 = .slice ba E.length bcap ∧ s9 = .slice qa E.length qcap ∧ s10 = .slice ha E.length hcap ∧ L1 w wr p bc bt bf bm W M D ck L E sa sc oa oc ba bcap qa qcap ha hcap hx Eh
theorem boxn_len (n : Nat) : (boxn n).length = n := by simp [boxn]
theorem prn_len (E : List (Nat × V)) : (prn E).length = E.length := by simp [prn]
theorem ownI_rd {w : World} {B : Nat} {e : TypeId} {A0 : Option Addr} {n c : Nat} {xs : List Int} (h : OwnI w B e (.slice A0 n c) xs) : RdI w A0 xs := by
  obtain ⟨A1, c1, he, hr, _⟩ := h.rd
  injection he with e1 _ _
  rw [e1]
  exact hr
theorem row_rvs {w : World} {B n c : Nat} {A0 : Option Addr} {hx : List Value} {l : List V} {H H' : Nat → Prop} (hown : w.ownsRow B 37 5 (.slice A0 n c) n hx) (hrv : RVL w H False l hx) (hn : l.length = n) (hH : ∀ b, H b → H' b) (hg : ∀ b, (Value.slice A0 n c).ownBlock = some b → H' b) : RVs w H' False l A0 := by
  rcases hown.2 with ⟨h, h2⟩ | ⟨g, cap, cur, h, hgB, hh, hnc, _, hcs, ht⟩
  · have : l = [] := List.eq_nil_of_length_eq_zero (by omega)
    subst this
    unfold RVs
    trivial
  · injection h with e1 _ e3
    subst e1; subst e3
    refine RVL.row (D := H') (hg g rfl) (fun z => z.elim) 0 (fun z => z.elim) (hrv.mono hH) (fun i hi => ?_)
    have hx' : hx[i]? = cur[i]? := by
      rw [← ht, List.getElem?_take, if_pos (by rw [← hown.1]; exact hi)]
      simp
    rw [Nat.zero_add, hx']
    have hb : Blk w g cur.toList 37 := by unfold Blk; simpa using hh
    rw [hb.cell i]
    simp
theorem L1.chk {w wr : World} {p bc bt bf bm : Nat} {W : AW} {M D : Nat → Prop} {ck : Nat} {L : List (Int × Nat × Nat)} {E : List (Nat × V)} {sa : Option Addr} {sc : Nat} {oa : Option Addr} {oc : Nat} {ba : Option Addr} {bcap : Nat} {qa : Option Addr} {qcap : Nat} {ha : Option Addr} {hcap : Nat} {hx : List Value} {Eh : Nat → Prop} (h : L1 w wr p bc bt bf bm W M D ck L E sa sc oa oc ba bcap qa qcap ha hcap hx Eh) : Chk w wr p bc bt bf bm W E oa ba qa ha :=
  ⟨⟨M, D, ck, L, h.rep⟩, ownI_rd h.o, ownI_rd h.b, ownI_rd h.q, row_rvs h.h h.rvl (by simp) (fun b hb => (h.eh b hb).2.1) (fun b hb => (ownsRow_ge h.h b hb).2), h.fr⟩
theorem L1.start {w wr : World} {p bc bt bf bm : Nat} {M D : Nat → Prop} {ck : Nat} {L : List (Int × Nat × Nat)} {sa : Option Addr} {sc : Nat} {oa : Option Addr} {oc : Nat} (h1 : RepW wr p (prs 6) M D none 0 bc bt bf bm ck 0 L []) (hs : OwnI wr w.heap.size 28 (.slice sa 6 sc) (sers 6)) (ho : OwnI wr w.heap.size 28 (.slice oa 6 oc) (opns 6))
    (hmd : ∀ b, ((Value.slice sa 6 sc).ownBlock = some b ∨ (Value.slice oa 6 oc).ownBlock = some b) → ¬ M b ∧ ¬ D b) (hml : ∀ i, M i → w.heap.size ≤ i) (hf : Fr none_ w wr) : L1R w p bc bt bf bm sa sc oa oc 60 (.slice none 0 0) (.slice none 0 0) (.slice none 0 0) (.int .i64 0) wr := by
  refine ⟨0, prs 6, M, D, ck, L, [], none, 0, none, 0, none, 0, [], fun _ => False, rfl, Nat.le_refl _, rfl, rfl, rfl, rfl, ?_⟩
  refine { rep := h1, sld := Sld.start, six := fun e h => absurd h (List.not_mem_nil), s := hs, o := ho, b := World.ownsRow_nil _ _ _ _, q := World.ownsRow_nil _ _ _ _, h := World.ownsRow_nil _ _ _ _, rvl := ?_, eh := fun b h => h.elim, md := ?_, so := ?_, bq := ?_, qh := ?_, ml := hml, fr := hf }
  · unfold RVL; rfl
  · rintro b (h | h | h | h | h)
    · exact hmd b (.inl h)
    · exact hmd b (.inr h)
    · cases h
    · cases h
    · cases h
  · intro b _
    refine ⟨?_, ?_, ?_⟩ <;> (intro h; cases h)
  · intro b h; cases h
  · intro b h; cases h
theorem openChk {w0 wr : World} {p bc bt bf bm : Nat} {W : AW} {E : List (Nat × V)} {oa ba qa ha : Option Addr} (h : Chk w0 wr p bc bt bf bm W E oa ba qa ha) (s : Sld W E) (i k : Nat) (hi : i < E.length) (hk : k < 6) (hE : E.length ≤ 60) :
    Calls Try.prog 18 #[.pointer (some ⟨p, 0, none⟩), .int .i64 (2 * (k : Int) + 2), (refV (13 + (i : Int))).agg none 0] wr (OwnOut2 wr (valAt E i k) (errAt E i k)) := by
  obtain ⟨M, D, ck, L, hr⟩ := h.rep
  exact openAt hr s i k hi hk hE
theorem doChk {w0 wr : World} {p bc bt bf bm : Nat} {W : AW} {E : List (Nat × V)} {oa ba qa ha : Option Addr} (h : Chk w0 wr p bc bt bf bm W E oa ba qa ha) (s : Sld W E) (i k : Nat) (hi : i < E.length) (hk : k < 6) (hE : E.length ≤ 60) :
    Calls Try.prog 23 #[.pointer (some ⟨p, 0, none⟩), .int .i64 (2 * (k : Int) + 2), .int .u8 16, (refV (13 + (i : Int))).agg none 0] wr (OwnOut2 wr (valAt E i k) (errAt E i k)) := by
  obtain ⟨M, D, ck, L, hr⟩ := h.rep
  exact doAt hr s i k hi hk hE
/-- A value handed back, boxed. -/
def Got (w w0 wr : World) (p bc bt bf bm : Nat) (W : AW) (E : List (Nat × V)) (oa ba qa ha : Option Addr) (u : V) (n : Int) (s18 s19 : Value) : Prop :=
  ∃ (b : Nat) (A0 : Option Addr) (c : Nat), s18 = .pointer (some ⟨b, 0, none⟩) ∧ s19 = .int .i64 n ∧ w0.heap.size ≤ b ∧ Blk wr b (u.cells A0 c) 37 ∧ RV wr (fun i => w0.heap.size ≤ i ∧ i ≠ b) True u (u.cells A0 c) ∧ Fr none_ w0 wr ∧ Chk w wr p bc bt bf bm W E oa ba qa ha
theorem got {w w0 w1 w2 : World} {p bc bt bf bm : Nat} {W : AW} {E : List (Nat × V)} {oa ba qa ha : Option Addr} {u : V} {n : Int} {A2 : Option Addr} {c2 : Nat} (h : Chk w w0 p bc bt bf bm W E oa ba qa ha) (hf1 : Fr none_ w0 w1) (hu : RV w2 (w1.heap.size ≤ ·) True u (u.cells A2 c2)) (hf2 : Fr none_ w1 w2) :
    Got w w0 (w2.alloc (.cells (u.cells A2 c2).toArray 37)) p bc bt bf bm W E oa ba qa ha u n (.pointer (some ⟨w2.heap.size, 0, none⟩)) (.int .i64 n) := by
  have hf := (hf1.trans hf2).alloc (.cells (u.cells A2 c2).toArray 37)
  have hu2 := hu.weak (z' := True) id
  refine ⟨w2.heap.size, A2, c2, rfl, rfl, (hf1.trans hf2).size, Blk.new _ _ _, ?_, hf, h.keep0 hf⟩
  refine RV.fr ((Fr.refl none_ w2).alloc _) (fun _ _ h => h) (RV.mono (fun b hb => ⟨Nat.le_trans hf1.size hb.1, by have := hb.2; omega⟩) hu2)
/-- The same, where the block was made ahead of the call. -/
theorem gotB {w w0 w1 w2 : World} {p bc bt bf bm : Nat} {W : AW} {E : List (Nat × V)} {oa ba qa ha : Option Addr} {u : V} {n : Int} {A2 : Option Addr} {c2 b : Nat} (h : Chk w w0 p bc bt bf bm W E oa ba qa ha) (hf1 : Fr none_ w0 w1) (hu : RV w2 (w1.heap.size ≤ ·) True u (u.cells A2 c2)) (hf2 : Fr none_ w1 w2) (hb0 : w0.heap.size ≤ b) (hb1 : b < w1.heap.size) (hb : Blk w2 b zero5 37) :
    Got w w0 (w2.setCells b 0 (u.cells A2 c2)) p bc bt bf bm W E oa ba qa ha u n (.pointer (some ⟨b, 0, none⟩)) (.int .i64 n) := by
  have hf := (hf1.trans hf2).setCells b 0 (u.cells A2 c2) (fun h => by omega)
  have hk : Fr (· = b) w2 (w2.setCells b 0 (u.cells A2 c2)) := (Fr.refl _ _).setCells _ _ _ (fun _ => rfl)
  refine ⟨b, A2, c2, rfl, rfl, hb0, hb.setCells 0 (u.cells A2 c2) (by simp), ?_, hf, h.keep0 hf⟩
  exact RV.mono (fun i hi => ⟨Nat.le_trans hf1.size hi, by have : w1.heap.size ≤ i := hi; omega⟩) (RV.fr hk (fun i hi e => by have : w1.heap.size ≤ i := hi; omega) hu)
def P2 (w : World) (p bc bt bf bm : Nat) (oa : Option Addr) (s8 s9 s10 : Value) (wr : World) : Prop :=
  ∃ (W : AW) (E : List (Nat × V)) (ba : Option Addr) (bcap : Nat) (qa : Option Addr) (qcap : Nat) (ha : Option Addr) (hcap : Nat), s8 = .slice ba E.length bcap ∧ s9 = .slice qa E.length qcap ∧ s10 = .slice ha E.length hcap ∧ Chk w wr p bc bt bf bm W E oa ba qa ha ∧ Sld W E ∧ (∀ e, e ∈ E → e.1 < 6) ∧ E.length ≤ 60
theorem RVL.keep0 {w w' : World} {D : Nat → Prop} {z : Prop} (k : Fr none_ w w') {l : List V} {cs : List Value} (h : RVL w D z l cs) : RVL w' D z l cs := h.fr k (fun _ _ h => h)
theorem L1.keep0 {w wr w' : World} {p bc bt bf bm : Nat} {W : AW} {M D : Nat → Prop} {ck : Nat} {L : List (Int × Nat × Nat)} {E : List (Nat × V)} {sa : Option Addr} {sc : Nat} {oa : Option Addr} {oc : Nat} {ba : Option Addr} {bcap : Nat} {qa : Option Addr} {qcap : Nat} {ha : Option Addr} {hcap : Nat} {hx : List Value} {Eh : Nat → Prop} (h : L1 w wr p bc bt bf bm W M D ck L E sa sc oa oc ba bcap qa qcap ha hcap hx Eh) (k : Fr none_ wr w') : L1 w w' p bc bt bf bm W M D ck L E sa sc oa oc ba bcap qa qcap ha hcap hx Eh :=
  { rep := h.rep.keep k (fun _ _ h => h) (fun _ _ h => h), sld := h.sld, six := h.six, s := h.s.keep k (fun _ _ h => h), o := h.o.keep k (fun _ _ h => h), b := h.b.keep k (fun _ _ h => h), q := h.q.keep k (fun _ _ h => h), h := ownsRow_keep h.h k (fun _ _ h => h), rvl := h.rvl.keep0 k,
    eh := fun b hb => ⟨(h.eh b hb).1, Nat.lt_of_lt_of_le (h.eh b hb).2.1 k.size, (h.eh b hb).2.2⟩, md := h.md, so := h.so, bq := h.bq, qh := h.qh, ml := h.ml, fr := h.fr.trans k }
theorem L1.rows {w wr w3 w4 : World} {p bc bt bf bm : Nat} {W : AW} {M D : Nat → Prop} {ck : Nat} {L : List (Int × Nat × Nat)} {E : List (Nat × V)} {sa : Option Addr} {sc : Nat} {oa : Option Addr} {oc : Nat} {ba : Option Addr} {bcap : Nat} {qa : Option Addr} {qcap : Nat} {ha : Option Addr} {hcap : Nat} {hx : List Value} {Eh : Nat → Prop}
    (h : L1 w wr p bc bt bf bm W M D ck L E sa sc oa oc ba bcap qa qcap ha hcap hx Eh) (f13 : Fr none_ wr w3) (f4 : Fr (fun i => i = p ∨ i = bt ∨ i = bm) w3 w4) :
    w4.ownsRow w.heap.size 28 1 (.slice ba E.length bcap) E.length (rowI (boxn E.length)) ∧ w4.ownsRow w.heap.size 3 1 (.slice qa E.length qcap) E.length (rowI (prn E)) ∧ w4.ownsRow w.heap.size 37 5 (.slice ha E.length hcap) E.length hx ∧
    (∀ b, ((Value.slice ba E.length bcap).ownBlock = some b ∨ (Value.slice qa E.length qcap).ownBlock = some b ∨ (Value.slice ha E.length hcap).ownBlock = some b) → b < wr.heap.size) := by
  have hm := h.rep.m
  have wm : ∀ b, ¬ M b → ¬ (b = p ∨ b = bt ∨ b = bm) := fun b hn h' => by
    rcases h' with rfl | rfl | rfl
    · exact hn hm.1
    · exact hn hm.2.2.1
    · exact hn hm.2.2.2.2
  have h1 := (h.b.keep f13 (fun _ _ h => h)).keep f4 (fun b hb => wm b (h.md b (.inr (.inr (.inl hb)))).1)
  have h2 := (h.q.keep f13 (fun _ _ h => h)).keep f4 (fun b hb => wm b (h.md b (.inr (.inr (.inr (.inl hb))))).1)
  rw [OwnI, boxn_len] at h1
  rw [OwnI, prn_len] at h2
  refine ⟨h1, h2, ownsRow_keep (ownsRow_keep h.h f13 (fun _ _ h => h)) f4 (fun b hb => wm b (h.md b (.inr (.inr (.inr (.inr hb))))).1), ?_⟩
  rintro b (hb | hb | hb)
  · exact (ownsRow_ge h.b b hb).2
  · exact (ownsRow_ge h.q b hb).2
  · exact (ownsRow_ge h.h b hb).2
theorem ob {g c n : Nat} {b : Nat} (h : (Value.slice (some ⟨g, 0, none⟩) n c).ownBlock = some b) : g = b := by injection h
/-- A box more. -/
theorem L1.next {w wr w1 w2 w3 w4 w5 : World} {p bc bt bf bm : Nat} {W : AW} {M D M' D' : Nat → Prop} {ck ck' : Nat} {L L' : List (Int × Nat × Nat)} {E : List (Nat × V)} {sa : Option Addr} {sc : Nat} {oa : Option Addr} {oc : Nat} {ba : Option Addr} {bcap : Nat} {qa : Option Addr} {qcap : Nat} {ha : Option Addr} {hcap : Nat} {hx : List Value} {Eh : Nat → Prop}
    (h : L1 w wr p bc bt bf bm W M D ck L E sa sc oa oc ba bcap qa qcap ha hcap hx Eh) (K : Nat) (hK : K < 6) (u : V) (A2 : Option Addr) (c2 : Nat) (hmay : u.may = true) (f1 : Fr none_ wr w1) (f2 : Fr none_ w1 w2) (hu : RV w2 (fun b => w1.heap.size ≤ b ∧ b < w2.heap.size) False u (u.cells A2 c2)) (f3 : Fr none_ w2 w3)
    (hr : RepW w4 p (W.lay (xOf 7 0 (2 * (K : Int) + 1) u)) M' D' none 0 bc bt bf bm ck' 0 L' []) (hM : ∀ i, M' i → M i ∨ w3.heap.size ≤ i) (hD : ∀ i, D' i → D i ∨ w3.heap.size ≤ i) (f4 : Fr (fun i => i = p ∨ i = bt ∨ i = bm) w3 w4)
    (g8 d8 g9 d9 g10 d10 : Nat) (r8 : w5.ownsRow w.heap.size 28 1 (.slice (some ⟨g8, 0, none⟩) (E.length + 1) d8) (E.length + 1) (rowI (boxn E.length) ++ [.int .i64 (13 + (E.length : Int))])) (r9 : w5.ownsRow w.heap.size 3 1 (.slice (some ⟨g9, 0, none⟩) (E.length + 1) d9) (E.length + 1) (rowI (prn E) ++ [.int .i64 (K : Int)])) (r10 : w5.ownsRow w.heap.size 37 5 (.slice (some ⟨g10, 0, none⟩) (E.length + 1) d10) (E.length + 1) (hx ++ u.cells A2 c2))
    (t8 : (Value.slice ba E.length bcap).ownBlock = some g8 ∨ w4.heap.size ≤ g8) (t9 : (Value.slice qa E.length qcap).ownBlock = some g9 ∨ w4.heap.size ≤ g9) (t10 : (Value.slice ha E.length hcap).ownBlock = some g10 ∨ w4.heap.size ≤ g10) (n1 : g8 ≠ g9) (n2 : g8 ≠ g10) (n3 : g9 ≠ g10)
    (f5 : Fr (fun b => (Value.slice ba E.length bcap).ownBlock = some b ∨ (Value.slice qa E.length qcap).ownBlock = some b ∨ (Value.slice ha E.length hcap).ownBlock = some b) w4 w5) :
    L1 w w5 p bc bt bf bm (W.lay (xOf 7 0 (2 * (K : Int) + 1) u)) M' D' ck' L' (E ++ [(K, u)]) sa sc oa oc (some ⟨g8, 0, none⟩) d8 (some ⟨g9, 0, none⟩) d9 (some ⟨g10, 0, none⟩) d10 (hx ++ u.cells A2 c2) (fun b => Eh b ∨ (w1.heap.size ≤ b ∧ b < w2.heap.size)) := by
  have z1 := f1.size; have z2 := f2.size; have z3 := f3.size; have z4 := f4.size; have z5 := f5.size
  have zw := h.fr.size
  have hm := h.rep.m
  have f13 : Fr none_ wr w3 := (f1.trans f2).trans f3
  have lb : ∀ b, (Value.slice ba E.length bcap).ownBlock = some b → w.heap.size ≤ b ∧ b < wr.heap.size := fun b hb => ownsRow_ge h.b b hb
  have lq : ∀ b, (Value.slice qa E.length qcap).ownBlock = some b → w.heap.size ≤ b ∧ b < wr.heap.size := fun b hb => ownsRow_ge h.q b hb
  have lh : ∀ b, (Value.slice ha E.length hcap).ownBlock = some b → w.heap.size ≤ b ∧ b < wr.heap.size := fun b hb => ownsRow_ge h.h b hb
  have ls : ∀ b, (Value.slice sa 6 sc).ownBlock = some b → w.heap.size ≤ b ∧ b < wr.heap.size := fun b hb => ownsRow_ge h.s b hb
  have lo : ∀ b, (Value.slice oa 6 oc).ownBlock = some b → w.heap.size ≤ b ∧ b < wr.heap.size := fun b hb => ownsRow_ge h.o b hb
  have nm : ∀ b, b < wr.heap.size → ¬ M b → ¬ M' b := fun b hb hn h' => by
    rcases hM b h' with h' | h'
    · exact hn h'
    · omega
  have nd : ∀ b, b < wr.heap.size → ¬ D b → ¬ D' b := fun b hb hn h' => by
    rcases hD b h' with h' | h'
    · exact hn h'
    · omega
  have wm : ∀ b, ¬ M b → ¬ (b = p ∨ b = bt ∨ b = bm) := fun b hn h' => by
    rcases h' with rfl | rfl | rfl
    · exact hn hm.1
    · exact hn hm.2.2.1
    · exact hn hm.2.2.2.2
  have five : ∀ b, b < wr.heap.size → (M' b ∨ D' b) → ¬ ((Value.slice ba E.length bcap).ownBlock = some b ∨ (Value.slice qa E.length qcap).ownBlock = some b ∨ (Value.slice ha E.length hcap).ownBlock = some b) := fun b hb hmd h' => by
    have h1 : ¬ M b ∧ ¬ D b := h.md b (by rcases h' with h' | h' | h' <;> simp [h'])
    rcases hmd with hmd | hmd
    · exact nm b hb h1.1 hmd
    · exact nd b hb h1.2 hmd
  have five' : ∀ b, (M' b ∨ D' b) → ¬ ((Value.slice ba E.length bcap).ownBlock = some b ∨ (Value.slice qa E.length qcap).ownBlock = some b ∨ (Value.slice ha E.length hcap).ownBlock = some b) := fun b hmd h' => by
    have hb : b < wr.heap.size := by
      rcases h' with h' | h' | h'
      · exact (lb b h').2
      · exact (lq b h').2
      · exact (lh b h').2
    exact five b hb hmd h'
  have ehk : ∀ b, Eh b → ¬ ((Value.slice ba E.length bcap).ownBlock = some b ∨ (Value.slice qa E.length qcap).ownBlock = some b ∨ (Value.slice ha E.length hcap).ownBlock = some b) := fun b hb h' => by
    have := h.eh b hb
    rcases h' with h' | h' | h'
    · exact this.2.2.2.1 h'
    · exact this.2.2.2.2.1 h'
    · exact this.2.2.2.2.2 h'
  have q8 : ∀ b, b < wr.heap.size → (Value.slice ba E.length bcap).ownBlock ≠ some b → g8 ≠ b := fun b hb hn e => by
    subst e
    rcases t8 with t | t
    · exact hn t
    · omega
  have q9 : ∀ b, b < wr.heap.size → (Value.slice qa E.length qcap).ownBlock ≠ some b → g9 ≠ b := fun b hb hn e => by
    subst e
    rcases t9 with t | t
    · exact hn t
    · omega
  have q10 : ∀ b, b < wr.heap.size → (Value.slice ha E.length hcap).ownBlock ≠ some b → g10 ≠ b := fun b hb hn e => by
    subst e
    rcases t10 with t | t
    · exact hn t
    · omega
  have m8 : ¬ M' g8 ∧ ¬ D' g8 := by
    rcases t8 with t | t
    · have := h.md g8 (.inr (.inr (.inl t))); have hl := (lb g8 t).2; exact ⟨nm g8 hl this.1, nd g8 hl this.2⟩
    · exact ⟨fun h' => by have := hr.mlt g8 h'; omega, fun h' => by have := hr.dlt g8 h'; omega⟩
  have m9 : ¬ M' g9 ∧ ¬ D' g9 := by
    rcases t9 with t | t
    · have := h.md g9 (.inr (.inr (.inr (.inl t)))); have hl := (lq g9 t).2; exact ⟨nm g9 hl this.1, nd g9 hl this.2⟩
    · exact ⟨fun h' => by have := hr.mlt g9 h'; omega, fun h' => by have := hr.dlt g9 h'; omega⟩
  have m10 : ¬ M' g10 ∧ ¬ D' g10 := by
    rcases t10 with t | t
    · have := h.md g10 (.inr (.inr (.inr (.inr t)))); have hl := (lh g10 t).2; exact ⟨nm g10 hl this.1, nd g10 hl this.2⟩
    · exact ⟨fun h' => by have := hr.mlt g10 h'; omega, fun h' => by have := hr.dlt g10 h'; omega⟩
  refine { rep := hr.keep f5 (fun b hb h' => five' b (.inl hb) h') (fun b hb h' => five' b (.inr hb) h'), sld := h.sld.next K hK u hmay, six := ?_, s := ?_, o := ?_, b := ?_, q := ?_, h := ?_, rvl := ?_, eh := ?_, md := ?_, so := ?_, bq := ?_, qh := ?_, ml := ?_, fr := ?_ }
  · intro e he
    rcases List.mem_append.1 he with he | he
    · exact h.six e he
    · rw [List.mem_singleton.1 he]; exact hK
  · exact ((h.s.keep f13 (fun _ _ h => h)).keep f4 (fun b hb => wm b (h.md b (.inl hb)).1)).keep f5 (fun b hb h' => by
      have := h.so b (.inl hb)
      rcases h' with h' | h' | h'
      · exact this.1 h'
      · exact this.2.1 h'
      · exact this.2.2 h')
  · exact ((h.o.keep f13 (fun _ _ h => h)).keep f4 (fun b hb => wm b (h.md b (.inr (.inl hb))).1)).keep f5 (fun b hb h' => by
      have := h.so b (.inr hb)
      rcases h' with h' | h' | h'
      · exact this.1 h'
      · exact this.2.1 h'
      · exact this.2.2 h')
  · have e1 : (boxn (E ++ [(K, u)]).length).length = E.length + 1 := by simp [boxn]
    have e2 : rowI (boxn (E ++ [(K, u)]).length) = rowI (boxn E.length) ++ [.int .i64 (13 + (E.length : Int))] := by simp [boxn, rowI, List.range_succ]
    rw [OwnI, e1, e2, show (E ++ [(K, u)]).length = E.length + 1 by simp]
    exact r8
  · have e1 : (prn (E ++ [(K, u)])).length = E.length + 1 := by simp [prn]
    have e2 : rowI (prn (E ++ [(K, u)])) = rowI (prn E) ++ [.int .i64 (K : Int)] := by simp [prn, rowI]
    rw [OwnI, e1, e2, show (E ++ [(K, u)]).length = E.length + 1 by simp]
    exact r9
  · rw [show (E ++ [(K, u)]).length = E.length + 1 by simp]
    exact r10
  · rw [List.map_append]
    refine RVL.snoc ?_ ?_
    · have a1 : RVL w3 Eh False (E.map (·.2)) hx := h.rvl.keep0 f13
      have a2 : RVL w4 Eh False (E.map (·.2)) hx := a1.fr f4 (fun b hb => wm b (h.eh b hb).2.2.1)
      exact (a2.fr f5 (fun b hb => ehk b hb)).mono (fun b hb => .inl hb)
    · have a1 : RV w3 _ False u (u.cells A2 c2) := hu.fr f3 (fun _ _ h => h)
      have a2 : RV w4 _ False u (u.cells A2 c2) := a1.fr f4 (fun b hb h' => by
        have hMb : M b := by
          rcases h' with rfl | rfl | rfl
          · exact hm.1
          · exact hm.2.2.1
          · exact hm.2.2.2.2
        have h1 := h.rep.mlt b hMb
        have h2 : w1.heap.size ≤ b := hb.1
        omega)
      exact (a2.fr f5 (fun b hb h' => by
        have h2 : w1.heap.size ≤ b := hb.1
        rcases h' with h' | h' | h'
        · have := (lb b h').2; omega
        · have := (lq b h').2; omega
        · have := (lh b h').2; omega)).mono (fun b hb => .inr hb)
  · rintro b (hb | hb)
    · have h1 := h.eh b hb
      exact ⟨h1.1, by omega, nm b h1.2.1 h1.2.2.1, fun e => q8 b h1.2.1 h1.2.2.2.1 (ob e), fun e => q9 b h1.2.1 h1.2.2.2.2.1 (ob e), fun e => q10 b h1.2.1 h1.2.2.2.2.2 (ob e)⟩
    · refine ⟨by omega, by omega, fun h' => ?_, fun e => ?_, fun e => ?_, fun e => ?_⟩
      · rcases hM b h' with h' | h'
        · have := h.rep.mlt b h'; omega
        · omega
      · have e := ob e
        subst e
        rcases t8 with t | t
        · have := (lb _ t).2; omega
        · omega
      · have e := ob e
        subst e
        rcases t9 with t | t
        · have := (lq _ t).2; omega
        · omega
      · have e := ob e
        subst e
        rcases t10 with t | t
        · have := (lh _ t).2; omega
        · omega
  · rintro b (hb | hb | hb | hb | hb)
    · have h1 := h.md b (.inl hb); have hl := (ls b hb).2; exact ⟨nm b hl h1.1, nd b hl h1.2⟩
    · have h1 := h.md b (.inr (.inl hb)); have hl := (lo b hb).2; exact ⟨nm b hl h1.1, nd b hl h1.2⟩
    · have e := ob hb; subst e; exact m8
    · have e := ob hb; subst e; exact m9
    · have e := ob hb; subst e; exact m10
  · intro b hb
    have hl : b < wr.heap.size := by
      rcases hb with hb | hb
      · exact (ls b hb).2
      · exact (lo b hb).2
    have h1 := h.so b hb
    exact ⟨fun e => q8 b hl h1.1 (ob e), fun e => q9 b hl h1.2.1 (ob e), fun e => q10 b hl h1.2.2 (ob e)⟩
  · intro b hb
    have e := ob hb
    subst e
    exact ⟨fun e => n1 (ob e).symm, fun e => n2 (ob e).symm⟩
  · intro b hb e
    have e1 := ob hb
    subst e1
    exact n3 (ob e).symm
  · intro i hi
    rcases hM i hi with h' | h'
    · exact h.ml i h'
    · omega
  · refine ((h.fr.trans f13).trans' f4 (fun i hi e => ?_)).trans' f5 (fun i hi e => ?_)
    · rcases e with rfl | rfl | rfl
      · have := h.ml _ hm.1; omega
      · have := h.ml _ hm.2.2.1; omega
      · have := h.ml _ hm.2.2.2.2; omega
    · rcases e with e | e | e
      · have := (lb i e).1; omega
      · have := (lq i e).1; omega
      · have := (lh i e).1; omega
end Go.Proofs.Ytpgjbbefgacjkaa
