/- 'Over' of the reference of layer 9: what was told is written over; only its own memory is. -/
import Derived.Test.YtpgjbbefgacjkaaTakeL
import Derived.Test.YtpgjbbefgacjkaaRefs
namespace Go.Proofs.Ytpgjbbefgacjkaa
open Go.RowKit
set_option linter.unusedSimpArgs false
set_option linter.unusedVariables false
set_option linter.unusedSectionVars false
abbrev z99 : List Value := [.int .u8 99, .int .i64 0, .string ⟨#[]⟩, .slice none 0 0, .int .i64 0]
/-- A value that lies in rows of D, each element at a value's place, to a depth; what it is does not matter. -/
def RP (W : World) (D : Nat → Prop) : Nat → List Value → Prop
  | 0, _ => False
  | n + 1, cs => ∃ (k m r : Int) (s : ByteArray) (A : Option Addr) (ln c : Nat), cs = [.int .u8 k, .int .i64 m, .string s, .slice A ln c, .int .i64 r] ∧ ln ≤ 2199023255552 ∧ ln ≤ c ∧
      ∀ i, i < ln → ∃ b o cs', A = some ⟨b, o, none⟩ ∧ D b ∧ o % 5 = 0 ∧ (∀ i, W.frozen? ⟨b, i, none⟩ = false) ∧ (∀ j, j < 5 → W.cell? ⟨b, o + i * 5 + j, none⟩ = cs'[j]?) ∧ RP W D n cs'
theorem RP.zero {W : World} {D : Nat → Prop} {n : Nat} : RP W D (n + 1) z99 := by
  unfold RP
  exact ⟨99, 0, 0, ⟨#[]⟩, none, 0, 0, rfl, by omega, by omega, fun i hi => by omega⟩
theorem RP.five {W : World} {D : Nat → Prop} : ∀ {n : Nat} {cs : List Value}, RP W D n cs → cs.length = 5
  | n + 1, cs, h => by unfold RP at h; obtain ⟨k, m, r, s, A, ln, c, rfl, _⟩ := h; rfl
theorem RP.pos {W : World} {D : Nat → Prop} : ∀ {n : Nat} {cs : List Value}, RP W D n cs → ∃ m, n = m + 1
  | n + 1, cs, h => ⟨n, rfl⟩
theorem RP.elem {W : World} {D : Nat → Prop} {n : Nat} {k m r : Int} {s : ByteArray} {A : Option Addr} {ln c : Nat} (h : RP W D (n + 1) [.int .u8 k, .int .i64 m, .string s, .slice A ln c, .int .i64 r]) (i : Nat) (hi : i < ln) :
    ∃ b o cs', A = some ⟨b, o, none⟩ ∧ D b ∧ o % 5 = 0 ∧ (∀ i, W.frozen? ⟨b, i, none⟩ = false) ∧ (∀ j, j < 5 → W.cell? ⟨b, o + i * 5 + j, none⟩ = cs'[j]?) ∧ RP W D n cs' := by
  unfold RP at h
  obtain ⟨k', m', r', s', A', ln', c', e, _, _, hp⟩ := h
  injection e with _ e; injection e with _ e; injection e with _ e; injection e with e _; injection e with e1 e2 e3
  subst e1; subst e2; subst e3
  exact hp i hi
theorem RP.mono {W : World} {D : Nat → Prop} : ∀ (n m : Nat) (cs : List Value), n ≤ m → RP W D n cs → RP W D m cs
  | n + 1, m + 1, cs, hm, h => by
    unfold RP at h ⊢
    obtain ⟨k, x, r, s, A, ln, c, rfl, h1, h2, h3⟩ := h
    refine ⟨k, x, r, s, A, ln, c, rfl, h1, h2, fun i hi => ?_⟩
    obtain ⟨b, o, cs', e, hd, ho, hf, hc, hr⟩ := h3 i hi
    exact ⟨b, o, cs', e, hd, ho, hf, hc, RP.mono n m cs' (by omega) hr⟩
theorem RP.keep {W W' : World} {D : Nat → Prop} (hb : ∀ b, D b → b < W.heap.size → W'.heap[b]? = W.heap[b]?) : ∀ (n : Nat) (cs : List Value), RP W D n cs → RP W' D n cs
  | n + 1, cs, h => by
    unfold RP at h ⊢
    obtain ⟨k, x, r, s, A, ln, c, rfl, h1, h2, h3⟩ := h
    refine ⟨k, x, r, s, A, ln, c, rfl, h1, h2, fun i hi => ?_⟩
    obtain ⟨b, o, cs', e, hd, ho, hf, hc, hr⟩ := h3 i hi
    have h0 := hc 0 (by omega)
    have h5 := hr.five
    rw [List.getElem?_eq_getElem (show 0 < cs'.length by omega)] at h0
    have hh := hb b hd (cell_lt h0)
    refine ⟨b, o, cs', e, hd, ho, fun i => (World.frozen?_of_block (w := W) (a := ⟨b, i, none⟩) hh).trans (hf i), fun j hj => ?_, RP.keep hb n cs' hr⟩
    rw [← hc j hj]
    exact World.cell?_of_block (w := W) hh
/-- A value's place written over with nothing: what is pruned stays pruned. -/
theorem RP.put {W : World} {D : Nat → Prop} (b off : Nat) (ho : off % 5 = 0) (ht : ∀ j, j < 5 → (W.cell? ⟨b, off + j, none⟩).isSome = true) : ∀ (n : Nat) (cs : List Value), RP W D n cs → RP (W.setCells b off z99) D n cs
  | n + 1, cs, h => by
    unfold RP at h ⊢
    obtain ⟨k, x, r, s, A, ln, c, rfl, h1, h2, h3⟩ := h
    refine ⟨k, x, r, s, A, ln, c, rfl, h1, h2, fun i hi => ?_⟩
    obtain ⟨b', o, cs', e, hd, ho', hf, hc, hr⟩ := h3 i hi
    have hff : ∀ i, (W.setCells b off z99).frozen? ⟨b', i, none⟩ = false := fun i => by rw [World.frozen?_setCells]; exact hf i
    by_cases hsame : b' = b ∧ o + i * 5 = off
    · obtain ⟨rfl, rfl⟩ := hsame
      obtain ⟨m, rfl⟩ := hr.pos
      refine ⟨b', o, z99, e, hd, ho', hff, fun j hj => ?_, RP.zero⟩
      have := World.cell?_setCells_in b' z99 (o + i * 5) W ht j hj
      rw [this, List.getElem?_eq_getElem hj]
    · refine ⟨b', o, cs', e, hd, ho', hff, fun j hj => ?_, RP.put b off ho ht n cs' hr⟩
      rw [World.cell?_setCells_out b z99 off W ⟨b', o + i * 5 + j, none⟩ (fun hb _ => ?_)]
      · exact hc j hj
      · have hb : b' = b := hb
        show o + i * 5 + j < off ∨ off + 5 ≤ o + i * 5 + j
        have hne : o + i * 5 ≠ off := fun e => hsame ⟨hb, e⟩
        omega
theorem RVs.rp_of {W : World} {D : Nat → Prop} (l : List V) (hx : ∀ x, x ∈ l → ∀ cs, RV W D True x cs → ∃ n, RP W D n cs) : ∀ A, RVs W D True l A → ∃ n, ∀ i, i < l.length → ∃ b o cs', A = some ⟨b, o, none⟩ ∧ D b ∧ o % 5 = 0 ∧ (∀ i, W.frozen? ⟨b, i, none⟩ = false) ∧ (∀ j, j < 5 → W.cell? ⟨b, o + i * 5 + j, none⟩ = cs'[j]?) ∧ RP W D n cs' := by
  induction l with
  | nil => intro A _; exact ⟨0, fun i hi => by simp at hi⟩
  | cons v l ih =>
    intro A h
    unfold RVs at h
    obtain ⟨b, o, cs, rfl, hd, hc, hz, hv, hl⟩ := h
    obtain ⟨n1, h1⟩ := hx v (List.mem_cons_self ..) cs hv
    obtain ⟨n2, h2⟩ := ih (fun x hx' => hx x (List.mem_cons_of_mem _ hx')) _ hl
    refine ⟨n1 + n2, fun i hi => ?_⟩
    cases i with
    | zero => exact ⟨b, o, cs, rfl, hd, (hz trivial).1, (hz trivial).2, fun j hj => by simpa using hc j hj, RP.mono _ _ _ (by omega) h1⟩
    | succ i =>
      obtain ⟨b', o', cs', e, hd', ho', hf', hc', hr'⟩ := h2 i (by simpa using hi)
      injection e with e
      injection e with e1 e2
      subst e1
      subst e2
      refine ⟨b, o, cs', rfl, hd, (hz trivial).1, hf', fun j hj => ?_, RP.mono _ _ _ (by omega) hr'⟩
      rw [← hc' j hj]
      congr 2
      omega
theorem RV.rp {W : World} {D : Nat → Prop} (v : V) : ∀ cs, RV W D True v cs → ∃ n, RP W D n cs := by
  induction v using V.ind with
  | h k n s l r ih =>
    intro cs h
    unfold RV at h
    obtain ⟨h1, h2, h3, h4, h5, A, c, rfl, hlc, h7⟩ := h
    obtain ⟨m, hm⟩ := RVs.rp_of l ih A h7
    refine ⟨m + 1, ?_⟩
    unfold RP
    exact ⟨k, n, r, s, A, l.length, c, rfl, h5, hlc, hm⟩
/-- What 'Over' does: only blocks of D are written, and what was pruned stays so. -/
def OverW (D : Nat → Prop) (w w' : World) : Prop := Fr D w w' ∧ ∀ n cs, RP w D n cs → RP w' D n cs
theorem OverW.trans {D : Nat → Prop} {a b c : World} (h : OverW D a b) (k : OverW D b c) : OverW D a c := ⟨h.1.trans k.1, fun n cs x => k.2 n cs (h.2 n cs x)⟩
theorem OverW.refl (D : Nat → Prop) (a : World) : OverW D a a := ⟨Fr.refl _ _, fun _ _ h => h⟩
theorem OverW.alloc {D : Nat → Prop} (w : World) (o : Obj) : OverW D w (w.alloc o) := ⟨(Fr.refl _ _).alloc _, fun n cs h => h.keep (fun b _ hb => ((Fr.refl none_ w).alloc o).block b hb (fun h => h)) n cs⟩
def Over_ (D : Nat → Prop) (w : World) (e : Ending) (w' : World) : Prop := (∃ v, e = .returned v) ∧ OverW D w w'
def OverRel (D : Nat → Prop) (w0 w : World) (cs : List Value) (ln : Nat) (g : Nat) (s2 : Value) (wr : World) : Prop :=
  ∃ j : Nat, j + g = ln ∧ s2 = .int .i64 (j : Int) ∧ Blk wr w.heap.size cs 37 ∧ OverW D w0 wr
set_option maxRecDepth 100000 in
set_option maxHeartbeats 2000000 in
theorem over_any (D : Nat → Prop) : ∀ (n : Nat) (cs : List Value) (w : World), RP w D n cs → (∀ b, D b → b < w.heap.size) → Calls Try.prog 22 #[.agg cs.toArray] w (Over_ D w) := by
  intro n
  induction n with
  | zero => intro cs w h _; exact h.elim
  | succ n ih =>
    intro cs w h hD
    have h0 := h
    unfold RP at h
    obtain ⟨k, m, r, s, A, ln, c, rfl, h1, h2, _⟩ := h
    have HH := Lib.hid h0; clear h0
    have HD := Lib.hid hD; clear hD
    have IH := Lib.hid ih; clear ih
    have hb0 : ∀ W : World, (Instr.build 37 #[(0, .int .u8 99)]).run Try.prog W = .ok (.agg #[.int .u8 99, .int .i64 0, .string ⟨#[]⟩, .slice none 0 0, .int .i64 0]) W := fun W => by kernel_rfl
    have hb := Blk.new w [.int .u8 k, .int .i64 m, .string s, .slice A ln c, .int .i64 r] 37
    have HB := Lib.hid hb; clear hb
    go_enter Try.func22, Try.ntmps22
    go_wp2
    go_loopg [2] (ln) (fun g s2 wr => OverRel D w w [.int .u8 k, .int .i64 m, .string s, .slice A ln c, .int .i64 r] ln g s2 wr)
    case atStart => exact ⟨0, by omega, rfl, HB.out, OverW.alloc _ _⟩
    case round =>
      obtain ⟨j, hjg, rfl, hbk, hf⟩ := hrel
      have x3 : wr.cell? ⟨w.heap.size, 3, none⟩ = some (.slice A ln c) := hbk.cell 3
      have HBK := Lib.hid hbk; clear hbk
      have HF := Lib.hid hf; clear hf
      by_cases hlt : j < ln
      · have hp := HF.out.2 _ _ HH.out
        obtain ⟨b, o, cs', rfl, hd, ho, hfz, hc, hr⟩ := hp.elem j hlt
        have h5 := hr.five
        obtain ⟨y0, y1, y2, y3, y4, rfl⟩ : ∃ y0 y1 y2 y3 y4, cs' = [y0, y1, y2, y3, y4] := by
          match cs', h5 with
          | [a, b, c, d, e], _ => exact ⟨a, b, c, d, e, rfl⟩
        have c0 : wr.cell? ⟨b, o + j * 5, none⟩ = some y0 := by simpa using hc 0 (by omega)
        have c1 : wr.cell? ⟨b, o + j * 5 + 1, none⟩ = some y1 := by simpa using hc 1 (by omega)
        have c2 : wr.cell? ⟨b, o + j * 5 + 2, none⟩ = some y2 := by simpa using hc 2 (by omega)
        have c3 : wr.cell? ⟨b, o + j * 5 + 3, none⟩ = some y3 := by simpa using hc 3 (by omega)
        have c4 : wr.cell? ⟨b, o + j * 5 + 4, none⟩ = some y4 := by simpa using hc 4 (by omega)
        have hjb : (j : Int) < ln := by omega
        have HR := Lib.hid hr; clear hr
        have HC := Lib.hid hc; clear hc
        have HZ := Lib.hid hfz; clear hfz
        have HO := Lib.hid ho; clear ho
        have HDB := Lib.hid hd; clear hd
        clear hp h5
        go_wp2_with fail
        refine (IH.out _ wr HR.out (fun b hd => Nat.lt_of_lt_of_le (HD.out b hd) HF.out.1.size)).mono ?_
        rintro e w1 ⟨⟨ve, rfl⟩, hf1⟩
        have hbn : ¬ D w.heap.size := fun h => by have := HD.out _ h; omega
        have hbk1 := HBK.out.keep hf1.1 hbn
        have x3' : w1.cell? ⟨w.heap.size, 3, none⟩ = some (.slice (some ⟨b, o, none⟩) ln c) := hbk1.cell 3
        have ht1 : w1.there b (o + j * 5) 5 := by
          have hp := hf1.2 _ _ (HF.out.2 _ _ HH.out)
          obtain ⟨b', o', cs', e, _, _, hfz, hc, hr⟩ := hp.elem j hlt
          injection e with e; injection e with e1 e2
          subst e1; subst e2
          intro i hi
          have h5 := hr.five
          refine ⟨?_, hfz _⟩
          rw [hc i hi, List.getElem?_eq_getElem (show i < cs'.length by omega)]
          rfl
        have HT1 := Lib.hid ht1; clear ht1
        have HF1 := Lib.hid hf1
        have HBK1 := Lib.hid hbk1
        clear hf1 hbk1 x3 c0 c1 c2 c3 c4
        go_wp2_with (refine wpList_stop (.store 37 (.tmp 20) (.tmp 19)) rfl ?_)
        refine Stop.mk ?_
        refine wpList_store_mid rfl 37 (.tmp 20) (.tmp 19) rfl b (o + j * 5) z99.toArray rfl rfl HT1.out size_Value (by simpa using (show z99.all (·.oneCell') = true from rfl)) ?_
        have hw2 : OverW D w1 (w1.setCells b (o + j * 5) z99) := ⟨(Fr.refl D w1).setCells b _ _ (fun _ => HDB.out), fun n cs h => h.put b _ (by have := HO.out; omega) (fun i hi => (HT1.out i hi).1)⟩
        have hbk2 : Blk (w1.setCells b (o + j * 5) z99) w.heap.size [.int .u8 k, .int .i64 m, .string s, .slice (some ⟨b, o, none⟩) ln c, .int .i64 r] 37 := HBK1.out.keep hw2.1 (fun h => by have := HD.out _ h; omega)
        have hfin := HF.out.trans (HF1.out.trans hw2)
        have HFIN := Lib.hid hfin
        have HBK2 := Lib.hid hbk2
        clear hw2 hbk2 hfin x3'
        show wpList _ _ _ _ _ (w1.setCells b (o + j * 5) z99)
        generalize w1.setCells b (o + j * 5) z99 = w2 at HFIN HBK2 ⊢
        go_wp2
        go_roundg (gk - 1)
        case measure => omega
        case rel => exact ⟨j + 1, by omega, by go_num, HBK2.out, HFIN.out⟩
      · obtain rfl : j = ln := by omega
        clear hlt
        go_wp2
        refine bodyPost_ret (results_none rfl _ _ _) rfl ?_
        exact ⟨⟨_, rfl⟩, HF.out⟩
end Go.Proofs.Ytpgjbbefgacjkaa
