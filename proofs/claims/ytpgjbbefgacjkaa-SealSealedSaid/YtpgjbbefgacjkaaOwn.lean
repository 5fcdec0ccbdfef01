/- 'own', 'Own' of package value: the value itself, in memory of its own. -/
import Derived.Test.YtpgjbbefgacjkaaTakeL
namespace Go.Proofs.Ytpgjbbefgacjkaa
open Go.RowKit
set_option linter.unusedSimpArgs false
set_option linter.unusedVariables false

/-- The value handed back, in blocks that are new; z: they may be written. -/
def OwnOut (w : World) (v : V) (e : Ending) (w' : World) : Prop := ∃ A c, e = .returned (v.agg A c) ∧ RV w' (w.heap.size ≤ ·) True v (v.cells A c) ∧ Fr none_ w w'

def OwnAll (l : List V) : Prop := ∀ x, x ∈ l → ∀ (D : Nat → Prop) (z : Prop) (A : Option Addr) (c : Nat) (w : World), RV w D z x (x.cells A c) → (∀ b, D b → b < w.heap.size) → Calls Try.prog 89 #[x.agg A c] w (OwnOut w x)

def OwnRel (w : World) (l : List V) (box : List Value) (k : Nat) (i : Value) (wr : World) : Prop :=
  ∃ (j : Nat) (cs rest : List Value), j + k = l.length ∧ i = .int .i64 (j : Int) ∧ cs.length = j * 5 ∧ rest.length = k * 5 ∧ RVL wr (w.heap.size + 1 + 1 < ·) True (l.take j) cs ∧ Blk wr (w.heap.size + 1 + 1) (cs ++ rest) 37 ∧ Blk wr w.heap.size box 37 ∧ Blk wr (w.heap.size + 1) [.int .u8 0, .int .i64 0, .string ⟨#[]⟩, .slice none 0 0, .int .i64 0] 37 ∧ Fr none_ w wr

theorem info_Value : (Try.prog.info? 37).map (fun i => (i.zero, i.size, i.bytes)) = some (some (.agg #[.int .u8 0, .int .i64 0, .string ⟨#[]⟩, .slice none 0 0, .int .i64 0]), 5, 64) := by kernel_rfl
theorem size_Value : (Try.prog.info? 37).map (·.size) = some 5 := by kernel_rfl
theorem make_Values (n : Nat) (hn : n ≤ 2199023255552) (W : World) : ∃ cs : List Value, cs.length = n * 5 ∧ (Instr.makeSlice 35 (.int .i64 (n : Int)) (.int .i64 (n : Int))).run Try.prog W = .ok (.slice (some ⟨W.heap.size, 0, none⟩) n n) (W.alloc (.cells cs.toArray 37)) := by
  obtain ⟨i, hi, hz0, hz1, hz2⟩ := info_parts info_Value
  refine ⟨(madeCells (Value.agg #[.int .u8 0, .int .i64 0, .string ⟨#[]⟩, .slice none 0 0, .int .i64 0]).cells (n * 5)).toList, by simp [size_madeCells], ?_⟩
  have := run_make (P := Try.prog) W 35 37 i _ Try.underlying35 hi hz0 .i64 .i64 n n (by omega) (by omega) (by rw [hz2]; omega) (by omega)
  rw [hz1] at this
  simpa using this

set_option maxRecDepth 100000 in
set_option maxHeartbeats 2000000 in
theorem own_w0 (k n r : Int) (s : ByteArray) (A : Option Addr) (c : Nat) (w : World) (h1 : U8 k) (h2 : I64 n) (h3 : I64 r) (h4 : s.size ≤ 140737488351232) :
    Calls Try.prog 89 #[.agg #[.int .u8 k, .int .i64 n, .string s, .slice A 0 c, .int .i64 r]] w (OwnOut w (.mk k n s [] r)) := by
  have H1 := Lib.hid h1; clear h1
  have H2 := Lib.hid h2; clear h2
  have H3 := Lib.hid h3; clear h3
  go_enter Try.func89, Try.ntmps89
  go_wp2
  refine ret_blk (g := w.heap.size + 1) (cs := [.int .u8 k, .int .i64 n, .string s, .slice none 0 0, .int .i64 r]) (t := 37) rfl rfl ?_ Try.underlying37 rfl size_Value rfl ?_
  · have h := Blk.new (w.alloc (.cells #[.int .u8 k, .int .i64 n, .string s, .slice none 0 0, .int .i64 r] 37)) [.int .u8 k, .int .i64 n, .string s, .slice none 0 0, .int .i64 r] 37
    rw [World.size_alloc] at h
    exact h
  · refine ⟨none, 0, rfl, ?_, ((Fr.refl none_ w).alloc _).alloc _⟩
    unfold RV
    exact ⟨H1.out, H2.out, H3.out, h4, by simp, none, 0, rfl, Nat.le_refl _, by unfold RVs; trivial⟩
theorem seg_own (cs rest c : List Value) (n : Nat) (h : cs.length = n) (hc : c.length = 5) : (cs ++ rest).take n ++ c ++ (cs ++ rest).drop (n + c.length) = cs ++ c ++ rest.drop 5 := by
  subst h
  rw [List.take_left, hc, List.drop_append, List.drop_eq_nil_of_le (by omega), List.nil_append]
  congr 2
  omega
/-- One round of the loop, told of worlds alone. -/
theorem own_step (w wr w1 : World) (l : List V) (box : List Value) (j gk : Nat) (cs rest : List Value) (o : Obj) (A2 : Option Addr) (c2 : Nat) (hlt : j < l.length) (hjk : j + gk = l.length) (hcs : cs.length = j * 5) (hrest : rest.length = gk * 5)
    (hvl : RVL wr (w.heap.size + 1 + 1 < ·) True (l.take j) cs) (hbg : Blk wr (w.heap.size + 1 + 1) (cs ++ rest) 37) (hbx : Blk wr w.heap.size box 37)
    (hbr : Blk wr (w.heap.size + 1) [.int .u8 0, .int .i64 0, .string ⟨#[]⟩, .slice none 0 0, .int .i64 0] 37) (hfr : Fr none_ w wr)
    (hv2 : RV w1 ((wr.alloc o).heap.size ≤ ·) True l[j] (l[j].cells A2 c2)) (hf2 : Fr none_ (wr.alloc o) w1) {i : Value} (hi : i = .int .i64 ((j + 1 : Nat) : Int)) {W : World} (hW : W = w1.setCells (w.heap.size + 1 + 1) (j * 5) (l[j].cells A2 c2)) :
    OwnRel w l box (gk - 1) i W := by
  subst hW
  have hsz : w.heap.size + 1 + 1 < wr.heap.size := hbg.lt
  have hsz2 : (wr.alloc o).heap.size = wr.heap.size + 1 := by simp
  have hfw := (hfr.alloc o).trans' hf2 (fun _ _ h => h)
  have hst : Fr (· = w.heap.size + 1 + 1) w1 (w1.setCells (w.heap.size + 1 + 1) (j * 5) (l[j].cells A2 c2)) := (Fr.refl _ w1).setCells _ _ _ (fun _ => rfl)
  have hbg1 := (hbg.alloc o).keep hf2 (fun h => h)
  refine ⟨j + 1, cs ++ l[j].cells A2 c2, rest.drop 5, by omega, hi, ?_, ?_, ?_, ?_, ?_, ?_, ?_⟩
  · rw [List.length_append, hcs]; show j * 5 + 5 = _; omega
  · rw [List.length_drop, hrest]; omega
  · rw [List.take_succ_eq_append_getElem hlt]
    refine RVL.snoc (RVL.fr hst ?_ (RVL.fr hf2 ?_ (RVL.fr ((Fr.refl none_ wr).alloc o) ?_ hvl))) (RV.mono ?_ (RV.fr hst ?_ hv2))
    · intro b hb e; omega
    · intro b hb e; exact e
    · intro b hb e; exact e
    · intro b hb; omega
    · intro b hb e; omega
  · have h := hbg1.setCells (j * 5) (l[j].cells A2 c2) (by rw [List.length_append, hcs, hrest]; show j * 5 + 5 ≤ _; omega)
    rwa [seg_own cs rest (l[j].cells A2 c2) (j * 5) hcs rfl] at h
  · exact ((hbx.alloc o).keep hf2 (fun h => h)).keep hst (by omega)
  · exact ((hbr.alloc o).keep hf2 (fun h => h)).keep hst (by omega)
  · exact hfw.setCells _ _ _ (fun h => by omega)

set_option maxRecDepth 100000 in
set_option maxHeartbeats 600000 in
theorem own_w (D : Nat → Prop) (z : Prop) (k n r : Int) (s : ByteArray) (l : List V) (A : Option Addr) (c : Nat) (w : World) (h1 : U8 k) (h2 : I64 n) (h3 : I64 r) (h4 : s.size ≤ 140737488351232) (hl0 : 0 < l.length) (hlb : l.length ≤ 2199023255552)
    (hx : OwnAll l) (hD : ∀ b, D b → b < w.heap.size) (hs : RVs w D z l A) :
    Calls Try.prog 89 #[.agg #[.int .u8 k, .int .i64 n, .string s, .slice A l.length c, .int .i64 r]] w (OwnOut w (.mk k n s l r)) := by
  have H1 := Lib.hid h1; clear h1
  have H2 := Lib.hid h2; clear h2
  have H3 := Lib.hid h3; clear h3
  have HX := Lib.hid hx; clear hx
  have HD := Lib.hid hD; clear hD
  have HS := Lib.hid hs; clear hs
  have d0 : ((l.length : Int) == 0) = false := by rw [beq_eq_false_iff_ne]; omega
  obtain ⟨mc, hmc, hmk⟩ := make_Values l.length hlb ((w.alloc (.cells #[.int .u8 k, .int .i64 n, .string s, .slice A l.length c, .int .i64 r] 37)).alloc (.cells #[.int .u8 0, .int .i64 0, .string ⟨#[]⟩, .slice none 0 0, .int .i64 0] 37))
  have HMC := Lib.hid hmc; clear hmc
  have hb2 : l.length ≤ 9223372036854775807 := by omega
  go_enter Try.func89, Try.ntmps89
  go_wp2
  go_loopg [19] (l.length) (fun k' i wr => OwnRel w l [.int .u8 k, .int .i64 n, .string s, .slice A l.length c, .int .i64 r] k' i wr)
  case atStart =>
    refine ⟨0, [], mc, by omega, rfl, by simp, HMC.out, by unfold RVL; rfl, ?_, ?_, ?_, ((Fr.refl none_ w).alloc _).alloc _ |>.alloc _⟩
    · have h := Blk.new ((w.alloc (.cells #[.int .u8 k, .int .i64 n, .string s, .slice A l.length c, .int .i64 r] 37)).alloc (.cells #[.int .u8 0, .int .i64 0, .string ⟨#[]⟩, .slice none 0 0, .int .i64 0] 37)) mc 37
      rw [World.size_alloc, World.size_alloc] at h
      exact h
    · exact ((Blk.new w [.int .u8 k, .int .i64 n, .string s, .slice A l.length c, .int .i64 r] 37).alloc _).alloc _
    · have h := Blk.new (w.alloc (.cells #[.int .u8 k, .int .i64 n, .string s, .slice A l.length c, .int .i64 r] 37)) [.int .u8 0, .int .i64 0, .string ⟨#[]⟩, .slice none 0 0, .int .i64 0] 37
      rw [World.size_alloc] at h
      exact h.alloc _
  case round =>
    obtain ⟨j, cs, rest, hjk, rfl, hcs, hrest, hvl, hbg, hbx, hbr, hfr⟩ := hrel
    have HVL := Lib.hid hvl; clear hvl
    have HBG := Lib.hid hbg; clear hbg
    have HBX := Lib.hid hbx; clear hbx
    have HBR := Lib.hid hbr; clear hbr
    have HFR := Lib.hid hfr; clear hfr
    have HCS := Lib.hid hcs; clear hcs
    have HRS := Lib.hid hrest; clear hrest
    by_cases hlt : j < l.length
    · have hs' := HS.out.fr HFR.out (fun _ _ h => h)
      obtain ⟨b1, o1, A1, c1', he, hd1, e0, e1, e2, e3, e4, hv⟩ := hs'.elem hlt
      subst he
      have HV := Lib.hid hv; clear hv
      clear hs' hd1
      have hjb : (j : Int) < l.length := by omega
      go_wp2_with fail
      refine (HX.out l[j] (List.getElem_mem _) D z A1 c1' _ (HV.out.fr ((Fr.refl none_ wr).alloc _) (fun _ _ h => h)) (fun b hd => by have := HD.out b hd; have := HFR.out.size; simp; omega)).mono ?_
      rintro e w1 ⟨A2, c2, rfl, hv2, hf2⟩
      have HV2 := Lib.hid hv2; clear hv2
      have HF2 := Lib.hid hf2; clear hf2
      have hbg1 := ((HBG.out.alloc (.cells #[.int .u8 l[j].k, .int .i64 l[j].n, .string l[j].s, .slice A1 l[j].l.length c1', .int .i64 l[j].r] 37)).keep HF2.out (fun h => h))
      have hln : j * 5 + 5 ≤ (cs ++ rest).length := by rw [List.length_append, HCS.out, HRS.out]; omega
      have HBG1 := Lib.hid hbg1; clear hbg1
      have HLN := Lib.hid hln; clear hln
      go_wp2_with (refine wpList_stop (.store 37 (.tmp 28) (.tmp 27)) rfl ?_)
      refine Stop.mk ?_
      refine wpList_store_blk (cs := cs ++ rest) (t := 37) rfl 37 (.tmp 28) (.tmp 27) rfl (w.heap.size + 1 + 1) (j * 5) (l[j].cells A2 c2) ?e1 ?e2 HBG1.out HLN.out size_Value rfl ?_
      case e1 => rfl
      case e2 => rfl
      go_wp2
      go_roundg (gk - 1)
      case measure => omega
      case rel =>
        refine own_step w wr w1 l _ j gk cs rest _ A2 c2 hlt hjk HCS.out HRS.out HVL.out HBG.out HBX.out HBR.out HFR.out HV2.out HF2.out (by go_num) rfl
    · obtain rfl : j = l.length := by omega
      have x0 : wr.cell? ⟨w.heap.size, 0, none⟩ = some (.int .u8 k) := HBX.out.cell 0
      have x1 : wr.cell? ⟨w.heap.size, 1, none⟩ = some (.int .i64 n) := HBX.out.cell 1
      have x2 : wr.cell? ⟨w.heap.size, 2, none⟩ = some (.string s) := HBX.out.cell 2
      have x3 : wr.cell? ⟨w.heap.size, 3, none⟩ = some (.slice A l.length c) := HBX.out.cell 3
      have x4 : wr.cell? ⟨w.heap.size, 4, none⟩ = some (.int .i64 r) := HBX.out.cell 4
      have xf := HBX.out.frozen 3
      have y0 : wr.cell? ⟨w.heap.size + 1, 0, none⟩ = some (.int .u8 0) := HBR.out.cell 0
      have y1 : wr.cell? ⟨w.heap.size + 1, 1, none⟩ = some (.int .i64 0) := HBR.out.cell 1
      have y2 : wr.cell? ⟨w.heap.size + 1, 2, none⟩ = some (.string ⟨#[]⟩) := HBR.out.cell 2
      have y3 : wr.cell? ⟨w.heap.size + 1, 3, none⟩ = some (.slice none 0 0) := HBR.out.cell 3
      have y4 : wr.cell? ⟨w.heap.size + 1, 4, none⟩ = some (.int .i64 0) := HBR.out.cell 4
      have yf := HBR.out.frozen
      have hbs : Blk (wr.setCell ⟨w.heap.size, 3, none⟩ (.slice (some ⟨w.heap.size + 1 + 1, 0, none⟩) l.length l.length)) (w.heap.size + 1) [.int .u8 0, .int .i64 0, .string ⟨#[]⟩, .slice none 0 0, .int .i64 0] 37 := HBR.out.other _ _ (by simp)
      have HBS := Lib.hid hbs; clear hbs
      go_wp2_with (refine wpList_store_blk rfl 37 (.tmp 2) (.tmp 32) rfl (w.heap.size + 1) 0 [.int .u8 k, .int .i64 n, .string s, .slice (some ⟨w.heap.size + 1 + 1, 0, none⟩) l.length l.length, .int .i64 r] rfl rfl HBS.out (by simp) size_Value rfl ?_)
      refine ret_blk (g := w.heap.size + 1) (cs := [.int .u8 k, .int .i64 n, .string s, .slice (some ⟨w.heap.size + 1 + 1, 0, none⟩) l.length l.length, .int .i64 r]) (t := 37) rfl rfl ?_ Try.underlying37 rfl size_Value rfl ?_
      · exact HBS.out.setCells 0 [.int .u8 k, .int .i64 n, .string s, .slice (some ⟨w.heap.size + 1 + 1, 0, none⟩) l.length l.length, .int .i64 r] (by simp)
      · have hf1 : Fr none_ w (wr.setCell ⟨w.heap.size, 3, none⟩ (.slice (some ⟨w.heap.size + 1 + 1, 0, none⟩) l.length l.length)) := HFR.out.setNew (by simp) 3 _
        have hf2 := hf1.setCells (w.heap.size + 1) 0 [.int .u8 k, .int .i64 n, .string s, .slice (some ⟨w.heap.size + 1 + 1, 0, none⟩) l.length l.length, .int .i64 r] (fun h => by omega)
        refine ⟨some ⟨w.heap.size + 1 + 1, 0, none⟩, l.length, rfl, ?_, hf2⟩
        have hg : gk = 0 := by omega
        subst hg
        have hrest : rest = [] := List.eq_nil_of_length_eq_zero (by rw [HRS.out])
        have hbg := HBG.out
        have hvl := HVL.out
        rw [hrest, List.append_nil] at hbg
        rw [List.take_length] at hvl
        have hbg2 : Blk ((wr.setCell ⟨w.heap.size, 3, none⟩ (.slice (some ⟨w.heap.size + 1 + 1, 0, none⟩) l.length l.length)).setCells (w.heap.size + 1) 0 [.int .u8 k, .int .i64 n, .string s, .slice (some ⟨w.heap.size + 1 + 1, 0, none⟩) l.length l.length, .int .i64 r]) (w.heap.size + 1 + 1) cs 37 := by
          unfold Blk
          rw [setCells_other _ _ _ _ _ (by omega)]
          exact hbg.other _ _ (by simp; omega)
        have hst : Fr (fun b => b = w.heap.size ∨ b = w.heap.size + 1) wr ((wr.setCell ⟨w.heap.size, 3, none⟩ (.slice (some ⟨w.heap.size + 1 + 1, 0, none⟩) l.length l.length)).setCells (w.heap.size + 1) 0 [.int .u8 k, .int .i64 n, .string s, .slice (some ⟨w.heap.size + 1 + 1, 0, none⟩) l.length l.length, .int .i64 r]) :=
          ((Fr.refl _ wr).setCell (fun _ => .inl rfl) _).setCells _ _ _ (fun _ => .inr rfl)
        have hvl2 := hvl.fr hst (fun b hb e => by omega)
        unfold RV
        refine ⟨H1.out, H2.out, H3.out, h4, hlb, some ⟨w.heap.size + 1 + 1, 0, none⟩, l.length, rfl, Nat.le_refl _, ?_⟩
        exact RVL.row (b := w.heap.size + 1 + 1) (by omega) (fun _ i => hbg2.frozen i) 0 (fun _ => rfl) (hvl2.mono (fun b hb => by omega)) (fun i hi => by rw [Nat.zero_add]; exact hbg2.cell i)

/-- **'own', at every value that is read.** -/
theorem own_any (v : V) : OwnAll [v] := by
  induction v using V.ind with
  | h k n s l r ih =>
    intro x hx D z A c w hv hD
    obtain rfl : x = .mk k n s l r := by simpa using hx
    obtain ⟨b1, b2, b3, b4, b5⟩ := hv.bounds
    have hs := hv.list.1
    by_cases hl : l = []
    · subst hl
      exact own_w0 k n r s A c w b1 b2 b3 b4
    · exact own_w D z k n r s l A c w b1 b2 b3 b4 (List.length_pos_iff.2 hl) b5 (fun y hy => ih y hy y (List.mem_singleton_self y)) hD hs
end Go.Proofs.Ytpgjbbefgacjkaa
