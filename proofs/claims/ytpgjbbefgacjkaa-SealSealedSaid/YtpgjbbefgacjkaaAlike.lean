/- 'Alike', 'Nothing' of the reference of layer 9: two values, field by field. -/
import Derived.Test.YtpgjbbefgacjkaaTakeL
import Derived.StillTailTactics
namespace Go.Proofs.Ytpgjbbefgacjkaa
open Go.RowKit
set_option linter.unusedSimpArgs false
set_option linter.unusedVariables false
set_option linter.unusedSectionVars false
mutual
def alikeV : V → V → Bool
  | .mk k n s l r, b => k == b.k && n == b.n && decide (s = b.s) && r == b.r && l.length == b.l.length && alikeL l b.l
def alikeL : List V → List V → Bool
  | [], _ => true
  | v :: l, m => match m with
    | [] => true
    | u :: m => alikeV v u && alikeL l m
end
theorem wpList_gen' {P : Program} {ops : Array Oper} {rest : List Oper} {a : Act} {w : World} {Q : Exit → Act → World → Prop} (h : ∀ W, W = w → wpList P ops Q rest a W) : wpList P ops Q rest a w := h w rfl
theorem alikeL_drop (l m : List V) (j : Nat) (h : j < l.length) (h' : j < m.length) : alikeL (l.drop j) (m.drop j) = (alikeV l[j] m[j] && alikeL (l.drop (j + 1)) (m.drop (j + 1))) := by
  rw [List.drop_eq_getElem_cons h, List.drop_eq_getElem_cons h']
  conv => lhs; unfold alikeL
theorem toList_inj (s t : ByteArray) : s.toList = t.toList ↔ s = t := by
  constructor
  · intro h
    rw [ByteArray.toList_eq, ByteArray.toList_eq] at h
    cases s; cases t
    simp at h
    simp [h]
  · rintro rfl; rfl
set_option maxRecDepth 100000 in
set_option maxHeartbeats 2000000 in
theorem alike_ne (a b : V) (Aa Ab : Option Addr) (ca cb : Nat) (w : World) (hne : ¬ (a.k = b.k ∧ a.n = b.n ∧ a.s = b.s ∧ a.r = b.r ∧ a.l.length = b.l.length)) :
    Calls Try.prog 20 #[a.agg Aa ca, b.agg Ab cb] w fun e w' => e = .returned (.bool false) ∧ Fr none_ w w' := by
  have HNE := Lib.hid hne; clear hne
  go_enter Try.func20, Try.ntmps20
  go_wp2
  all_goals first
    | (go_ret; exact ⟨rfl, ((Fr.refl _ _).alloc _).alloc _⟩)
    | (exfalso
       have h := HNE.out
       apply h
       refine ⟨by assumption, by assumption, (toList_inj _ _).1 (by assumption), by assumption, ?_⟩
       have hl : ((a.l.length : Int) != (b.l.length : Int)) = false := by assumption
       simp at hl
       omega)
def AlikeAll (l : List V) : Prop := ∀ x, x ∈ l → ∀ (b : V) (D D' : Nat → Prop) (z z' : Prop) (Aa Ab : Option Addr) (ca cb : Nat) (w : World), RV w D z x (x.cells Aa ca) → RV w D' z' b (b.cells Ab cb) → (∀ i, D i → i < w.heap.size) → (∀ i, D' i → i < w.heap.size) → Calls Try.prog 20 #[x.agg Aa ca, b.agg Ab cb] w (Bool_ w (alikeV x b))
def AlikeRel (w : World) (c1 c2 : List Value) (l m : List V) (g : Nat) (s5 : Value) (wr : World) : Prop :=
  ∃ j : Nat, j + g = l.length ∧ s5 = .int .i64 (j : Int) ∧ alikeL (l.drop j) (m.drop j) = alikeL l m ∧ Blk wr w.heap.size c1 37 ∧ Blk wr (w.heap.size + 1) c2 37 ∧ Fr none_ w wr
set_option maxRecDepth 100000 in
set_option maxHeartbeats 4000000 in
theorem alike_eq (D D' : Nat → Prop) (z z' : Prop) (k n r : Int) (s : ByteArray) (l m : List V) (Aa Ab : Option Addr) (ca cb : Nat) (w : World) (hlen : m.length = l.length) (hlb : l.length ≤ 2199023255552) (hx : AlikeAll l) (hD : ∀ b, D b → b < w.heap.size) (hD' : ∀ b, D' b → b < w.heap.size) (hs : RVs w D z l Aa) (hs' : RVs w D' z' m Ab) :
    Calls Try.prog 20 #[.agg #[.int .u8 k, .int .i64 n, .string s, .slice Aa l.length ca, .int .i64 r], .agg #[.int .u8 k, .int .i64 n, .string s, .slice Ab l.length cb, .int .i64 r]] w (Bool_ w (alikeL l m)) := by
  have HX := Lib.hid hx; clear hx
  have HD := Lib.hid hD; clear hD
  have HDD := Lib.hid hD'; clear hD'
  have HS := Lib.hid hs; clear hs
  have HSS := Lib.hid hs'; clear hs'
  have HLEN := Lib.hid hlen; clear hlen
  have hb1 := (Blk.new w [.int .u8 k, .int .i64 n, .string s, .slice Aa l.length ca, .int .i64 r] 37).alloc (.cells #[.int .u8 k, .int .i64 n, .string s, .slice Ab l.length cb, .int .i64 r] 37)
  have hb2 := Blk.new (w.alloc (.cells #[.int .u8 k, .int .i64 n, .string s, .slice Aa l.length ca, .int .i64 r] 37)) [.int .u8 k, .int .i64 n, .string s, .slice Ab l.length cb, .int .i64 r] 37
  rw [World.size_alloc] at hb2
  have HB1 := Lib.hid hb1; clear hb1
  have HB2 := Lib.hid hb2; clear hb2
  go_enter Try.func20, Try.ntmps20
  go_wp2
  go_loopg [5] (l.length) (fun g s5 wr => AlikeRel w [.int .u8 k, .int .i64 n, .string s, .slice Aa l.length ca, .int .i64 r] [.int .u8 k, .int .i64 n, .string s, .slice Ab l.length cb, .int .i64 r] l m g s5 wr)
  case atStart => exact ⟨0, by omega, rfl, rfl, HB1.out, HB2.out, ((Fr.refl _ _).alloc _).alloc _⟩
  case round =>
    obtain ⟨j, hjg, rfl, hr, hbk, hbk2, hf⟩ := hrel
    have x3 : wr.cell? ⟨w.heap.size, 3, none⟩ = some (.slice Aa l.length ca) := hbk.cell 3
    have y3 : wr.cell? ⟨w.heap.size + 1, 3, none⟩ = some (.slice Ab l.length cb) := hbk2.cell 3
    have HRR := Lib.hid hr; clear hr
    have HBK := Lib.hid hbk; clear hbk
    have HBK2 := Lib.hid hbk2; clear hbk2
    have HF := Lib.hid hf; clear hf
    by_cases hlt : j < l.length
    · have hs1 := HS.out.fr HF.out (fun _ _ h => h)
      have hs2 := HSS.out.fr HF.out (fun _ _ h => h)
      have hlt2 : j < m.length := by rw [HLEN.out]; exact hlt
      obtain ⟨b1, o1, A1, c1', he, hd1, e0, e1, e2, e3, e4, hv⟩ := hs1.elem hlt
      obtain ⟨b2, o2, A2, c2', he2, hd2, f0, f1, f2, f3, f4, hv2⟩ := hs2.elem hlt2
      subst he
      subst he2
      have HV := Lib.hid hv; clear hv
      have HV2 := Lib.hid hv2; clear hv2
      have HLT2 := Lib.hid hlt2
      clear hs1 hs2 hd1 hd2
      have hjb : (j : Int) < l.length := by omega
      have hjb2 : (j : Int) < m.length := by omega
      go_wp2
      go_still_tail 10, (by kernel_rfl)
      change wpList _ _ _ _ _ wr.drew
      refine Go.Proofs.Ytpgjbbefgacjkaa.wpList_gen' ?_
      intro W1 hW
      have hf1 : Fr none_ wr W1 := by rw [hW]; exact (Fr.refl _ _).drew
      clear hW x3 y3 e0 e1 e2 e3 e4 f0 f1 f2 f3 f4
      have HF1 := Lib.hid hf1; clear hf1
      go_wp2_with fail
      refine (HX.out l[j] (List.getElem_mem _) m[j] D D' z z' A1 A2 c1' c2' W1 (HV.out.fr HF1.out (fun _ _ h => h)) (HV2.out.fr HF1.out (fun _ _ h => h)) (fun b hd => Nat.lt_of_lt_of_le (HD.out b hd) (HF.out.trans HF1.out).size) (fun b hd => Nat.lt_of_lt_of_le (HDD.out b hd) (HF.out.trans HF1.out).size)).mono ?_
      rintro e w1 ⟨rfl, hf2⟩
      have hff := HF1.out.trans hf2
      have hbk1 := HBK.out.keep hff (fun h => h)
      have hbk2 := HBK2.out.keep hff (fun h => h)
      have hfw := HF.out.trans hff
      have HC1 := Lib.hid hbk1; clear hbk1
      have HC2 := Lib.hid hbk2; clear hbk2
      have HFW := Lib.hid hfw; clear hfw hff hf2
      have hr : (alikeV l[j] m[j] && alikeL (l.drop (j + 1)) (m.drop (j + 1))) = alikeL l m := by rw [← HRR.out]; exact (alikeL_drop l m j hlt HLT2.out).symm
      generalize alikeV l[j] m[j] = bb at hr ⊢
      cases bb with
      | false =>
        have HR2 := Lib.hid hr; clear hr
        go_wp2
        go_ret
        exact ⟨ret_bool (by rw [← HR2.out]; rfl), HFW.out⟩
      | true =>
        have HR2 := Lib.hid hr; clear hr
        go_wp2
        go_roundg (gk - 1)
        case measure => omega
        case rel => exact ⟨j + 1, by omega, by go_num, by rw [← HR2.out]; rfl, HC1.out, HC2.out, HFW.out⟩
    · obtain rfl : j = l.length := by omega
      have hr := HRR.out
      rw [List.drop_length] at hr
      have HR2 := Lib.hid hr; clear hr
      clear hlt
      go_wp2
      go_ret
      exact ⟨ret_bool (by rw [← HR2.out]; rfl), HF.out⟩
theorem alike_any (v : V) : AlikeAll [v] := by
  induction v using V.ind with
  | h k n s l r ih =>
    intro x hx b D D' z z' Aa Ab ca cb w hv hb hD hD'
    obtain rfl : x = .mk k n s l r := by simpa using hx
    by_cases hh : (V.mk k n s l r).k = b.k ∧ (V.mk k n s l r).n = b.n ∧ (V.mk k n s l r).s = b.s ∧ (V.mk k n s l r).r = b.r ∧ (V.mk k n s l r).l.length = b.l.length
    · obtain ⟨h1, h2, h3, h4, h5⟩ := hh
      cases b with
      | mk k' n' s' m r' =>
        change k = k' at h1
        change n = n' at h2
        change s = s' at h3
        change r = r' at h4
        change l.length = m.length at h5
        subst h1; subst h2; subst h3; subst h4
        have e : alikeV (.mk k n s l r) (.mk k n s m r) = alikeL l m := by
          unfold alikeV
          simp [V.k, V.n, V.s, V.r, V.l, h5]
        rw [e]
        have := alike_eq D D' z z' k n r s l m Aa Ab ca cb w h5.symm hv.bounds.2.2.2.2 (fun y hy => ih y hy y (List.mem_singleton_self y)) hD hD' hv.list.1 hb.list.1
        show Calls Try.prog _ #[.agg #[.int .u8 k, .int .i64 n, .string s, .slice Aa l.length ca, .int .i64 r], .agg #[.int .u8 k, .int .i64 n, .string s, .slice Ab m.length cb, .int .i64 r]] w _
        rw [← h5]
        exact this
    · have e : alikeV (.mk k n s l r) b = false := by
        rw [Bool.eq_false_iff]
        intro h
        unfold alikeV at h
        simp only [Bool.and_eq_true, beq_iff_eq, decide_eq_true_eq] at h
        obtain ⟨⟨⟨⟨⟨h1, h2⟩, h3⟩, h4⟩, h5⟩, _⟩ := h
        exact hh ⟨h1, h2, h3, h4, h5⟩
      rw [e]
      exact alike_ne _ b Aa Ab ca cb w hh
end Go.Proofs.Ytpgjbbefgacjkaa
