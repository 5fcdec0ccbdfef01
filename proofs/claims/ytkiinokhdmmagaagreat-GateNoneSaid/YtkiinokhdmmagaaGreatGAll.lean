/- Joined texts: XRoom, XAlike, XOpenV, YtkiinokhdmmagaaGreatone9, YtkiinokhdmmagaaGreatoneP, YtkiinokhdmmagaaGreatoneG. -/
import Derived.Test.YtkiinokhdmmagaaGreatTakeL
import Derived.StillTailTactics
import Derived.Test.YtkiinokhdmmagaaGreatBase
import Derived.ChangeArms
import Derived.ChangeOld
import Derived.SizedLaws
import Derived.Deep.Slices
import Derived.Test.YtkiinokhdmmagaaGreatOwn2
import Derived.Test.YtkiinokhdmmagaaGreatMark
import Derived.RangeFuncNested
import Derived.RangeFuncBound
import Derived.RangeFuncCalls
import Derived.RangeFuncLeaves
import Derived.Shelf.Abstract
import Derived.Shelf.RegionOpen
import Derived.WalkKit
import Derived.OwnWalkIn
import Derived.TacticsInMore
import Derived.LoopNIn
import Derived.LoopIn
import Derived.Maps.OwnIn
import Derived.WalkMore
/- 'Great' of the reference of layer 9: how much room a value takes. -/
namespace Go.Proofs.YtkiinokhdmmagaaGreat
open Go.RowKit
set_option linter.unusedSimpArgs false
set_option linter.unusedVariables false
set_option linter.unusedSectionVars false
mutual
def roomV : V → Int → Int
  | .mk k n s l r, left => if left < 0 then -1 else roomL l (left - 1 - (s.size : Int) / 64)
def roomL : List V → Int → Int
  | [], left => left
  | v :: l, left => if 0 ≤ left then roomL l (roomV v left) else left
end
def greatB (v : V) : Bool := decide (roomV v 20000 < 0)
def RoomB (n : Int) : Prop := -4398046511104 ≤ n ∧ n ≤ 20000
theorem roomL_neg (l : List V) (left : Int) (h : left < 0) : roomL l left = left := by
  cases l with
  | nil => rfl
  | cons v l => unfold roomL; rw [if_neg (by omega)]
theorem roomL_drop (l : List V) (j : Nat) (h : j < l.length) (left : Int) (h0 : 0 ≤ left) : roomL (l.drop j) left = roomL (l.drop (j + 1)) (roomV l[j] left) := by
  rw [List.drop_eq_getElem_cons h]
  show (if 0 ≤ left then _ else _) = _
  rw [if_pos h0]
theorem roomL_B (l : List V) (hx : ∀ x, x ∈ l → ∀ n, RoomB n → RoomB (roomV x n)) : ∀ n, RoomB n → RoomB (roomL l n) := by
  induction l with
  | nil => intro n h; exact h
  | cons v l ih =>
    intro n h
    unfold roomL
    split
    · exact ih (fun x hx' => hx x (List.mem_cons_of_mem _ hx')) _ (hx v (List.mem_cons_self ..) n h)
    · exact h
theorem roomV_B {w : World} {D : Nat → Prop} {z : Prop} (v : V) : ∀ cs, RV w D z v cs → ∀ n, RoomB n → RoomB (roomV v n) := by
  induction v using V.ind with
  | h k n s l r ih =>
    intro cs hv m hm
    have hsz := hv.bounds.2.2.2.1
    obtain ⟨A0, c0, _, _, hs⟩ := hv.form
    unfold roomV
    split
    · unfold RoomB; omega
    · refine roomL_B l (fun x hx n hn => ?_) _ ?_
      · obtain ⟨i, hi, rfl⟩ := List.mem_iff_getElem.1 hx
        obtain ⟨b, o, cs', _, _, _, _, hv'⟩ := RVs.at_ l A0 i hi hs
        exact ih _ (List.getElem_mem _) cs' hv' n hn
      · have h1 : s.size ≤ 140737488351232 := hsz
        have := hm.2
        unfold RoomB
        omega
def RoomAll (D : Nat → Prop) (z : Prop) (l : List V) : Prop := ∀ x, x ∈ l → ∀ (A : Option Addr) (c : Nat) (n : Int) (w : World), RV w D z x (x.cells A c) → (∀ b, D b → b < w.heap.size) → RoomB n → (Calls Tryz.prog 28 #[x.agg A c, .int .i64 n] w fun e w' => e = .returned (.int .i64 (roomV x n)) ∧ Fr none_ w w') ∧ RoomB (roomV x n)
def RoomRel (w : World) (cs : List Value) (l : List V) (n0 : Int) (g : Nat) (s1 s5 : Value) (wr : World) : Prop :=
  ∃ (j : Nat) (n : Int), j + g = l.length ∧ s5 = .int .i64 (j : Int) ∧ s1 = .int .i64 n ∧ RoomB n ∧ roomL (l.drop j) n = roomL l n0 ∧ Blk wr w.heap.size cs 28 ∧ Fr none_ w wr
set_option maxRecDepth 100000 in
set_option maxHeartbeats 2000000 in
theorem room_w (D : Nat → Prop) (z : Prop) (k n r : Int) (s : ByteArray) (l : List V) (A : Option Addr) (c : Nat) (left : Int) (w : World) (h4 : s.size ≤ 140737488351232) (hlb : l.length ≤ 2199023255552) (hx : RoomAll D z l) (hD : ∀ b, D b → b < w.heap.size) (hs : RVs w D z l A) (hl0 : 0 ≤ left) (hl1 : left ≤ 20000) :
    Calls Tryz.prog 28 #[.agg #[.int .u8 k, .int .i64 n, .string s, .slice A l.length c, .int .i64 r], .int .i64 left] w fun e w' => e = .returned (.int .i64 (roomL l (left - 1 - (s.size : Int) / 64))) ∧ Fr none_ w w' := by
  have HX := Lib.hid hx; clear hx
  have HD := Lib.hid hD; clear hD
  have HS := Lib.hid hs; clear hs
  have dl : decide (left < 0) = false := by simp; omega
  have hq0 : 0 ≤ (s.size : Int) / 64 := by omega
  have hq1 : (s.size : Int) / 64 ≤ 2199023255552 := by omega
  have hb := Blk.new w [.int .u8 k, .int .i64 n, .string s, .slice A l.length c, .int .i64 r] 28
  have HB := Lib.hid hb; clear hb
  go_enter Tryz.func28, Tryz.ntmps28
  go_wp2
  go_loopg [1, 5] (l.length) (fun g s1 s5 wr => RoomRel w [.int .u8 k, .int .i64 n, .string s, .slice A l.length c, .int .i64 r] l (left - 1 - (s.size : Int) / 64) g s1 s5 wr)
  case atStart => exact ⟨0, _, by omega, rfl, rfl, by unfold RoomB; omega, rfl, HB.out, (Fr.refl _ _).alloc _⟩
  case round =>
    obtain ⟨j, m, hjg, rfl, rfl, hB, hr, hbk, hf⟩ := hrel
    have x3 : wr.cell? ⟨w.heap.size, 3, none⟩ = some (.slice A l.length c) := hbk.cell 3
    have hbl := hbk.lt
    have HRR := Lib.hid hr; clear hr
    have HBK := Lib.hid hbk; clear hbk
    have HF := Lib.hid hf; clear hf
    have HBB := Lib.hid hB; clear hB
    by_cases hlt : j < l.length
    · by_cases hm : 0 ≤ m
      · have dm : decide (m ≥ 0) = true := by simpa using hm
        have hmu := HBB.out.2
        have hs' := HS.out.fr HF.out (fun _ _ h => h)
        obtain ⟨b1, o1, A1, c1', he, hd1, e0, e1, e2, e3, e4, hv⟩ := hs'.elem hlt
        subst he
        have HV := Lib.hid hv; clear hv
        clear hs' hd1
        have hjb : (j : Int) < l.length := by omega
        have hc := HX.out l[j] (List.getElem_mem _) A1 c1' m wr HV.out (fun b hd => Nat.lt_of_lt_of_le (HD.out b hd) HF.out.size) HBB.out
        have HC2 := Lib.hid hc.2
        have HC1 := Lib.hid hc.1; clear hc
        go_wp2_with fail
        refine HC1.out.mono ?_
        rintro e w1 ⟨rfl, hf1⟩
        have hbk1 := HBK.out.keep hf1 (fun h => h)
        have hff := HF.out.trans hf1
        have HBK1 := Lib.hid hbk1; clear hbk1
        have HFF := Lib.hid hff; clear hff hf1
        clear x3 e0 e1 e2 e3 e4
        go_wp2
        go_roundg (gk - 1)
        case measure => omega
        case rel => exact ⟨j + 1, roomV l[j] m, by omega, by go_num, rfl, HC2.out, by rw [← HRR.out, roomL_drop l j hlt m hm], HBK1.out, HFF.out⟩
      · have dm : decide (m ≥ 0) = false := by simp; omega
        have hr := HRR.out
        rw [roomL_neg _ _ (by omega)] at hr
        have HR2 := Lib.hid hr; clear hr
        go_wp2
        go_ret
        exact ⟨ret_int HR2.out, HF.out⟩
    · obtain rfl : j = l.length := by omega
      have hr := HRR.out
      rw [List.drop_length] at hr
      have HR2 := Lib.hid hr; clear hr
      clear hlt
      go_wp2
      go_ret
      exact ⟨ret_int HR2.out, HF.out⟩
set_option maxRecDepth 100000 in
set_option maxHeartbeats 1000000 in
theorem room_neg (k n r : Int) (s : ByteArray) (ln : Nat) (A : Option Addr) (c : Nat) (left : Int) (w : World) (hl : left < 0) :
    Calls Tryz.prog 28 #[.agg #[.int .u8 k, .int .i64 n, .string s, .slice A ln c, .int .i64 r], .int .i64 left] w fun e w' => e = .returned (.int .i64 (-1)) ∧ Fr none_ w w' := by
  have dl : decide (left < 0) = true := by simpa using hl
  go_enter Tryz.func28, Tryz.ntmps28
  go_wp2
  go_ret
  exact ⟨rfl, (Fr.refl _ _).alloc _⟩
theorem room_any (D : Nat → Prop) (z : Prop) (v : V) : RoomAll D z [v] := by
  induction v using V.ind with
  | h k n s l r ih =>
    intro x hx A c m w hv hD hB
    obtain rfl : x = .mk k n s l r := by simpa using hx
    obtain ⟨b1, b2, b3, b4, b5⟩ := hv.bounds
    have b4' : s.size ≤ 140737488351232 := b4
    have hs := hv.list.1
    have hall : RoomAll D z l := fun y hy => ih y hy y (List.mem_singleton_self y)
    have hbb := roomV_B (.mk k n s l r) _ hv m hB
    refine ⟨?_, hbb⟩
    by_cases hm : m < 0
    · have e : roomV (.mk k n s l r) m = -1 := by unfold roomV; rw [if_pos hm]
      rw [e]
      exact room_neg k n r s _ A c m w hm
    · have e : roomV (.mk k n s l r) m = roomL l (m - 1 - (s.size : Int) / 64) := by unfold roomV; rw [if_neg hm]
      rw [e]
      exact room_w D z k n r s l A c m w b4 b5 hall hD hs (by omega) hB.2
set_option maxRecDepth 100000 in
set_option maxHeartbeats 1000000 in
theorem great_any (D : Nat → Prop) (z : Prop) (v : V) (A : Option Addr) (c : Nat) (w : World) (hv : RV w D z v (v.cells A c)) (hD : ∀ b, D b → b < w.heap.size) :
    Calls Tryz.prog 5 #[v.agg A c] w (Bool_ w (greatB v)) := by
  have hb := Blk.new w (v.cells A c) 28
  have x0 : (w.alloc (.cells (v.cells A c).toArray 28)).cell? ⟨w.heap.size, 0, none⟩ = some (.int .u8 v.k) := hb.cell 0
  have hc := room_any D z v v (List.mem_singleton_self v) A c 20000 (w.alloc (.cells (v.cells A c).toArray 28)) (hv.fr ((Fr.refl none_ w).alloc _) (fun _ _ h => h)) (fun b hd => by have := hD b hd; simp; omega) (by unfold RoomB; omega)
  have HC := Lib.hid hc.1; clear hc hb hv hD x0
  go_enter Tryz.func5, Tryz.ntmps5
  go_wp2_with fail
  refine HC.out.mono ?_
  rintro e w1 ⟨rfl, hf⟩
  have HF := Lib.hid ((Fr.refl none_ w).alloc (.cells (v.cells A c).toArray 28) |>.trans hf); clear hf
  go_wp2
  go_ret
  exact ⟨rfl, HF.out⟩
end Go.Proofs.YtkiinokhdmmagaaGreat

/- 'Alike', 'Nothing' of the reference of layer 9: two values, field by field. -/
namespace Go.Proofs.YtkiinokhdmmagaaGreat
open Go.RowKit
set_option linter.unusedSimpArgs false
set_option linter.unusedVariables false
set_option linter.unusedSectionVars false
mutual
def alikeV : V → V → Bool
  | .mk k n s l r, b => k == b.k && n == b.n && decide (s = b.s) && r == b.r && l.length == b.l.length && alikeL l b.l
def alikeL : List V → List V → Bool
  | [], _ => true
  | v :: l, m => match m with
    | [] => true
    | u :: m => alikeV v u && alikeL l m
end
theorem wpList_gen' {P : Program} {ops : Array Oper} {rest : List Oper} {a : Act} {w : World} {Q : Exit → Act → World → Prop} (h : ∀ W, W = w → wpList P ops Q rest a W) : wpList P ops Q rest a w := h w rfl
theorem alikeL_drop (l m : List V) (j : Nat) (h : j < l.length) (h' : j < m.length) : alikeL (l.drop j) (m.drop j) = (alikeV l[j] m[j] && alikeL (l.drop (j + 1)) (m.drop (j + 1))) := by
  rw [List.drop_eq_getElem_cons h, List.drop_eq_getElem_cons h']
  conv => lhs; unfold alikeL
theorem toList_inj (s t : ByteArray) : s.toList = t.toList ↔ s = t := by
  constructor
  · intro h
    rw [ByteArray.toList_eq, ByteArray.toList_eq] at h
    cases s; cases t
    simp at h
    simp [h]
  · rintro rfl; rfl
set_option maxRecDepth 100000 in
set_option maxHeartbeats 2000000 in
theorem alike_ne (a b : V) (Aa Ab : Option Addr) (ca cb : Nat) (w : World) (hne : ¬ (a.k = b.k ∧ a.n = b.n ∧ a.s = b.s ∧ a.r = b.r ∧ a.l.length = b.l.length)) :
    Calls Tryz.prog 47 #[a.agg Aa ca, b.agg Ab cb] w fun e w' => e = .returned (.bool false) ∧ Fr none_ w w' := by
  have HNE := Lib.hid hne; clear hne
  go_enter Tryz.func47, Tryz.ntmps47
  go_wp2
  all_goals first
    | (go_ret; exact ⟨rfl, ((Fr.refl _ _).alloc _).alloc _⟩)
    | (exfalso
       have h := HNE.out
       apply h
       refine ⟨by assumption, by assumption, (toList_inj _ _).1 (by assumption), by assumption, ?_⟩
       have hl : ((a.l.length : Int) != (b.l.length : Int)) = false := by assumption
       simp at hl
       omega)
def AlikeAll (l : List V) : Prop := ∀ x, x ∈ l → ∀ (b : V) (D D' : Nat → Prop) (z z' : Prop) (Aa Ab : Option Addr) (ca cb : Nat) (w : World), RV w D z x (x.cells Aa ca) → RV w D' z' b (b.cells Ab cb) → (∀ i, D i → i < w.heap.size) → (∀ i, D' i → i < w.heap.size) → Calls Tryz.prog 47 #[x.agg Aa ca, b.agg Ab cb] w (Bool_ w (alikeV x b))
def AlikeRel (w : World) (c1 c2 : List Value) (l m : List V) (g : Nat) (s5 : Value) (wr : World) : Prop :=
  ∃ j : Nat, j + g = l.length ∧ s5 = .int .i64 (j : Int) ∧ alikeL (l.drop j) (m.drop j) = alikeL l m ∧ Blk wr w.heap.size c1 28 ∧ Blk wr (w.heap.size + 1) c2 28 ∧ Fr none_ w wr
set_option maxRecDepth 100000 in
set_option maxHeartbeats 4000000 in
theorem alike_eq (D D' : Nat → Prop) (z z' : Prop) (k n r : Int) (s : ByteArray) (l m : List V) (Aa Ab : Option Addr) (ca cb : Nat) (w : World) (hlen : m.length = l.length) (hlb : l.length ≤ 2199023255552) (hx : AlikeAll l) (hD : ∀ b, D b → b < w.heap.size) (hD' : ∀ b, D' b → b < w.heap.size) (hs : RVs w D z l Aa) (hs' : RVs w D' z' m Ab) :
    Calls Tryz.prog 47 #[.agg #[.int .u8 k, .int .i64 n, .string s, .slice Aa l.length ca, .int .i64 r], .agg #[.int .u8 k, .int .i64 n, .string s, .slice Ab l.length cb, .int .i64 r]] w (Bool_ w (alikeL l m)) := by
  have HX := Lib.hid hx; clear hx
  have HD := Lib.hid hD; clear hD
  have HDD := Lib.hid hD'; clear hD'
  have HS := Lib.hid hs; clear hs
  have HSS := Lib.hid hs'; clear hs'
  have HLEN := Lib.hid hlen; clear hlen
  have hb1 := (Blk.new w [.int .u8 k, .int .i64 n, .string s, .slice Aa l.length ca, .int .i64 r] 28).alloc (.cells #[.int .u8 k, .int .i64 n, .string s, .slice Ab l.length cb, .int .i64 r] 28)
  have hb2 := Blk.new (w.alloc (.cells #[.int .u8 k, .int .i64 n, .string s, .slice Aa l.length ca, .int .i64 r] 28)) [.int .u8 k, .int .i64 n, .string s, .slice Ab l.length cb, .int .i64 r] 28
  rw [World.size_alloc] at hb2
  have HB1 := Lib.hid hb1; clear hb1
  have HB2 := Lib.hid hb2; clear hb2
  go_enter Tryz.func47, Tryz.ntmps47
  go_wp2
  go_loopg [5] (l.length) (fun g s5 wr => AlikeRel w [.int .u8 k, .int .i64 n, .string s, .slice Aa l.length ca, .int .i64 r] [.int .u8 k, .int .i64 n, .string s, .slice Ab l.length cb, .int .i64 r] l m g s5 wr)
  case atStart => exact ⟨0, by omega, rfl, rfl, HB1.out, HB2.out, ((Fr.refl _ _).alloc _).alloc _⟩
  case round =>
    obtain ⟨j, hjg, rfl, hr, hbk, hbk2, hf⟩ := hrel
    have x3 : wr.cell? ⟨w.heap.size, 3, none⟩ = some (.slice Aa l.length ca) := hbk.cell 3
    have y3 : wr.cell? ⟨w.heap.size + 1, 3, none⟩ = some (.slice Ab l.length cb) := hbk2.cell 3
    have HRR := Lib.hid hr; clear hr
    have HBK := Lib.hid hbk; clear hbk
    have HBK2 := Lib.hid hbk2; clear hbk2
    have HF := Lib.hid hf; clear hf
    by_cases hlt : j < l.length
    · have hs1 := HS.out.fr HF.out (fun _ _ h => h)
      have hs2 := HSS.out.fr HF.out (fun _ _ h => h)
      have hlt2 : j < m.length := by rw [HLEN.out]; exact hlt
      obtain ⟨b1, o1, A1, c1', he, hd1, e0, e1, e2, e3, e4, hv⟩ := hs1.elem hlt
      obtain ⟨b2, o2, A2, c2', he2, hd2, f0, f1, f2, f3, f4, hv2⟩ := hs2.elem hlt2
      subst he
      subst he2
      have HV := Lib.hid hv; clear hv
      have HV2 := Lib.hid hv2; clear hv2
      have HLT2 := Lib.hid hlt2
      clear hs1 hs2 hd1 hd2
      have hjb : (j : Int) < l.length := by omega
      have hjb2 : (j : Int) < m.length := by omega
      go_wp2
      go_still_tail 10, (by kernel_rfl)
      change wpList _ _ _ _ _ wr.drew
      refine Go.Proofs.YtkiinokhdmmagaaGreat.wpList_gen' ?_
      intro W1 hW
      have hf1 : Fr none_ wr W1 := by rw [hW]; exact (Fr.refl _ _).drew
      clear hW x3 y3 e0 e1 e2 e3 e4 f0 f1 f2 f3 f4
      have HF1 := Lib.hid hf1; clear hf1
      go_wp2_with fail
      refine (HX.out l[j] (List.getElem_mem _) m[j] D D' z z' A1 A2 c1' c2' W1 (HV.out.fr HF1.out (fun _ _ h => h)) (HV2.out.fr HF1.out (fun _ _ h => h)) (fun b hd => Nat.lt_of_lt_of_le (HD.out b hd) (HF.out.trans HF1.out).size) (fun b hd => Nat.lt_of_lt_of_le (HDD.out b hd) (HF.out.trans HF1.out).size)).mono ?_
      rintro e w1 ⟨rfl, hf2⟩
      have hff := HF1.out.trans hf2
      have hbk1 := HBK.out.keep hff (fun h => h)
      have hbk2 := HBK2.out.keep hff (fun h => h)
      have hfw := HF.out.trans hff
      have HC1 := Lib.hid hbk1; clear hbk1
      have HC2 := Lib.hid hbk2; clear hbk2
      have HFW := Lib.hid hfw; clear hfw hff hf2
      have hr : (alikeV l[j] m[j] && alikeL (l.drop (j + 1)) (m.drop (j + 1))) = alikeL l m := by rw [← HRR.out]; exact (alikeL_drop l m j hlt HLT2.out).symm
      generalize alikeV l[j] m[j] = bb at hr ⊢
      cases bb with
      | false =>
        have HR2 := Lib.hid hr; clear hr
        go_wp2
        go_ret
        exact ⟨ret_bool (by rw [← HR2.out]; rfl), HFW.out⟩
      | true =>
        have HR2 := Lib.hid hr; clear hr
        go_wp2
        go_roundg (gk - 1)
        case measure => omega
        case rel => exact ⟨j + 1, by omega, by go_num, by rw [← HR2.out]; rfl, HC1.out, HC2.out, HFW.out⟩
    · obtain rfl : j = l.length := by omega
      have hr := HRR.out
      rw [List.drop_length] at hr
      have HR2 := Lib.hid hr; clear hr
      clear hlt
      go_wp2
      go_ret
      exact ⟨ret_bool (by rw [← HR2.out]; rfl), HF.out⟩
theorem alike_any (v : V) : AlikeAll [v] := by
  induction v using V.ind with
  | h k n s l r ih =>
    intro x hx b D D' z z' Aa Ab ca cb w hv hb hD hD'
    obtain rfl : x = .mk k n s l r := by simpa using hx
    by_cases hh : (V.mk k n s l r).k = b.k ∧ (V.mk k n s l r).n = b.n ∧ (V.mk k n s l r).s = b.s ∧ (V.mk k n s l r).r = b.r ∧ (V.mk k n s l r).l.length = b.l.length
    · obtain ⟨h1, h2, h3, h4, h5⟩ := hh
      cases b with
      | mk k' n' s' m r' =>
        change k = k' at h1
        change n = n' at h2
        change s = s' at h3
        change r = r' at h4
        change l.length = m.length at h5
        subst h1; subst h2; subst h3; subst h4
        have e : alikeV (.mk k n s l r) (.mk k n s m r) = alikeL l m := by
          unfold alikeV
          simp [V.k, V.n, V.s, V.r, V.l, h5]
        rw [e]
        have := alike_eq D D' z z' k n r s l m Aa Ab ca cb w h5.symm hv.bounds.2.2.2.2 (fun y hy => ih y hy y (List.mem_singleton_self y)) hD hD' hv.list.1 hb.list.1
        show Calls Tryz.prog _ #[.agg #[.int .u8 k, .int .i64 n, .string s, .slice Aa l.length ca, .int .i64 r], .agg #[.int .u8 k, .int .i64 n, .string s, .slice Ab m.length cb, .int .i64 r]] w _
        rw [← h5]
        exact this
    · have e : alikeV (.mk k n s l r) b = false := by
        rw [Bool.eq_false_iff]
        intro h
        unfold alikeV at h
        simp only [Bool.and_eq_true, beq_iff_eq, decide_eq_true_eq] at h
        obtain ⟨⟨⟨⟨⟨h1, h2⟩, h3⟩, h4⟩, h5⟩, _⟩ := h
        exact hh ⟨h1, h2, h3, h4, h5⟩
      rw [e]
      exact alike_ne _ b Aa Ab ca cb w hh
end Go.Proofs.YtkiinokhdmmagaaGreat

/- A value that came in, read as data, is a tree that lies in memory. -/
namespace Go.Proofs.YtkiinokhdmmagaaGreat
open Go.RowKit Go.ChangeShapes Go.WideShapes Go.Deep
set_option linter.unusedSimpArgs false
set_option linter.unusedVariables false
set_option linter.unusedSectionVars false
theorem bytes_Value : Tryz.prog.bytesOf 28 = 64 := by kernel_rfl
theorem cellsOf_Value : Tryz.prog.cellsOf 28 = 5 := by kernel_rfl
theorem cellsOf_f0 : Tryz.prog.cellsOf 25 = 1 := by kernel_rfl
theorem cellsOf_f1 : Tryz.prog.cellsOf 2 = 1 := by kernel_rfl
theorem cellsOf_f2 : Tryz.prog.cellsOf 9 = 1 := by kernel_rfl
theorem cellsOf_f3 : Tryz.prog.cellsOf 26 = 1 := by kernel_rfl
theorem cellsOf_f4 : Tryz.prog.cellsOf 22 = 1 := by kernel_rfl
theorem wf_u8 {n : Int} (h : (Lit.int .u8 n).wf = true) : U8 n := by
  simp only [Lit.wf, Bool.and_eq_true, decide_eq_true_eq] at h
  exact h
theorem wf_i64 {n : Int} (h : (Lit.int .i64 n).wf = true) : I64 n := by
  simp only [Lit.wf, Bool.and_eq_true, decide_eq_true_eq] at h
  exact h
/-- Elements that lie one behind the other, each a value. -/
theorem RVs_of_index {w : World} {D : Nat → Prop} : ∀ (l : List V) (b o : Nat) (hD : 0 < l.length → D b), (∀ i (h : i < l.length), ∃ cs, (∀ j, j < 5 → w.cell? ⟨b, o + i * 5 + j, none⟩ = cs[j]?) ∧ RV w D False l[i] cs) → RVs w D False l (some ⟨b, o, none⟩)
  | [], b, o, _, _ => by unfold RVs; trivial
  | v :: l, b, o, hD, h => by
    obtain ⟨cs, hc, hv⟩ := h 0 (by simp)
    unfold RVs
    refine ⟨b, o, cs, rfl, hD (by simp), fun i hi => by simpa using hc i hi, fun z => z.elim, hv, RVs_of_index l b (o + 5) (fun _ => hD (by simp)) fun i hi => ?_⟩
    obtain ⟨cs', hc', hv'⟩ := h (i + 1) (by simpa using hi)
    refine ⟨cs', fun j hj => ?_, by simpa using hv'⟩
    have := hc' j hj
    rwa [show o + (i + 1) * 5 + j = o + 5 + i * 5 + j by omega] at this
theorem weightsAll_mem {H : Type} {P : Program} {e : TypeId} : ∀ {l : List (DataW H)} {d : DataW H}, d ∈ l → ∀ n, n ∈ d.weights P e → n ∈ DataW.weightsAll P e l
  | a :: l, d, hd, n, hn => by
    unfold DataW.weightsAll
    rcases List.mem_cons.1 hd with rfl | hd
    · exact List.mem_append_left _ hn
    · exact List.mem_append_right _ (weightsAll_mem hd n hn)
set_option maxRecDepth 100000 in
set_option maxHeartbeats 1000000 in
theorem open_value {H : Type} (enc : TypeId × Value → H) (W : World) : ∀ (fuel : Nat) (cs : List Value) (x : DataW H × List MemPlace), DataW.trod enc Tryz.prog W 0 (fun _ => true) true fuel 28 cs = some x →
    (∀ n, n ∈ DataW.weights Tryz.prog 28 x.1 → n ≤ reachBytes) → ∃ v a c, cs = V.cells v a c ∧ RV W (fun b => b < W.heap.size) False v (v.cells a c) := by
  intro fuel
  induction fuel using Nat.strongRecOn with
  | _ fuel ih =>
    intro cs x h hw
    obtain ⟨xs, n, rfl, rfl, hlen, hxl, hf⟩ := DataW.trod_struct Tryz.underlying28 h
    rw [cellsOf_Value] at hlen
    match cs, hlen with
    | [c0, c1, c2, c3, c4], _ =>
    change xs.length = 5 at hxl
    match xs, hxl with
    | [x0, x1, x2, x3, x4], _ =>
    have f0 : DataW.trod enc Tryz.prog W 0 (fun _ => true) true n 25 (([c0, c1, c2, c3, c4].drop 0).take (Tryz.prog.cellsOf 25)) = some x0 := hf 0 _ rfl
    rw [cellsOf_f0] at f0
    have f1 : DataW.trod enc Tryz.prog W 0 (fun _ => true) true n 2 (([c0, c1, c2, c3, c4].drop 1).take (Tryz.prog.cellsOf 2)) = some x1 := hf 1 _ rfl
    rw [cellsOf_f1] at f1
    have f2 : DataW.trod enc Tryz.prog W 0 (fun _ => true) true n 9 (([c0, c1, c2, c3, c4].drop 2).take (Tryz.prog.cellsOf 9)) = some x2 := hf 2 _ rfl
    rw [cellsOf_f2] at f2
    have f3 : DataW.trod enc Tryz.prog W 0 (fun _ => true) true n 26 (([c0, c1, c2, c3, c4].drop 3).take (Tryz.prog.cellsOf 26)) = some x3 := hf 3 _ rfl
    rw [cellsOf_f3] at f3
    have f4 : DataW.trod enc Tryz.prog W 0 (fun _ => true) true n 22 (([c0, c1, c2, c3, c4].drop 4).take (Tryz.prog.cellsOf 22)) = some x4 := hf 4 _ rfl
    rw [cellsOf_f4] at f4
    clear hf
    obtain ⟨k, e0, hx0, hk⟩ := DataW.trod_int Tryz.underlying25 f0
    obtain ⟨m, e1, hx1, hm⟩ := DataW.trod_int Tryz.underlying2 f1
    obtain ⟨s, e2, hx2, hs⟩ := DataW.trod_string Tryz.underlying9 f2
    obtain ⟨r, e4, hx4, hr⟩ := DataW.trod_int Tryz.underlying22 f4
    have e0' : c0 = .int .u8 k := by simpa using e0
    have e1' : c1 = .int .i64 m := by simpa using e1
    have e2' : c2 = .string s := by simpa using e2
    have e4' : c4 = .int .i64 r := by simpa using e4
    subst e0' e1' e2' e4' hx0 hx1 hx2 hx4
    have hws : s.size ≤ 140737488351232 := by
      have := hw s.data.toList.length (by simp [DataW.weights, Tryz.underlying28, DataW.weightsEach])
      have e : reachBytes = 140737488351232 := rfl
      simpa [e] using this
    rcases DataW.trod_slice Tryz.underlying26 f3 with ⟨e3, hx3⟩ | ⟨a, len, cap, elems, rest, n', hn', e3, hx3, hb, hl, hm2, hlen, hel, _, _⟩
    · have e3' : c3 = .slice none 0 0 := by simpa using e3
      subst e3'
      refine ⟨.mk k m s [] r, none, 0, rfl, ?_⟩
      unfold RV
      exact ⟨wf_u8 hk, wf_i64 hm, wf_i64 hr, hws, by simp, none, 0, rfl, Nat.le_refl _, by unfold RVs; trivial⟩
    · have e3' : c3 = .slice (some a) len cap := by simpa using e3
      subst e3' hn' hx3
      rw [cellsOf_Value] at hel
      have hwl : len ≤ 2199023255552 := by
        have h1 := hw ((elems.map (·.1)).length + (rest.map (·.1)).length |> (· * Tryz.prog.bytesOf 28)) (by simp [DataW.weights, Tryz.underlying28, Tryz.underlying26, DataW.weightsEach])
        rw [bytes_Value] at h1
        have e : reachBytes = 140737488351232 := rfl
        simp only [List.length_map, e] at h1
        omega
      have hall : ∀ i, i < len → ∃ v : V, ∃ cs, (∀ j, j < 5 → W.cell? (a.add (i * 5 + j)) = cs[j]?) ∧ RV W (fun b => b < W.heap.size) False v cs := by
        intro i hi
        have h1 := hel i hi
        have hi2 : i < elems.length := by omega
        rw [List.getElem?_eq_getElem hi2] at h1
        obtain ⟨cs', h2, h3⟩ := Option.bind_eq_some_iff.1 h1
        obtain ⟨_, h4, h5⟩ := World.cells?_some h2
        obtain ⟨v, a', c', he, hv⟩ := ih n' (by omega) cs' _ h3 (fun n hn => hw n (by
          simp only [DataW.weights, Tryz.underlying28, DataW.weightsEach, List.map_cons, List.map_nil, Tryz.underlying26, List.mem_append, List.mem_cons]
          have : n ∈ DataW.weightsAll Tryz.prog 28 (elems.map (·.1)) := weightsAll_mem (List.mem_map_of_mem (List.getElem_mem hi2)) n hn
          simp [DataW.weightsEach, DataW.weights, Tryz.underlying26, this]))
        refine ⟨v, cs', fun j hj => ?_, by rw [he]; exact hv⟩
        have := h5 j hj
        rwa [add_add] at this
      haveI : Inhabited V := ⟨V.zero⟩
      obtain ⟨f, hfv⟩ := choose_lt hall
      refine ⟨.mk k m s ((List.range len).map f) r, some a, cap, by simp [V.k, V.n, V.s, V.l, V.r], ?_⟩
      unfold RV
      refine ⟨wf_u8 hk, wf_i64 hm, wf_i64 hr, hws, by simpa using hwl, some a, cap, by simp [V.k, V.n, V.s, V.l, V.r], by simpa using hl, ?_⟩
      by_cases h0 : len = 0
      · subst h0
        unfold RVs
        trivial
      · have hsp : a.spot = none := by
          obtain ⟨cs', h1, h2⟩ := hfv 0 (by omega)
          have h3 := h1 0 (by omega)
          have h5 := h2.five
          rw [List.getElem?_eq_getElem (by omega)] at h3
          cases hs : a.spot with
          | none => rfl
          | some q =>
            exfalso
            simp only [World.cell?, Addr.add] at h3
            simp [hs] at h3
            split at h3 <;> cases h3
        obtain ⟨b, o, sp⟩ := a
        simp only at hsp
        subst hsp
        refine RVs_of_index _ b o (fun _ => ?_) fun i hi => ?_
        · obtain ⟨cs', h1, h2⟩ := hfv 0 (by omega)
          have h3 := h1 0 (by omega)
          have h5 := h2.five
          rw [Addr.add_mid, List.getElem?_eq_getElem (by omega)] at h3
          exact cell_lt h3
        · have hi' : i < len := by simpa using hi
          obtain ⟨cs', h1, h2⟩ := hfv i hi'
          refine ⟨cs', fun j hj => ?_, by simpa using h2⟩
          have := h1 j hj
          rw [Addr.add_mid] at this
          rwa [show o + i * 5 + j = o + (i * 5 + j) by omega]
end Go.Proofs.YtkiinokhdmmagaaGreat

/- Package seal with a world that is none: nil, or made by no call. -/
namespace Go.Proofs.YtkiinokhdmmagaaGreat
open Go.RowKit
set_option linter.unusedSimpArgs false
set_option linter.unusedVariables false
set_option linter.unusedSectionVars false
abbrev noWorld : List Value := [.slice none 0 0, .slice none 0 0, .map none, .map none, .int .i64 0, .slice none 0 0]
def NoW (w : World) (q : Option Addr) : Prop := q = none ∨ ∃ p, q = some ⟨p, 0, none⟩ ∧ Blk w p noWorld 38
theorem NoW.keep {w w' : World} {q : Option Addr} (h : NoW w q) (k : Fr none_ w w') : NoW w' q := by
  rcases h with rfl | ⟨p, rfl, hb⟩
  · exact .inl rfl
  · exact .inr ⟨p, rfl, hb.keep k (fun h => h)⟩
set_option maxRecDepth 100000 in
set_option maxHeartbeats 1000000 in
theorem wnone_no {w : World} {q : Option Addr} (h : NoW w q) : Calls Tryz.prog 59 #[.pointer q] w (Same (.bool true) w) := by
  rcases h with rfl | ⟨p, rfl, hb⟩
  · exact none_nil w
  · exact none_empty p w (hb.cell 2)
set_option maxRecDepth 100000 in
set_option maxHeartbeats 1000000 in
theorem sides_no {w : World} {q : Option Addr} (h : NoW w q) : Calls Tryz.prog 31 #[.pointer q] w (Same (.int .i64 0) w) := by
  have H := Lib.hid h; clear h
  go_enter Tryz.func31, Tryz.ntmps31
  go_wp2_with (refine (wnone_no H.out).mono ?_; rintro e w' ⟨rfl, rfl⟩)
  go_ret
  exact ⟨rfl, rfl⟩
set_option maxRecDepth 100000 in
set_option maxHeartbeats 1000000 in
theorem sthere_no {w : World} {q : Option Addr} (h : NoW w q) : Calls Tryz.prog 30 #[.pointer q] w (Same (.bool false) w) := by
  have H := Lib.hid h
  rcases h with rfl | ⟨p, rfl, hb⟩
  · go_enter Tryz.func30, Tryz.ntmps30
    go_wp2
    go_ret
    exact ⟨rfl, rfl⟩
  · clear hb
    go_enter Tryz.func30, Tryz.ntmps30
    go_wp2_with (refine (sides_no H.out).mono ?_; rintro e w' ⟨rfl, rfl⟩)
    go_ret
    exact ⟨rfl, rfl⟩
set_option maxRecDepth 100000 in
set_option maxHeartbeats 1000000 in
theorem pair_no {w : World} {q : Option Addr} (h : NoW w q) (s : Int) : Calls Tryz.prog 7 #[.pointer q, .int .i64 s] w (Same (.tuple #[.int .i64 0, .int .i64 0, .int .i64 1]) w) := by
  have H := Lib.hid h; clear h
  go_enter Tryz.func7, Tryz.ntmps7
  go_wp2_with (refine (sthere_no H.out).mono ?_; rintro e w' ⟨rfl, rfl⟩)
  go_ret3
  exact ⟨rfl, rfl⟩
set_option maxRecDepth 100000 in
set_option maxHeartbeats 1000000 in
theorem seal_no {w : World} {q : Option Addr} (h : NoW w q) (r : Int) (v : V) (va : Option Addr) (vc : Nat) : Calls Tryz.prog 8 #[.pointer q, .int .i64 r, v.agg va vc] w fun e w' => e = .returned (.tuple #[.int .i64 0, .int .i64 1]) ∧ Fr none_ w w' := by
  have hk := h.keep ((Fr.refl none_ w).alloc (.cells (v.cells va vc).toArray 28))
  have H := Lib.hid hk; clear h hk
  go_enter Tryz.func8, Tryz.ntmps8
  go_wp2_with fail
  refine (sthere_no H.out).mono ?_
  rintro e w' ⟨rfl, rfl⟩
  go_wp2
  go_ret2
  exact ⟨rfl, (Fr.refl _ _).alloc _⟩
def ZeroErr (w : World) (n : Int) (e : Ending) (w' : World) : Prop := e = .returned (.tuple #[.agg zero5.toArray, .int .i64 n]) ∧ Fr none_ w w'
set_option maxRecDepth 100000 in
set_option maxHeartbeats 1000000 in
theorem sopen_no {w : World} {q : Option Addr} (h : NoW w q) (r : Int) (v : V) (va : Option Addr) (vc : Nat) : Calls Tryz.prog 9 #[.pointer q, .int .i64 r, v.agg va vc] w (ZeroErr w 1) := by
  have hz := zero_Value
  have hb0 : ∀ W : World, (Instr.build 28 #[]).run Tryz.prog W = .ok (.agg #[.int .u8 0, .int .i64 0, .string ⟨#[]⟩, .slice none 0 0, .int .i64 0]) W := fun W => by kernel_rfl
  have hf : Fr none_ w ((w.alloc (.cells (v.cells va vc).toArray 28)).alloc (.cells zero5.toArray 28)) := ((Fr.refl none_ w).alloc _).alloc _
  have hk := h.keep hf
  have hb := Blk.new (w.alloc (.cells (v.cells va vc).toArray 28)) zero5 28
  rw [World.size_alloc] at hb
  have HB := Lib.hid hb; clear hb
  have H := Lib.hid hk; clear h hk
  have HF := Lib.hid hf; clear hf
  go_enter Tryz.func9, Tryz.ntmps9
  go_wp2_with fail
  refine (sthere_no H.out).mono ?_
  rintro e w' ⟨rfl, rfl⟩
  go_wp2_with (refine wpList_stop (.store 28 (.tmp 6) (.tmp 17)) rfl ?_)
  refine Stop.mk ?_
  refine wpList_store_blk (cs := zero5) (t := 28) rfl 28 (.tmp 6) (.tmp 17) rfl (w.heap.size + 1) 0 zero5 ?e1 ?e2 HB.out (by simp) size_Value rfl ?_
  case e1 => rfl
  case e2 => rfl
  go_wp2
  refine ret_blk2 (g := w.heap.size + 1) (cs := zero5) (t := 28) rfl rfl ?_ Tryz.underlying28 rfl size_Value rfl ?_
  · exact HB.out.setCells 0 zero5 (by simp)
  · exact ⟨rfl, HF.out.setCells _ _ _ (fun h => by omega)⟩
set_option maxRecDepth 100000 in
set_option maxHeartbeats 1000000 in
theorem do_no {w : World} {q : Option Addr} (h : NoW w q) (r a : Int) (v : V) (va : Option Addr) (vc : Nat) : Calls Tryz.prog 10 #[.pointer q, .int .i64 r, .int .u8 a, v.agg va vc] w (ZeroErr w 1) := by
  have hz := zero_Value
  have hb0 : ∀ W : World, (Instr.build 28 #[]).run Tryz.prog W = .ok (.agg #[.int .u8 0, .int .i64 0, .string ⟨#[]⟩, .slice none 0 0, .int .i64 0]) W := fun W => by kernel_rfl
  have hf : Fr none_ w ((w.alloc (.cells (v.cells va vc).toArray 28)).alloc (.cells zero5.toArray 28)) := ((Fr.refl none_ w).alloc _).alloc _
  have hk := h.keep hf
  have hb := Blk.new (w.alloc (.cells (v.cells va vc).toArray 28)) zero5 28
  rw [World.size_alloc] at hb
  have HB := Lib.hid hb; clear hb
  have H := Lib.hid hk; clear h hk
  have HF := Lib.hid hf; clear hf
  go_enter Tryz.func10, Tryz.ntmps10
  go_wp2_with fail
  refine (sthere_no H.out).mono ?_
  rintro e w' ⟨rfl, rfl⟩
  go_wp2_with (refine wpList_stop (.store 28 (.tmp 8) (.tmp 18)) rfl ?_)
  refine Stop.mk ?_
  refine wpList_store_blk (cs := zero5) (t := 28) rfl 28 (.tmp 8) (.tmp 18) rfl (w.heap.size + 1) 0 zero5 ?e1 ?e2 HB.out (by simp) size_Value rfl ?_
  case e1 => rfl
  case e2 => rfl
  go_wp2
  refine ret_blk2 (g := w.heap.size + 1) (cs := zero5) (t := 28) rfl rfl ?_ Tryz.underlying28 rfl size_Value rfl ?_
  · exact HB.out.setCells 0 zero5 (by simp)
  · exact ⟨rfl, HF.out.setCells _ _ _ (fun h => by omega)⟩
set_option maxRecDepth 100000 in
set_option maxHeartbeats 1000000 in
theorem spair_no {w : World} {q : Option Addr} (h : NoW w q) (r : Int) : Calls Tryz.prog 41 #[.pointer q, .int .i64 r] w (Same (.tuple #[.int .i64 0, .int .i64 1]) w) := by
  have H := Lib.hid h; clear h
  go_enter Tryz.func41, Tryz.ntmps41
  go_wp2_with (refine (sthere_no H.out).mono ?_; rintro e w' ⟨rfl, rfl⟩)
  go_ret2
  exact ⟨rfl, rfl⟩
set_option maxRecDepth 100000 in
set_option maxHeartbeats 1000000 in
theorem smark_no {w : World} {q : Option Addr} (h : NoW w q) (r : Int) : Calls Tryz.prog 11 #[.pointer q, .int .i64 r] w (Same (.tuple #[Value.nilIface, .int .i64 1]) w) := by
  have H := Lib.hid h; clear h
  go_enter Tryz.func11, Tryz.ntmps11
  go_wp2_with (refine (spair_no H.out r).mono ?_; rintro e w' ⟨rfl, rfl⟩)
  go_ret2
  exact ⟨rfl, rfl⟩
set_option maxRecDepth 100000 in
set_option maxHeartbeats 1000000 in
theorem same_no {w : World} {q : Option Addr} (h : NoW w q) (r s : Int) : Calls Tryz.prog 12 #[.pointer q, .int .i64 r, .int .i64 s] w (Same (.tuple #[.bool false, .int .i64 1]) w) := by
  have H := Lib.hid h; clear h
  go_enter Tryz.func12, Tryz.ntmps12
  go_wp2_with fail
  refine (sthere_no H.out).mono ?_
  rintro e w' ⟨rfl, rfl⟩
  go_wp2_with fail
  refine (smark_no H.out r).mono ?_
  rintro e w' ⟨rfl, rfl⟩
  go_wp2
  go_ret2
  exact ⟨rfl, rfl⟩
set_option maxRecDepth 100000 in
set_option maxHeartbeats 1000000 in
theorem nothing_zero (w : World) : Calls Tryz.prog 15 #[.agg zero5.toArray] w (Bool_ w true) := by
  have hb0 : ∀ W : World, (Instr.build 28 #[]).run Tryz.prog W = .ok (.agg #[.int .u8 0, .int .i64 0, .string ⟨#[]⟩, .slice none 0 0, .int .i64 0]) W := fun W => by kernel_rfl
  go_enter Tryz.func15, Tryz.ntmps15
  go_wp2_with fail
  refine (alike_any V.zero V.zero (List.mem_singleton_self _) V.zero none_ none_ True True none none 0 0 _ (RV_zero _ _ _) (RV_zero _ _ _) (fun _ h => h.elim) (fun _ h => h.elim)).mono ?_
  rintro e w1 ⟨rfl, hf⟩
  have HF := Lib.hid ((Fr.refl none_ w).alloc (.cells zero5.toArray 28) |>.trans hf); clear hf
  rw [show alikeV V.zero V.zero = true from rfl]
  go_wp2
  go_ret
  exact ⟨rfl, HF.out⟩
end Go.Proofs.YtkiinokhdmmagaaGreat

/- Package seal with a world that is none: boxes, what is unlocked, pairs; a range over a function that gives nothing. -/
namespace Go.Proofs.YtkiinokhdmmagaaGreat
open Go.RowKit Go.Shelf
set_option linter.unusedSimpArgs false
set_option linter.unusedVariables false
set_option linter.unusedSectionVars false
attribute [local go_sem] Oper.semAt_some
theorem fr_below0 {n : Nat} {Wa Wb : World} (h : Below n Wa Wb) : Fr (fun b => n ≤ b) Wa Wb := ⟨h.os, h.tape, h.output, h.size, fun b hb hn => h.block b (by omega)⟩
set_option maxRecDepth 100000 in
set_option maxHeartbeats 1000000 in
theorem boxes_no {w : World} {q : Option Addr} (h : NoW w q) (r : Int) : Calls Tryz.prog 13 #[.pointer q, .int .i64 r] w (Same (.tuple #[.slice none 0 0, .int .i64 1]) w) := by
  have H := Lib.hid h; clear h
  go_enter Tryz.func13, Tryz.ntmps13
  go_wp2_with (refine (smark_no H.out r).mono ?_; rintro e w' ⟨rfl, rfl⟩)
  go_ret2
  exact ⟨rfl, rfl⟩
set_option maxRecDepth 100000 in
set_option maxHeartbeats 1000000 in
theorem unlocked_no {w : World} {q : Option Addr} (h : NoW w q) (v : V) (va : Option Addr) (vc : Nat) : Calls Tryz.prog 14 #[.pointer q, v.agg va vc] w fun e w' => e = .returned (.tuple #[.slice none 0 0, .int .i64 1]) ∧ Fr none_ w w' := by
  have hf : Fr none_ w ((w.alloc (.cells #[.pointer q] 31)).alloc (.cells (v.cells va vc).toArray 28)) := ((Fr.refl none_ w).alloc _).alloc _
  have hk := h.keep hf
  have H := Lib.hid hk; clear h hk
  have HF := Lib.hid hf; clear hf
  have x0 := ((Blk.new w [.pointer q] 31).alloc (.cells (v.cells va vc).toArray 28)).cell 0
  change _ = some (Value.pointer q) at x0
  go_enter Tryz.func14, Tryz.ntmps14
  go_upto_region 1 with (fail)
  refine code_gen ?_
  intro W1 hW
  rw [← hW] at H HF x0
  clear hW
  refine wp_scope_straight ?_
  go_wp2_with fail
  refine (sthere_no H.out).mono ?_
  rintro e w' ⟨rfl, rfl⟩
  go_wp2
  rw [Exit.noGoto_ret]
  go_ret2
  exact ⟨rfl, HF.out⟩
/-- The function over all pairs, handed back. -/
def PairsOut (w : World) (q : Option Addr) (e : Ending) (w' : World) : Prop :=
  e = .returned (.func (.func 76) #[] #[.pointer (some ⟨w.heap.size, 0, none⟩)]) ∧ w'.cell? ⟨w.heap.size, 0, none⟩ = some (.pointer q) ∧ Fr none_ w w'
set_option maxRecDepth 100000 in
set_option maxHeartbeats 1000000 in
theorem spairs_any (q : Option Addr) (w : World) : Calls Tryz.prog 48 #[.pointer q] w (PairsOut w q) := by
  have hmf : ∀ (fn : Fn) (first cap : Array Value) (w : World), (Instr.makeFunc fn first cap).run Tryz.prog w = .ok (.func fn first cap) w := fun _ _ _ _ => rfl
  have h0 := (Blk.new w [.pointer q] 31).cell 0
  have H0 := Lib.hid h0; clear h0
  go_enter Tryz.func48, Tryz.ntmps48
  go_wp2
  go_ret
  exact ⟨rfl, H0.out, (Fr.refl _ _).alloc _⟩
set_option maxRecDepth 100000 in
set_option maxHeartbeats 2000000 in
theorem pairs1_no {w : World} {q : Option Addr} (h : NoW w q) (b : Nat) (hb : w.cell? ⟨b, 0, none⟩ = some (.pointer q)) (Kp : World → World → Prop) (n : Nat) (hn : 1 ≤ n) :
    SeqStopsK Fence.wide n Tryz.prog 76 #[.pointer (some ⟨b, 0, none⟩)] (fun x : Int × Int => #[.int .i64 x.1, .int .i64 x.2]) Kp (fun xs => xs = []) (fun _ => False) 0 w := by
  intro yl J Jx W0 hW0 hJ hJx hY h0
  have hf0 : Fr (fun b => w.heap.size ≤ b) w W0 := fr_below0 hW0
  have hbl := cell_lt hb
  have x0 : W0.cell? ⟨b, 0, none⟩ = some (.pointer q) := cell_keep (fun hb => hf0.block b hb (by omega)) hb
  have hq : NoW W0 q := by
    rcases h with rfl | ⟨p, rfl, hp⟩
    · exact .inl rfl
    · exact .inr ⟨p, rfl, hp.keep hf0 (by have := hp.lt; omega)⟩
  have hq1 := hq.keep ((Fr.refl none_ W0).alloc (.cells #[.func (.yield yl) #[] #[]] 136))
  have hj1 : J [] (W0.alloc (.cells #[.func (.yield yl) #[] #[]] 136)) := hJ [] W0 _ none h0 (World.grownBy_alloc W0 _ none) (fun r e => by cases e)
  have HQ := Lib.hid hq1; clear hq1
  have HJ := Lib.hid hj1; clear hj1
  have x1 : (W0.alloc (.cells #[.func (.yield yl) #[] #[]] 136)).cell? ⟨b, 0, none⟩ = some (.pointer q) := cell_keep (fun hb => ((Fr.refl none_ W0).alloc _).block b hb (fun h => h)) x0
  generalize hWq : W0.alloc (.cells #[.func (.yield yl) #[] #[]] 136) = Wq at HQ HJ x1
  clear h hb hW0 hJ hJx hY h0 hf0 hq x0
  refine callsIn_of_wp Tryz.func76 rfl trivial ?_ rfl
  simp only [Tryz.ntmps76, List.size_toArray, List.length_cons, List.length_nil, Nat.reduceAdd, Nat.reduceSub, Array.replicate_succ, Array.replicate_zero, List.push_toArray, List.append_toArray, List.nil_append, List.cons_append]
  gi_wp2_with (rw [hWq])
  refine ⟨trivial, ?_⟩
  refine (callsIn_wide.2 (sthere_no HQ.out)).mono ?_
  rintro e w' ⟨rfl, rfl⟩
  gi_wp2
  refine bodyPost_ret (results_none rfl _ _ _) rfl ?_
  exact ⟨⟨_, rfl⟩, .inl ⟨[], rfl, HJ.out⟩⟩
/-- A range over a function that gives nothing: what stands behind it. -/
theorem wpIn_range_nothing {α : Type} {n : Nat} {g : Operand} {ps : Array Tmp} {assign body : Code} {Q : Exit → Act → World → Prop} {a : Act} {w : World}
    (h1 : 1 ≤ n) {gf : Nat} {lb : Array Value} (hg : a.eval g = .func (.func gf) #[] lb) (eg : ∀ args w, (callFunc gf args).run Tryz.prog w = .ok (.enter gf args) w)
    {encs : α → Array Value} {Kp : World → World → Prop} (hseq : SeqStopsK Fence.wide (n - 1) Tryz.prog gf lb encs Kp (fun xs => xs = []) (fun _ => False) 0 w)
    (hdone : ∀ (Dd : Nat) (W : World), w.heap.size ≤ Dd → Fr none_ w W → W.heap[Dd]? = some (.deferred (some [])) → Q .normal { a with defers := { target := .collected Dd, args := #[] } :: a.defers } W) :
    (Code.rangeFunc g ps assign body).wpIn Fence.wide n Tryz.prog Q a w := by
  refine wpIn_rangeFunc ?_
  intro fn hfn
  rw [show Fence.wide.round = none from rfl]
  obtain ⟨rec, hrec⟩ : ∃ rec : LoopState → Option Code → Loop, rec = fun st pe => { state := st, pending := pe, fn, tmps := a.tmps, params := ps, assign, body, defers := w.heap.size } := ⟨_, rfl⟩
  obtain ⟨W1, hW1⟩ : ∃ W1, (w.alloc (.deferred (some []))).alloc (.loop (rec .ready none)) = W1 := ⟨_, rfl⟩
  have hL1 : W1.heap[w.heap.size + 1]? = some (.loop (rec .ready none)) := by
    rw [← hW1]; have := World.alloc_heap_new (w.alloc (.deferred (some []))) (.loop (rec .ready none)); rwa [World.size_alloc] at this
  have hK1 : W1.heap[w.heap.size]? = some (.deferred (some [])) := by
    rw [← hW1]; exact (Below.heap_alloc _ _ _ (by simp)).trans (World.alloc_heap_new w _)
  have hI1 : Fr none_ w W1 := by rw [← hW1]; exact ((Fr.refl _ _).alloc _).alloc _
  have hb1 : Below w.heap.size w W1 := hI1.below
  refine ⟨w.heap.size + 1, [{ target := .collected w.heap.size, args := #[] }], W1, { target := .fn (.func gf) lb, args := #[.func (.yield (w.heap.size + 1)) #[] #[]] }, W1, gf,
    #[.func (.yield (w.heap.size + 1)) #[] #[]] ++ lb, W1, ?_, ?_, ?_, ?_, fun _ => h1, ?_⟩
  · rw [← hW1, hrec]; exact run_enterLoop_outer _ _ _ _ _
  · simp only [resolve, hg]
    simp [go_sem]
  · intro f' hf'; simp [Target.leads] at hf'; subst hf'; trivial
  · simp [invoke, go_sem, eg]
  · have hturn : ∀ {Wa Wb : World} {row : Option Nat}, Wa.grownBy Wb row → (∀ r, row = some r → W1.heap.size ≤ r ∧ ∃ o : Obj, Wa.heap[r]? = some o ∧ o.isWalk = true) → (∀ r, row = some r → w.heap.size ≤ r ∧ ∃ o : Obj, Wa.heap[r]? = some o ∧ o.isCells = false) :=
      fun _ hr r e => by obtain ⟨hB, o, ho, hw⟩ := hr r e; exact ⟨by have := hI1.size; omega, o, ho, Obj.not_cells_of_walk hw⟩
    refine (hseq (w.heap.size + 1)
      (fun pre W => Fr none_ w W ∧ W.heap[w.heap.size + 1]? = some (.loop (rec .ready none)) ∧ W.heap[w.heap.size]? = some (.deferred (some [])))
      (fun _ _ => False) W1 hb1 ?_ (fun s Wa Wb row hs _ _ => hs) (fun pre x W _ hl => absurd hl (Nat.not_lt_zero _)) ⟨hI1, hL1, hK1⟩).mono ?_
    · rintro s Wa Wb row ⟨hs1, hs2, hs3⟩ hg' hr
      have hr2 := hturn hg' hr
      have hr3 : ∀ r, row = some r → ∃ o : Obj, Wa.heap[r]? = some o ∧ o.isWalk = true := fun r e => (hr r e).2
      refine ⟨hs1.trans' (grownBy_fr hg') (fun i hi e => by have := (hr2 i e).1; omega), (grownBy_keeps hg' hr3 hs2 rfl).trans hs2, (grownBy_keeps hg' hr3 hs3 rfl).trans hs3⟩
    · rintro e W2 ⟨⟨v, rfl⟩, (⟨xs, hS, hi, hl, hk⟩ | ⟨pre, hSp, hx⟩)⟩
      · have hg' := grownBy_putObj' W2 (w.heap.size + 1) (.loop { rec .ready none with state := .exhausted })
        exact ⟨none, _, by have := run_endLoop (P := Tryz.prog) hl (by rw [hrec]; simp); rw [hrec] at this ⊢; exact this, hdone _ _ (Nat.le_refl _) (hi.trans' (grownBy_fr hg') (fun i hi e => by injection e with e; omega)) ((World.putObj_heap_other (by omega)).trans hk)⟩
      · exact hx.elim
theorem Blk.turn0 {W W' : World} {b : Nat} {cs : List Value} {t : Nat} {r : Nat} {o : Obj} (h : Blk W b cs t) (hg : W.grownBy W' (some r)) (ho : W.heap[r]? = some o) (hc : o.isCells = false) : Blk W' b cs t := by
  refine h.keep (S := fun b => some r = some b) (grownBy_fr hg) (fun e => ?_)
  injection e with e
  subst e
  unfold Blk at h
  rw [ho] at h
  injection h with h
  subst h
  cases hc
theorem pairs_results {a : Act} {Wf : World} {n : Nat} (h6 : a.tmps[6]?.getD undef = .pointer (some ⟨n + 1 + 1, 0, none⟩)) (c1 : Wf.cell? ⟨n + 1 + 1, 0, none⟩ = some (.bool true)) :
    (results Tryz.f16 a.tmps).run Tryz.prog Wf = .ok (.bool true) Wf := by
  simp [results, Tryz.results16, h6, go_sem, c1]
set_option maxRecDepth 100000 in
set_option maxHeartbeats 8000000 in
theorem pairs_no {w : World} {q : Option Addr} (h : NoW w q) : Calls Tryz.prog 16 #[.pointer q, .slice none 0 0, .int .i64 1] w (Bool_ w true) := by
  have hf0 : Fr none_ w (((w.alloc (.cells #[.slice none 0 0] 96)).alloc (.cells #[.int .i64 1] 3)).alloc (.cells #[.bool false] 4)) := (((Fr.refl _ _).alloc _).alloc _).alloc _
  have hb0 := ((Blk.new w [.slice none 0 0] 96).alloc (.cells #[.int .i64 1] 3)).alloc (.cells #[.bool false] 4)
  have hb2 := Blk.new ((w.alloc (.cells #[.slice none 0 0] 96)).alloc (.cells #[.int .i64 1] 3)) [.bool false] 4
  rw [World.size_alloc, World.size_alloc] at hb2
  have HQ := Lib.hid (h.keep hf0); clear h
  have HF0 := Lib.hid hf0; clear hf0
  have HB0 := Lib.hid hb0; clear hb0
  have HB2 := Lib.hid hb2; clear hb2
  refine (callsIn_wide (n := 8)).1 ?_
  refine callsIn_of_wp_marks Tryz.func16 rfl trivial ?_ rfl
  simp only [Tryz.ntmps16, List.size_toArray, List.length_cons, List.length_nil, Nat.reduceAdd, Nat.reduceSub, Array.replicate_succ, Array.replicate_zero, List.push_toArray, List.append_toArray, List.nil_append, List.cons_append]
  gi_wp2_with fail
  refine ⟨trivial, ?_⟩
  refine (callsIn_wide.2 (spairs_any q _)).mono ?_
  rintro e W1 ⟨rfl, hc, hf⟩
  have HF1 := Lib.hid (HF0.out.trans hf)
  have HQ1 := Lib.hid (HQ.out.keep hf)
  have HB1 := Lib.hid (HB0.out.keep hf (fun h => h))
  have HB3 := Lib.hid (HB2.out.keep hf (fun h => h))
  have hsz := hf.size
  clear HF0 HQ HB0 HB2
  generalize (((w.alloc (.cells #[.slice none 0 0] 96)).alloc (.cells #[.int .i64 1] 3)).alloc (.cells #[.bool false] 4)).heap.size = nn at *
  clear hf
  have HC := Lib.hid hc; clear hc
  have hfe : ∀ (lb : Array Value) (W : World), Sem.run Tryz.prog (binOp .eql 98 (.func (.func 76) #[] lb) .nilFunc) W = .ok (.bool false) W := fun lb W => by kernel_rfl
  gi_wp2_with fail
  refine wpIn_loop_rounds 3 ?_
  rw [roundsIn_succ]
  gi_wp2_with fail
  have hf2 : Fr none_ W1 ((W1.alloc (.cells #[.int .i64 0] 3)).alloc (.cells #[.int .i64 0] 3)) := ((Fr.refl _ _).alloc _).alloc _
  have h8 := ((Blk.new W1 [.int .i64 0] 3).alloc (.cells #[.int .i64 0] 3))
  have h9 := Blk.new (W1.alloc (.cells #[.int .i64 0] 3)) [.int .i64 0] 3
  rw [World.size_alloc] at h9
  have HF2 := Lib.hid (HF1.out.trans hf2)
  have HQ2 := Lib.hid (HQ1.out.keep hf2)
  have HB2 := Lib.hid (HB1.out.keep hf2 (fun h => h))
  have HR2 := Lib.hid (HB3.out.keep hf2 (fun h => h))
  have HC2 := Lib.hid (cell_keep (fun hb => hf2.block nn hb (fun h => h)) HC.out)
  have H8 := Lib.hid h8
  have H9 := Lib.hid h9
  clear hf2 h8 h9 HF1 HQ1 HB1 HB3 HC
  generalize (W1.alloc (.cells #[.int .i64 0] 3)).alloc (.cells #[.int .i64 0] 3) = W2 at HF2 HQ2 HB2 HR2 HC2 H8 H9 ⊢
  refine wpIn_range_nothing (encs := fun x : Int × Int => #[.int .i64 x.1, .int .i64 x.2]) (Kp := fun _ _ => True) (by omega) (gf := 76) rfl (enters_of Tryz.func76 (by kernel_rfl) rfl) (pairs1_no HQ2.out nn HC2.out _ 7 (by omega)) ?_
  intro Dd W3 hD hf3 hK
  have x9 : W3.cell? ⟨W1.heap.size + 1, 0, none⟩ = some (.int .i64 0) := (H9.out.keep hf3 (fun h => h)).cell 0
  have x8 : W3.cell? ⟨W1.heap.size, 0, none⟩ = some (.int .i64 0) := (H8.out.keep hf3 (fun h => h)).cell 0
  have x4 : W3.cell? ⟨w.heap.size, 0, none⟩ = some (.slice none 0 0) := (HB2.out.keep hf3 (fun h => h)).cell 0
  have HF3 := Lib.hid (HF2.out.trans hf3)
  have HQ3 := Lib.hid (HQ2.out.keep hf3)
  have HB3 := Lib.hid (HB2.out.keep hf3 (fun h => h))
  have HR3 := Lib.hid (HR2.out.keep hf3 (fun h => h))
  have HC3 := Lib.hid (cell_keep (fun hb => hf3.block nn hb (fun h => h)) HC2.out)
  have HK3 := Lib.hid hK
  have HF2S := Lib.hid HF2.out.size
  clear hf3 hK HF2 HQ2 HB2 HR2 HC2 H8 H9
  gi_wp2_with fail
  rw [roundsIn_succ]
  gi_wp2_with fail
  have hf4 : Fr none_ W3 ((W3.alloc (.cells #[.int .i64 1] 3)).alloc (.cells #[.int .i64 0] 3)) := ((Fr.refl _ _).alloc _).alloc _
  have g8 := ((Blk.new W3 [.int .i64 1] 3).alloc (.cells #[.int .i64 0] 3))
  have g9 := Blk.new (W3.alloc (.cells #[.int .i64 1] 3)) [.int .i64 0] 3
  rw [World.size_alloc] at g9
  have HF4 := Lib.hid (HF3.out.trans hf4)
  have HQ4 := Lib.hid (HQ3.out.keep hf4)
  have HB4 := Lib.hid (HB3.out.keep hf4 (fun h => h))
  have HR4 := Lib.hid (HR3.out.keep hf4 (fun h => h))
  have HC4 := Lib.hid (cell_keep (fun hb => hf4.block nn hb (fun h => h)) HC3.out)
  have HK4 := Lib.hid ((hf4.block Dd (heap_lt HK3.out) (fun h => h)).trans HK3.out)
  have HD4 := Lib.hid (Nat.lt_of_lt_of_le (heap_lt HK3.out) hf4.size)
  have G8 := Lib.hid g8
  have G9 := Lib.hid g9
  clear hf4 g8 g9 HF3 HQ3 HB3 HR3 HC3 HK3 x4 x8 x9
  generalize (W3.alloc (.cells #[.int .i64 1] 3)).alloc (.cells #[.int .i64 0] 3) = W4 at HF4 HQ4 HB4 HR4 HC4 HK4 HD4 G8 G9 ⊢
  refine wpIn_range_nothing (encs := fun x : Int × Int => #[.int .i64 x.1, .int .i64 x.2]) (Kp := fun _ _ => True) (by omega) (gf := 76) rfl (enters_of Tryz.func76 (by kernel_rfl) rfl) (pairs1_no HQ4.out nn HC4.out _ 7 (by omega)) ?_
  intro De W5 hE hf5 hK
  have x9 : W5.cell? ⟨W3.heap.size + 1, 0, none⟩ = some (.int .i64 0) := (G9.out.keep hf5 (fun h => h)).cell 0
  have x8 : W5.cell? ⟨W3.heap.size, 0, none⟩ = some (.int .i64 1) := (G8.out.keep hf5 (fun h => h)).cell 0
  have x4 : W5.cell? ⟨w.heap.size, 0, none⟩ = some (.slice none 0 0) := (HB4.out.keep hf5 (fun h => h)).cell 0
  have HF5 := Lib.hid (HF4.out.trans hf5)
  have HR5 := Lib.hid (HR4.out.keep hf5 (fun h => h))
  have HK5 := Lib.hid ((hf5.block Dd (heap_lt HK4.out) (fun h => h)).trans HK4.out)
  have HE5 := Lib.hid hK
  have HNE := Lib.hid (show De ≠ Dd by have := HD4.out; omega)
  have HDW := Lib.hid hD
  have HEW := Lib.hid hE
  have HWD := HF2S
  have HWE := Lib.hid HF4.out.size
  clear hf5 hK HF4 HQ4 HB4 HR4 HC4 HK4 HD4 G8 G9 hD hE
  gi_wp2_with fail
  rw [roundsIn_succ]
  have x6 : (W5.alloc (.cells #[.int .i64 2] 3)).cell? ⟨w.heap.size + 1 + 1, 0, none⟩ = some (.bool false) := (HR5.out.alloc _).cell 0
  have z6 := (HR5.out.alloc (.cells #[.int .i64 2] 3)).frozen 0
  gi_wp2_with fail
  have k6 : KeepsOthers W5 ((W5.alloc (.cells #[.int .i64 2] 3)).setCell ⟨w.heap.size + 1 + 1, 0, none⟩ (.bool true)) := (KeepsOthers.alloc _ _).trans (KeepsOthers.setCell _ _ _)
  have hE6 := k6.same De _ HE5.out rfl
  have hD6 := k6.same Dd _ HK5.out rfl
  have b6 : Blk ((W5.alloc (.cells #[.int .i64 2] 3)).setCell ⟨w.heap.size + 1 + 1, 0, none⟩ (.bool true)) (w.heap.size + 1 + 1) [.bool true] 4 := (HR5.out.alloc _).set 0 (.bool true)
  have f6 : Fr none_ w ((W5.alloc (.cells #[.int .i64 2] 3)).setCell ⟨w.heap.size + 1 + 1, 0, none⟩ (.bool true)) := (HF5.out.alloc _).setNew (by omega) 0 _
  have hwD : w.heap.size ≤ Dd := Nat.le_trans HWD.out HDW.out
  have hwE : w.heap.size ≤ De := Nat.le_trans HWE.out HEW.out
  generalize (W5.alloc (.cells #[.int .i64 2] 3)).setCell ⟨w.heap.size + 1 + 1, 0, none⟩ (.bool true) = W6 at hE6 hD6 b6 f6 ⊢
  refine ⟨by simp, .inl ⟨_, _, rfl, run_takeDeferred hE6, ?_⟩⟩
  have hD7 : (W6.putObj De (.deferred none)).heap[Dd]? = some (.deferred (some [])) := (World.putObj_heap_other (fun e => HNE.out e.symm)).trans hD6
  have g7 := grownBy_putObj' W6 De (.deferred none)
  have b7 := b6.turn0 g7 hE6 rfl
  have f7 : Fr none_ w (W6.putObj De (.deferred none)) := f6.trans' (grownBy_fr g7) (fun i hi e => by injection e with e; omega)
  refine ⟨by simp, .inl ⟨_, _, rfl, run_takeDeferred hD7, ?_⟩⟩
  have g8 := grownBy_putObj' (W6.putObj De (.deferred none)) Dd (.deferred none)
  have b8 := b7.turn0 g8 hD7 rfl
  have f8 : Fr none_ w ((W6.putObj De (.deferred none)).putObj Dd (.deferred none)) := f7.trans' (grownBy_fr g8) (fun i hi e => by injection e with e; omega)
  have y6 := b8.cell 0
  change _ = some (Value.bool true) at y6
  refine ⟨_, pairs_results (n := w.heap.size) rfl y6, rfl, f8⟩
end Go.Proofs.YtkiinokhdmmagaaGreat

/- Package gate with a world that is none. -/
namespace Go.Proofs.YtkiinokhdmmagaaGreat
open Go.RowKit Go.Shelf
set_option linter.unusedSimpArgs false
set_option linter.unusedVariables false
set_option linter.unusedSectionVars false
attribute [local go_sem] Oper.semAt_some
set_option maxRecDepth 100000 in
set_option maxHeartbeats 1000000 in
theorem gthere_no {w : World} {q : Option Addr} (h : NoW w q) : Calls Tryz.prog 49 #[.pointer q] w (Same (.bool false) w) := by
  have H := Lib.hid h
  rcases h with rfl | ⟨p, rfl, hb⟩
  · go_enter Tryz.func49, Tryz.ntmps49
    go_wp2
    go_ret
    exact ⟨rfl, rfl⟩
  · clear hb
    go_enter Tryz.func49, Tryz.ntmps49
    go_wp2_with (refine (sides_no H.out).mono ?_; rintro e w' ⟨rfl, rfl⟩)
    go_ret
    exact ⟨rfl, rfl⟩
set_option maxRecDepth 100000 in
set_option maxHeartbeats 1000000 in
theorem gnew_no {w : World} {q : Option Addr} (h : NoW w q) (s t : Int) : Calls Tryz.prog 18 #[.pointer q, .int .i64 s, .int .i64 t] w (Same (.tuple #[.int .i64 0, .int .i64 0, .int .i64 1]) w) := by
  have H := Lib.hid h; clear h
  go_enter Tryz.func18, Tryz.ntmps18
  go_wp2_with (refine (gthere_no H.out).mono ?_; rintro e w' ⟨rfl, rfl⟩)
  go_ret3
  exact ⟨rfl, rfl⟩
set_option maxRecDepth 100000 in
set_option maxHeartbeats 1000000 in
theorem gcutE_no {w : World} {q : Option Addr} (h : NoW w q) (r : Int) : Calls Tryz.prog 26 #[.pointer q, .int .i64 r] w (Same (.int .i64 1) w) := by
  have H := Lib.hid h; clear h
  go_enter Tryz.func26, Tryz.ntmps26
  go_wp2_with (refine (gthere_no H.out).mono ?_; rintro e w' ⟨rfl, rfl⟩)
  go_ret
  exact ⟨rfl, rfl⟩
set_option maxRecDepth 100000 in
set_option maxHeartbeats 1000000 in
theorem giscut_no {w : World} {q : Option Addr} (h : NoW w q) (r : Int) : Calls Tryz.prog 19 #[.pointer q, .int .i64 r] w (Same (.tuple #[.bool false, .int .i64 1]) w) := by
  have H := Lib.hid h; clear h
  go_enter Tryz.func19, Tryz.ntmps19
  go_wp2_with (refine (gthere_no H.out).mono ?_; rintro e w' ⟨rfl, rfl⟩)
  go_ret2
  exact ⟨rfl, rfl⟩
set_option maxRecDepth 100000 in
set_option maxHeartbeats 1000000 in
theorem gof_no {w : World} {q : Option Addr} (h : NoW w q) (r : Int) : Calls Tryz.prog 21 #[.pointer q, .int .i64 r] w (Same (.tuple #[.int .i64 0, .int .i64 1]) w) := by
  have H := Lib.hid h; clear h
  go_enter Tryz.func21, Tryz.ntmps21
  go_wp2_with (refine (gthere_no H.out).mono ?_; rintro e w' ⟨rfl, rfl⟩)
  go_ret2
  exact ⟨rfl, rfl⟩
set_option maxRecDepth 100000 in
set_option maxHeartbeats 1000000 in
theorem ggates_no {w : World} {q : Option Addr} (h : NoW w q) (r : Int) : Calls Tryz.prog 22 #[.pointer q, .int .i64 r] w (Same (.tuple #[.slice none 0 0, .int .i64 1]) w) := by
  have H := Lib.hid h; clear h
  go_enter Tryz.func22, Tryz.ntmps22
  go_wp2_with (refine (gthere_no H.out).mono ?_; rintro e w' ⟨rfl, rfl⟩)
  go_ret2
  exact ⟨rfl, rfl⟩
set_option maxRecDepth 100000 in
set_option maxHeartbeats 1000000 in
theorem gstop_no {w : World} {q : Option Addr} (h : NoW w q) (x y : Option Addr) (m n c d : Nat) : Calls Tryz.prog 25 #[.pointer q, .slice x m c, .slice y n d] w (Same (.tuple #[.slice none 0 0, .int .i64 1]) w) := by
  have H := Lib.hid h; clear h
  go_enter Tryz.func25, Tryz.ntmps25
  go_upto_region 1 with (fail)
  refine wp_scope_straight ?_
  go_wp2_with (refine (gthere_no H.out).mono ?_; rintro e w' ⟨rfl, rfl⟩)
  go_ret2
  exact ⟨rfl, rfl⟩
def NoneAt (w : World) (v : Value) (e : Ending) (w' : World) : Prop := e = .returned v ∧ Fr none_ w w'
set_option maxRecDepth 100000 in
set_option maxHeartbeats 1000000 in
theorem gbehind_no {w : World} {q : Option Addr} (h : NoW w q) (r : Int) : Calls Tryz.prog 24 #[.pointer q, .int .i64 r] w (NoneAt w (.tuple #[.slice none 0 0, .int .i64 1])) := by
  have hf : Fr none_ w ((w.alloc (.cells #[.pointer q] 31)).alloc (.cells #[.int .i64 r] 22)) := ((Fr.refl none_ w).alloc _).alloc _
  have hk := h.keep hf
  have H := Lib.hid hk; clear h hk
  have HF := Lib.hid hf; clear hf
  go_enter Tryz.func24, Tryz.ntmps24
  go_wp2_with fail
  refine (gthere_no H.out).mono ?_
  rintro e w' ⟨rfl, rfl⟩
  go_wp2
  go_ret2
  exact ⟨rfl, HF.out⟩
theorem first_no_results {a : Act} {Wf : World} {n : Nat} (h4 : a.tmps[4]?.getD undef = .pointer (some ⟨n + 1, 0, none⟩)) (h5 : a.tmps[5]?.getD undef = .pointer (some ⟨n + 1 + 1, 0, none⟩)) (c1 : Wf.cell? ⟨n + 1, 0, none⟩ = some (.int .i64 0)) (c2 : Wf.cell? ⟨n + 1 + 1, 0, none⟩ = some (.bool false)) :
    (results Tryz.f23 a.tmps).run Tryz.prog Wf = .ok (.tuple #[.int .i64 0, .bool false]) Wf := by
  simp [results, Tryz.results23, h4, h5, go_sem, c1, c2]
set_option maxRecDepth 100000 in
set_option maxHeartbeats 4000000 in
theorem gfirst_no {w : World} {q : Option Addr} (h : NoW w q) (r : Int) : Calls Tryz.prog 23 #[.pointer q, .int .i64 r] w (NoneAt w (.tuple #[.int .i64 0, .bool false])) := by
  have hf : Fr none_ w (((w.alloc (.cells #[.pointer q] 31)).alloc (.cells #[.int .i64 0] 22)).alloc (.cells #[.bool false] 4)) := (((Fr.refl _ _).alloc _).alloc _).alloc _
  have hb1 := (Blk.new (w.alloc (.cells #[.pointer q] 31)) [.int .i64 0] 22).alloc (.cells #[.bool false] 4)
  have hb2 := Blk.new ((w.alloc (.cells #[.pointer q] 31)).alloc (.cells #[.int .i64 0] 22)) [.bool false] 4
  simp only [World.size_alloc] at hb1 hb2
  have HN := Lib.hid (h.keep hf); clear h
  refine (callsIn_wide (n := 6)).1 ?_
  refine callsIn_of_wp_marks Tryz.func23 rfl trivial ?_ rfl
  simp only [Tryz.ntmps23, List.size_toArray, List.length_cons, List.length_nil, Nat.reduceAdd, Nat.reduceSub, Array.replicate_succ, Array.replicate_zero, List.push_toArray, List.append_toArray, List.nil_append, List.cons_append]
  have HF := Lib.hid hf; clear hf
  have HB1 := Lib.hid hb1; clear hb1
  have HB2 := Lib.hid hb2; clear hb2
  gi_wp2_with fail
  refine ⟨trivial, ?_⟩
  refine (callsIn_wide.2 (gthere_no HN.out)).mono ?_
  rintro e W1 ⟨rfl, hW⟩
  have HF1 := Lib.hid (show Fr none_ w W1 by rw [hW]; exact HF.out)
  have hb1 : Blk W1 (w.heap.size + 1) [.int .i64 0] 22 := by rw [hW]; exact HB1.out
  have hb2 : Blk W1 (w.heap.size + 1 + 1) [.bool false] 4 := by rw [hW]; exact HB2.out
  clear hW HF HB1 HB2
  have y1 : W1.cell? ⟨w.heap.size + 1, 0, none⟩ = some (.int .i64 0) := hb1.cell 0
  have y2 : W1.cell? ⟨w.heap.size + 1 + 1, 0, none⟩ = some (.bool false) := hb2.cell 0
  have z1 := hb1.frozen 0
  have z2 := hb2.frozen 0
  have HB1 := Lib.hid hb1; clear hb1
  have HB2 := Lib.hid hb2; clear hb2
  gi_wp2_with fail
  refine ⟨_, first_no_results (n := w.heap.size) rfl rfl ?_ ?_, rfl, (HF1.out.setNew (by omega) 0 _).setNew (by omega) 0 _⟩
  · exact ((HB1.out.set 0 (.int .i64 0)).other ⟨w.heap.size + 1 + 1, 0, none⟩ (.bool false) (by simp)).cell 0
  · exact ((HB2.out.other ⟨w.heap.size + 1, 0, none⟩ (.int .i64 0) (by simp)).set 0 (.bool false)).cell 0
/-- The function over what is shut, handed back. -/
def ShutOut (w : World) (q : Option Addr) (e : Ending) (w' : World) : Prop :=
  e = .returned (.func (.func 83) #[] #[.pointer (some ⟨w.heap.size, 0, none⟩)]) ∧ w'.cell? ⟨w.heap.size, 0, none⟩ = some (.pointer q) ∧ Fr none_ w w'
set_option maxRecDepth 100000 in
set_option maxHeartbeats 1000000 in
theorem gshut_any (q : Option Addr) (w : World) : Calls Tryz.prog 57 #[.pointer q] w (ShutOut w q) := by
  have hmf : ∀ (fn : Fn) (first cap : Array Value) (w : World), (Instr.makeFunc fn first cap).run Tryz.prog w = .ok (.func fn first cap) w := fun _ _ _ _ => rfl
  have h0 := (Blk.new w [.pointer q] 31).cell 0
  have H0 := Lib.hid h0; clear h0
  go_enter Tryz.func57, Tryz.ntmps57
  go_wp2
  go_ret
  exact ⟨rfl, H0.out, (Fr.refl _ _).alloc _⟩
theorem load_boxg {ops : Array Oper} {rest : List Oper} {op : Oper} {a : Act} {w : World} {Q : Exit → Act → World → Prop} {n t : Nat} {v : V} {va : Option Addr} {vc : Nat} (hgd : op.guard = none) (x : Operand) (ho : op.op = .load 28 x)
    (hx : a.eval x = .pointer (some ⟨n, 0, none⟩)) (hb : Blk w n (v.cells va vc) t) (h : wpList Tryz.prog ops Q rest (a.put op.dst (v.agg va vc)) w) : wpList Tryz.prog ops Q (op :: rest) a w :=
  wpList_load_mid hgd 28 x ho n 0 hx (v.cells va vc) _ hb.rangeAll Tryz.underlying28 rfl size_Value h
set_option maxRecDepth 100000 in
set_option maxHeartbeats 1000000 in
theorem gdo_no {w : World} {q : Option Addr} (h : NoW w q) (r a : Int) (v : V) (va : Option Addr) (vc : Nat) : Calls Tryz.prog 20 #[.pointer q, .int .i64 r, .int .u8 a, v.agg va vc] w (ZeroErr w 1) := by
  have hz := zero_Value
  have hb0 : ∀ W : World, (Instr.build 28 #[]).run Tryz.prog W = .ok (.agg #[.int .u8 0, .int .i64 0, .string ⟨#[]⟩, .slice none 0 0, .int .i64 0]) W := fun W => by kernel_rfl
  have hf : Fr none_ w (((w.alloc (.cells (v.cells va vc).toArray 28)).alloc (.cells zero5.toArray 28)).alloc (.cells zero5.toArray 28)) := (((Fr.refl none_ w).alloc _).alloc _).alloc _
  have hk := h.keep hf
  have hb1 := (Blk.new (w.alloc (.cells (v.cells va vc).toArray 28)) zero5 28).alloc (.cells zero5.toArray 28)
  have hb2 := Blk.new ((w.alloc (.cells (v.cells va vc).toArray 28)).alloc (.cells zero5.toArray 28)) zero5 28
  rw [World.size_alloc] at hb1
  rw [World.size_alloc, World.size_alloc] at hb2
  have HB1 := Lib.hid hb1; clear hb1
  have HB2 := Lib.hid hb2; clear hb2
  have H := Lib.hid hk; clear h hk
  have HF := Lib.hid hf; clear hf
  go_enter Tryz.func20, Tryz.ntmps20
  go_wp2_with fail
  refine (gthere_no H.out).mono ?_
  rintro e w' ⟨rfl, rfl⟩
  go_wp2_with (refine wpList_stop (.load 28 (.tmp 10)) rfl ?_)
  refine Stop.mk ?_
  refine load_boxg (v := V.zero) (va := none) (vc := 0) rfl (.tmp 10) rfl rfl HB2.out ?_
  go_wp2_with (refine wpList_stop (.store 28 (.tmp 8) (.tmp 20)) rfl ?_)
  refine Stop.mk ?_
  refine wpList_store_blk (cs := zero5) (t := 28) rfl 28 (.tmp 8) (.tmp 20) rfl (w.heap.size + 1) 0 zero5 ?e1 ?e2 HB1.out (by simp) size_Value rfl ?_
  case e1 => rfl
  case e2 => rfl
  go_wp2
  refine ret_blk2 (g := w.heap.size + 1) (cs := zero5) (t := 28) rfl rfl ?_ Tryz.underlying28 rfl size_Value rfl ?_
  · exact HB1.out.setCells 0 zero5 (by simp)
  · exact ⟨rfl, HF.out.setCells _ _ _ (fun h => by omega)⟩
set_option maxRecDepth 100000 in
set_option maxHeartbeats 2000000 in
theorem shut1_no {w : World} {q : Option Addr} (h : NoW w q) (b : Nat) (hb : w.cell? ⟨b, 0, none⟩ = some (.pointer q)) (Kp : World → World → Prop) (n : Nat) (hn : 1 ≤ n) :
    SeqStopsK Fence.wide n Tryz.prog 83 #[.pointer (some ⟨b, 0, none⟩)] (fun x : Int × Int => #[.int .i64 x.1, .int .i64 x.2]) Kp (fun xs => xs = []) (fun _ => False) 0 w := by
  intro yl J Jx W0 hW0 hJ hJx hY h0
  have hf0 : Fr (fun b => w.heap.size ≤ b) w W0 := fr_below0 hW0
  have hbl := cell_lt hb
  have x1 : W0.cell? ⟨b, 0, none⟩ = some (.pointer q) := cell_keep (fun hb => hf0.block b hb (by omega)) hb
  have hq : NoW W0 q := by
    rcases h with rfl | ⟨p, rfl, hp⟩
    · exact .inl rfl
    · exact .inr ⟨p, rfl, hp.keep hf0 (by have := hp.lt; omega)⟩
  have HQ := Lib.hid hq
  have HJ := Lib.hid h0
  clear h hb hW0 hJ hJx hY h0 hf0 hq
  refine callsIn_of_wp Tryz.func83 rfl trivial ?_ rfl
  simp only [Tryz.ntmps83, List.size_toArray, List.length_cons, List.length_nil, Nat.reduceAdd, Nat.reduceSub, Array.replicate_succ, Array.replicate_zero, List.push_toArray, List.append_toArray, List.nil_append, List.cons_append]
  gi_wp2_with fail
  refine ⟨trivial, ?_⟩
  refine (callsIn_wide.2 (gthere_no HQ.out)).mono ?_
  rintro e w' ⟨rfl, rfl⟩
  gi_wp2
  refine bodyPost_ret (results_none rfl _ _ _) rfl ?_
  exact ⟨⟨_, rfl⟩, .inl ⟨[], rfl, HJ.out⟩⟩
theorem walk_results {a : Act} {Wf : World} {n : Nat} (h6 : a.tmps[6]?.getD undef = .pointer (some ⟨n + 1 + 1, 0, none⟩)) (c1 : Wf.cell? ⟨n + 1 + 1, 0, none⟩ = some (.bool true)) :
    (results Tryz.f27 a.tmps).run Tryz.prog Wf = .ok (.bool true) Wf := by
  simp [results, Tryz.results27, h6, go_sem, c1]
set_option maxRecDepth 100000 in
set_option maxHeartbeats 8000000 in
theorem walk_no {w : World} {q : Option Addr} (h : NoW w q) : Calls Tryz.prog 27 #[.pointer q, .slice none 0 0, .int .i64 1] w (Bool_ w true) := by
  have hf0 : Fr none_ w (((w.alloc (.cells #[.slice none 0 0] 114)).alloc (.cells #[.int .i64 1] 3)).alloc (.cells #[.bool false] 4)) := (((Fr.refl _ _).alloc _).alloc _).alloc _
  have hb0 := ((Blk.new w [.slice none 0 0] 114).alloc (.cells #[.int .i64 1] 3)).alloc (.cells #[.bool false] 4)
  have hb2 := Blk.new ((w.alloc (.cells #[.slice none 0 0] 114)).alloc (.cells #[.int .i64 1] 3)) [.bool false] 4
  rw [World.size_alloc, World.size_alloc] at hb2
  have HQ := Lib.hid (h.keep hf0); clear h
  have HF0 := Lib.hid hf0; clear hf0
  have HB0 := Lib.hid hb0; clear hb0
  have HB2 := Lib.hid hb2; clear hb2
  refine (callsIn_wide (n := 8)).1 ?_
  refine callsIn_of_wp_marks Tryz.func27 rfl trivial ?_ rfl
  simp only [Tryz.ntmps27, List.size_toArray, List.length_cons, List.length_nil, Nat.reduceAdd, Nat.reduceSub, Array.replicate_succ, Array.replicate_zero, List.push_toArray, List.append_toArray, List.nil_append, List.cons_append]
  gi_wp2_with fail
  refine ⟨trivial, ?_⟩
  refine (callsIn_wide.2 (gshut_any q _)).mono ?_
  rintro e W1 ⟨rfl, hc, hf⟩
  have HF1 := Lib.hid (HF0.out.trans hf)
  have HQ1 := Lib.hid (HQ.out.keep hf)
  have HB1 := Lib.hid (HB0.out.keep hf (fun h => h))
  have HB3 := Lib.hid (HB2.out.keep hf (fun h => h))
  have hsz := hf.size
  clear HF0 HQ HB0 HB2
  generalize (((w.alloc (.cells #[.slice none 0 0] 114)).alloc (.cells #[.int .i64 1] 3)).alloc (.cells #[.bool false] 4)).heap.size = nn at *
  clear hf
  have HC := Lib.hid hc; clear hc
  have hfe : ∀ (lb : Array Value) (W : World), Sem.run Tryz.prog (binOp .eql 116 (.func (.func 83) #[] lb) .nilFunc) W = .ok (.bool false) W := fun lb W => by kernel_rfl
  gi_wp2_with fail
  refine wpIn_loop_rounds 3 ?_
  rw [roundsIn_succ]
  gi_wp2_with fail
  have hf2 : Fr none_ W1 ((W1.alloc (.cells #[.int .i64 0] 3)).alloc (.cells #[.int .i64 0] 3)) := ((Fr.refl _ _).alloc _).alloc _
  have h8 := ((Blk.new W1 [.int .i64 0] 3).alloc (.cells #[.int .i64 0] 3))
  have h9 := Blk.new (W1.alloc (.cells #[.int .i64 0] 3)) [.int .i64 0] 3
  rw [World.size_alloc] at h9
  have HF2 := Lib.hid (HF1.out.trans hf2)
  have HQ2 := Lib.hid (HQ1.out.keep hf2)
  have HB2 := Lib.hid (HB1.out.keep hf2 (fun h => h))
  have HR2 := Lib.hid (HB3.out.keep hf2 (fun h => h))
  have HC2 := Lib.hid (cell_keep (fun hb => hf2.block nn hb (fun h => h)) HC.out)
  have H8 := Lib.hid h8
  have H9 := Lib.hid h9
  clear hf2 h8 h9 HF1 HQ1 HB1 HB3 HC
  generalize (W1.alloc (.cells #[.int .i64 0] 3)).alloc (.cells #[.int .i64 0] 3) = W2 at HF2 HQ2 HB2 HR2 HC2 H8 H9 ⊢
  refine wpIn_range_nothing (encs := fun x : Int × Int => #[.int .i64 x.1, .int .i64 x.2]) (Kp := fun _ _ => True) (by omega) (gf := 83) rfl (enters_of Tryz.func83 (by kernel_rfl) rfl) (shut1_no HQ2.out nn HC2.out _ 7 (by omega)) ?_
  intro Dd W3 hD hf3 hK
  have x9 : W3.cell? ⟨W1.heap.size + 1, 0, none⟩ = some (.int .i64 0) := (H9.out.keep hf3 (fun h => h)).cell 0
  have x8 : W3.cell? ⟨W1.heap.size, 0, none⟩ = some (.int .i64 0) := (H8.out.keep hf3 (fun h => h)).cell 0
  have x4 : W3.cell? ⟨w.heap.size, 0, none⟩ = some (.slice none 0 0) := (HB2.out.keep hf3 (fun h => h)).cell 0
  have HF3 := Lib.hid (HF2.out.trans hf3)
  have HQ3 := Lib.hid (HQ2.out.keep hf3)
  have HB3 := Lib.hid (HB2.out.keep hf3 (fun h => h))
  have HR3 := Lib.hid (HR2.out.keep hf3 (fun h => h))
  have HC3 := Lib.hid (cell_keep (fun hb => hf3.block nn hb (fun h => h)) HC2.out)
  have HK3 := Lib.hid hK
  have HF2S := Lib.hid HF2.out.size
  clear hf3 hK HF2 HQ2 HB2 HR2 HC2 H8 H9
  gi_wp2_with fail
  rw [roundsIn_succ]
  gi_wp2_with fail
  have hf4 : Fr none_ W3 ((W3.alloc (.cells #[.int .i64 1] 3)).alloc (.cells #[.int .i64 0] 3)) := ((Fr.refl _ _).alloc _).alloc _
  have g8 := ((Blk.new W3 [.int .i64 1] 3).alloc (.cells #[.int .i64 0] 3))
  have g9 := Blk.new (W3.alloc (.cells #[.int .i64 1] 3)) [.int .i64 0] 3
  rw [World.size_alloc] at g9
  have HF4 := Lib.hid (HF3.out.trans hf4)
  have HQ4 := Lib.hid (HQ3.out.keep hf4)
  have HB4 := Lib.hid (HB3.out.keep hf4 (fun h => h))
  have HR4 := Lib.hid (HR3.out.keep hf4 (fun h => h))
  have HC4 := Lib.hid (cell_keep (fun hb => hf4.block nn hb (fun h => h)) HC3.out)
  have HK4 := Lib.hid ((hf4.block Dd (heap_lt HK3.out) (fun h => h)).trans HK3.out)
  have HD4 := Lib.hid (Nat.lt_of_lt_of_le (heap_lt HK3.out) hf4.size)
  have G8 := Lib.hid g8
  have G9 := Lib.hid g9
  clear hf4 g8 g9 HF3 HQ3 HB3 HR3 HC3 HK3 x4 x8 x9
  generalize (W3.alloc (.cells #[.int .i64 1] 3)).alloc (.cells #[.int .i64 0] 3) = W4 at HF4 HQ4 HB4 HR4 HC4 HK4 HD4 G8 G9 ⊢
  refine wpIn_range_nothing (encs := fun x : Int × Int => #[.int .i64 x.1, .int .i64 x.2]) (Kp := fun _ _ => True) (by omega) (gf := 83) rfl (enters_of Tryz.func83 (by kernel_rfl) rfl) (shut1_no HQ4.out nn HC4.out _ 7 (by omega)) ?_
  intro De W5 hE hf5 hK
  have x9 : W5.cell? ⟨W3.heap.size + 1, 0, none⟩ = some (.int .i64 0) := (G9.out.keep hf5 (fun h => h)).cell 0
  have x8 : W5.cell? ⟨W3.heap.size, 0, none⟩ = some (.int .i64 1) := (G8.out.keep hf5 (fun h => h)).cell 0
  have x4 : W5.cell? ⟨w.heap.size, 0, none⟩ = some (.slice none 0 0) := (HB4.out.keep hf5 (fun h => h)).cell 0
  have HF5 := Lib.hid (HF4.out.trans hf5)
  have HR5 := Lib.hid (HR4.out.keep hf5 (fun h => h))
  have HK5 := Lib.hid ((hf5.block Dd (heap_lt HK4.out) (fun h => h)).trans HK4.out)
  have HE5 := Lib.hid hK
  have HNE := Lib.hid (show De ≠ Dd by have := HD4.out; omega)
  have HDW := Lib.hid hD
  have HEW := Lib.hid hE
  have HWD := HF2S
  have HWE := Lib.hid HF4.out.size
  clear hf5 hK HF4 HQ4 HB4 HR4 HC4 HK4 HD4 G8 G9 hD hE
  gi_wp2_with fail
  rw [roundsIn_succ]
  have x6 : (W5.alloc (.cells #[.int .i64 2] 3)).cell? ⟨w.heap.size + 1 + 1, 0, none⟩ = some (.bool false) := (HR5.out.alloc _).cell 0
  have z6 := (HR5.out.alloc (.cells #[.int .i64 2] 3)).frozen 0
  gi_wp2_with fail
  have k6 : KeepsOthers W5 ((W5.alloc (.cells #[.int .i64 2] 3)).setCell ⟨w.heap.size + 1 + 1, 0, none⟩ (.bool true)) := (KeepsOthers.alloc _ _).trans (KeepsOthers.setCell _ _ _)
  have hE6 := k6.same De _ HE5.out rfl
  have hD6 := k6.same Dd _ HK5.out rfl
  have b6 : Blk ((W5.alloc (.cells #[.int .i64 2] 3)).setCell ⟨w.heap.size + 1 + 1, 0, none⟩ (.bool true)) (w.heap.size + 1 + 1) [.bool true] 4 := (HR5.out.alloc _).set 0 (.bool true)
  have f6 : Fr none_ w ((W5.alloc (.cells #[.int .i64 2] 3)).setCell ⟨w.heap.size + 1 + 1, 0, none⟩ (.bool true)) := (HF5.out.alloc _).setNew (by omega) 0 _
  have hwD : w.heap.size ≤ Dd := Nat.le_trans HWD.out HDW.out
  have hwE : w.heap.size ≤ De := Nat.le_trans HWE.out HEW.out
  generalize (W5.alloc (.cells #[.int .i64 2] 3)).setCell ⟨w.heap.size + 1 + 1, 0, none⟩ (.bool true) = W6 at hE6 hD6 b6 f6 ⊢
  refine ⟨by simp, .inl ⟨_, _, rfl, run_takeDeferred hE6, ?_⟩⟩
  have hD7 : (W6.putObj De (.deferred none)).heap[Dd]? = some (.deferred (some [])) := (World.putObj_heap_other (fun e => HNE.out e.symm)).trans hD6
  have g7 := grownBy_putObj' W6 De (.deferred none)
  have b7 := b6.turn0 g7 hE6 rfl
  have f7 : Fr none_ w (W6.putObj De (.deferred none)) := f6.trans' (grownBy_fr g7) (fun i hi e => by injection e with e; omega)
  refine ⟨by simp, .inl ⟨_, _, rfl, run_takeDeferred hD7, ?_⟩⟩
  have g8 := grownBy_putObj' (W6.putObj De (.deferred none)) Dd (.deferred none)
  have b8 := b7.turn0 g8 hD7 rfl
  have f8 : Fr none_ w ((W6.putObj De (.deferred none)).putObj Dd (.deferred none)) := f7.trans' (grownBy_fr g8) (fun i hi e => by injection e with e; omega)
  have y6 := b8.cell 0
  change _ = some (Value.bool true) at y6
  refine ⟨_, walk_results (n := w.heap.size) rfl y6, rfl, f8⟩
end Go.Proofs.YtkiinokhdmmagaaGreat
