/- 'Great' of the reference of layer 9: how much room a value takes. -/
import Derived.Test.YtpgjbbefgacjkaaTakeL
namespace Go.Proofs.Ytpgjbbefgacjkaa
open Go.RowKit
set_option linter.unusedSimpArgs false
set_option linter.unusedVariables false
set_option linter.unusedSectionVars false
mutual
def roomV : V → Int → Int
  | .mk k n s l r, left => if left < 0 then -1 else roomL l (left - 1 - (s.size : Int) / 64)
def roomL : List V → Int → Int
  | [], left => left
  | v :: l, left => if 0 ≤ left then roomL l (roomV v left) else left
end
def greatB (v : V) : Bool := decide (roomV v 20000 < 0)
def RoomB (n : Int) : Prop := -4398046511104 ≤ n ∧ n ≤ 20000
theorem roomL_neg (l : List V) (left : Int) (h : left < 0) : roomL l left = left := by
  cases l with
  | nil => rfl
  | cons v l => unfold roomL; rw [if_neg (by omega)]
theorem roomL_drop (l : List V) (j : Nat) (h : j < l.length) (left : Int) (h0 : 0 ≤ left) : roomL (l.drop j) left = roomL (l.drop (j + 1)) (roomV l[j] left) := by
  rw [List.drop_eq_getElem_cons h]
  show (if 0 ≤ left then _ else _) = _
  rw [if_pos h0]
theorem roomL_B (l : List V) (hx : ∀ x, x ∈ l → ∀ n, RoomB n → RoomB (roomV x n)) : ∀ n, RoomB n → RoomB (roomL l n) := by
  induction l with
  | nil => intro n h; exact h
  | cons v l ih =>
    intro n h
    unfold roomL
    split
    · exact ih (fun x hx' => hx x (List.mem_cons_of_mem _ hx')) _ (hx v (List.mem_cons_self ..) n h)
    · exact h
theorem roomV_B {w : World} {D : Nat → Prop} {z : Prop} (v : V) : ∀ cs, RV w D z v cs → ∀ n, RoomB n → RoomB (roomV v n) := by
  induction v using V.ind with
  | h k n s l r ih =>
    intro cs hv m hm
    have hsz := hv.bounds.2.2.2.1
    obtain ⟨A0, c0, _, _, hs⟩ := hv.form
    unfold roomV
    split
    · unfold RoomB; omega
    · refine roomL_B l (fun x hx n hn => ?_) _ ?_
      · obtain ⟨i, hi, rfl⟩ := List.mem_iff_getElem.1 hx
        obtain ⟨b, o, cs', _, _, _, _, hv'⟩ := RVs.at_ l A0 i hi hs
        exact ih _ (List.getElem_mem _) cs' hv' n hn
      · have h1 : s.size ≤ 140737488351232 := hsz
        have := hm.2
        unfold RoomB
        omega
def RoomAll (D : Nat → Prop) (z : Prop) (l : List V) : Prop := ∀ x, x ∈ l → ∀ (A : Option Addr) (c : Nat) (n : Int) (w : World), RV w D z x (x.cells A c) → (∀ b, D b → b < w.heap.size) → RoomB n → (Calls Try.prog 41 #[x.agg A c, .int .i64 n] w fun e w' => e = .returned (.int .i64 (roomV x n)) ∧ Fr none_ w w') ∧ RoomB (roomV x n)
def RoomRel (w : World) (cs : List Value) (l : List V) (n0 : Int) (g : Nat) (s1 s5 : Value) (wr : World) : Prop :=
  ∃ (j : Nat) (n : Int), j + g = l.length ∧ s5 = .int .i64 (j : Int) ∧ s1 = .int .i64 n ∧ RoomB n ∧ roomL (l.drop j) n = roomL l n0 ∧ Blk wr w.heap.size cs 37 ∧ Fr none_ w wr
set_option maxRecDepth 100000 in
set_option maxHeartbeats 2000000 in
theorem room_w (D : Nat → Prop) (z : Prop) (k n r : Int) (s : ByteArray) (l : List V) (A : Option Addr) (c : Nat) (left : Int) (w : World) (h4 : s.size ≤ 140737488351232) (hlb : l.length ≤ 2199023255552) (hx : RoomAll D z l) (hD : ∀ b, D b → b < w.heap.size) (hs : RVs w D z l A) (hl0 : 0 ≤ left) (hl1 : left ≤ 20000) :
    Calls Try.prog 41 #[.agg #[.int .u8 k, .int .i64 n, .string s, .slice A l.length c, .int .i64 r], .int .i64 left] w fun e w' => e = .returned (.int .i64 (roomL l (left - 1 - (s.size : Int) / 64))) ∧ Fr none_ w w' := by
  have HX := Lib.hid hx; clear hx
  have HD := Lib.hid hD; clear hD
  have HS := Lib.hid hs; clear hs
  have dl : decide (left < 0) = false := by simp; omega
  have hq0 : 0 ≤ (s.size : Int) / 64 := by omega
  have hq1 : (s.size : Int) / 64 ≤ 2199023255552 := by omega
  have hb := Blk.new w [.int .u8 k, .int .i64 n, .string s, .slice A l.length c, .int .i64 r] 37
  have HB := Lib.hid hb; clear hb
  go_enter Try.func41, Try.ntmps41
  go_wp2
  go_loopg [1, 5] (l.length) (fun g s1 s5 wr => RoomRel w [.int .u8 k, .int .i64 n, .string s, .slice A l.length c, .int .i64 r] l (left - 1 - (s.size : Int) / 64) g s1 s5 wr)
  case atStart => exact ⟨0, _, by omega, rfl, rfl, by unfold RoomB; omega, rfl, HB.out, (Fr.refl _ _).alloc _⟩
  case round =>
    obtain ⟨j, m, hjg, rfl, rfl, hB, hr, hbk, hf⟩ := hrel
    have x3 : wr.cell? ⟨w.heap.size, 3, none⟩ = some (.slice A l.length c) := hbk.cell 3
    have hbl := hbk.lt
    have HRR := Lib.hid hr; clear hr
    have HBK := Lib.hid hbk; clear hbk
    have HF := Lib.hid hf; clear hf
    have HBB := Lib.hid hB; clear hB
    by_cases hlt : j < l.length
    · by_cases hm : 0 ≤ m
      · have dm : decide (m ≥ 0) = true := by simpa using hm
        have hmu := HBB.out.2
        have hs' := HS.out.fr HF.out (fun _ _ h => h)
        obtain ⟨b1, o1, A1, c1', he, hd1, e0, e1, e2, e3, e4, hv⟩ := hs'.elem hlt
        subst he
        have HV := Lib.hid hv; clear hv
        clear hs' hd1
        have hjb : (j : Int) < l.length := by omega
        have hc := HX.out l[j] (List.getElem_mem _) A1 c1' m wr HV.out (fun b hd => Nat.lt_of_lt_of_le (HD.out b hd) HF.out.size) HBB.out
        have HC2 := Lib.hid hc.2
        have HC1 := Lib.hid hc.1; clear hc
        go_wp2_with fail
        refine HC1.out.mono ?_
        rintro e w1 ⟨rfl, hf1⟩
        have hbk1 := HBK.out.keep hf1 (fun h => h)
        have hff := HF.out.trans hf1
        have HBK1 := Lib.hid hbk1; clear hbk1
        have HFF := Lib.hid hff; clear hff hf1
        clear x3 e0 e1 e2 e3 e4
        go_wp2
        go_roundg (gk - 1)
        case measure => omega
        case rel => exact ⟨j + 1, roomV l[j] m, by omega, by go_num, rfl, HC2.out, by rw [← HRR.out, roomL_drop l j hlt m hm], HBK1.out, HFF.out⟩
      · have dm : decide (m ≥ 0) = false := by simp; omega
        have hr := HRR.out
        rw [roomL_neg _ _ (by omega)] at hr
        have HR2 := Lib.hid hr; clear hr
        go_wp2
        go_ret
        exact ⟨ret_int HR2.out, HF.out⟩
    · obtain rfl : j = l.length := by omega
      have hr := HRR.out
      rw [List.drop_length] at hr
      have HR2 := Lib.hid hr; clear hr
      clear hlt
      go_wp2
      go_ret
      exact ⟨ret_int HR2.out, HF.out⟩
set_option maxRecDepth 100000 in
set_option maxHeartbeats 1000000 in
theorem room_neg (k n r : Int) (s : ByteArray) (ln : Nat) (A : Option Addr) (c : Nat) (left : Int) (w : World) (hl : left < 0) :
    Calls Try.prog 41 #[.agg #[.int .u8 k, .int .i64 n, .string s, .slice A ln c, .int .i64 r], .int .i64 left] w fun e w' => e = .returned (.int .i64 (-1)) ∧ Fr none_ w w' := by
  have dl : decide (left < 0) = true := by simpa using hl
  go_enter Try.func41, Try.ntmps41
  go_wp2
  go_ret
  exact ⟨rfl, (Fr.refl _ _).alloc _⟩
theorem room_any (D : Nat → Prop) (z : Prop) (v : V) : RoomAll D z [v] := by
  induction v using V.ind with
  | h k n s l r ih =>
    intro x hx A c m w hv hD hB
    obtain rfl : x = .mk k n s l r := by simpa using hx
    obtain ⟨b1, b2, b3, b4, b5⟩ := hv.bounds
    have b4' : s.size ≤ 140737488351232 := b4
    have hs := hv.list.1
    have hall : RoomAll D z l := fun y hy => ih y hy y (List.mem_singleton_self y)
    have hbb := roomV_B (.mk k n s l r) _ hv m hB
    refine ⟨?_, hbb⟩
    by_cases hm : m < 0
    · have e : roomV (.mk k n s l r) m = -1 := by unfold roomV; rw [if_pos hm]
      rw [e]
      exact room_neg k n r s _ A c m w hm
    · have e : roomV (.mk k n s l r) m = roomL l (m - 1 - (s.size : Int) / 64) := by unfold roomV; rw [if_neg hm]
      rw [e]
      exact room_w D z k n r s l A c m w b4 b5 hall hD hs (by omega) hB.2
set_option maxRecDepth 100000 in
set_option maxHeartbeats 1000000 in
theorem great_any (D : Nat → Prop) (z : Prop) (v : V) (A : Option Addr) (c : Nat) (w : World) (hv : RV w D z v (v.cells A c)) (hD : ∀ b, D b → b < w.heap.size) :
    Calls Try.prog 15 #[v.agg A c] w (Bool_ w (greatB v)) := by
  have hb := Blk.new w (v.cells A c) 37
  have x0 : (w.alloc (.cells (v.cells A c).toArray 37)).cell? ⟨w.heap.size, 0, none⟩ = some (.int .u8 v.k) := hb.cell 0
  have hc := room_any D z v v (List.mem_singleton_self v) A c 20000 (w.alloc (.cells (v.cells A c).toArray 37)) (hv.fr ((Fr.refl none_ w).alloc _) (fun _ _ h => h)) (fun b hd => by have := hD b hd; simp; omega) (by unfold RoomB; omega)
  have HC := Lib.hid hc.1; clear hc hb hv hD x0
  go_enter Try.func15, Try.ntmps15
  go_wp2_with fail
  refine HC.out.mono ?_
  rintro e w1 ⟨rfl, hf⟩
  have HF := Lib.hid ((Fr.refl none_ w).alloc (.cells (v.cells A c).toArray 37) |>.trans hf); clear hf
  go_wp2
  go_ret
  exact ⟨rfl, HF.out⟩
end Go.Proofs.Ytpgjbbefgacjkaa
