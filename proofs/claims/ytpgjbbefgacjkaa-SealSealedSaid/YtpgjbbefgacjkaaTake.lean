/- What 'take', 'measure' and 'May' of package value come to, at every value that is read. -/
import Derived.Test.YtpgjbbefgacjkaaProg
import Derived.Test.YtpgjbbefgacjkaaBase
import Derived.BigQuiet
import Derived.Deep.QuietTactic
import Derived.Deep.LoopGhost
namespace Go.Proofs.Ytpgjbbefgacjkaa
open Go.RowKit
set_option linter.unusedSimpArgs false
set_option linter.unusedVariables false

def TakeOut (w : World) (q : Nat) (v : V) (p m : Nat) (e : Ending) (w' : World) : Prop :=
  (∃ p', takeV v p m = some p' ∧ e = .returned (.bool true) ∧ p' ≤ p ∧ Blk w' q [.int .i64 p', .int .i64 m] 128 ∧ Fr (· = q) w w') ∨
  (takeV v p m = none ∧ e = .returned (.bool false) ∧ Fr (· = q) w w')
theorem TakeOut.some_ {w w' : World} {q : Nat} {v : V} {p m p' : Nat} (h : takeV v p m = some p') (hp : p' ≤ p) (hb : Blk w' q [.int .i64 p', .int .i64 m] 128) (hf : Fr (· = q) w w') : TakeOut w q v p m (.returned (.bool true)) w' :=
  .inl ⟨p', h, rfl, hp, hb, hf⟩
theorem TakeOut.none_ {w w' : World} {q : Nat} {v : V} {p m : Nat} (h : takeV v p m = none) (hf : Fr (· = q) w w') : TakeOut w q v p m (.returned (.bool false)) w' := .inr ⟨h, rfl, hf⟩

theorem take_zero (v : V) (m : Nat) : takeV v 0 m = none := by cases v; unfold takeV; rfl
theorem take_k0 (n : Int) (s : ByteArray) (l : List V) (r : Int) (p m : Nat) : takeV (.mk 0 n s l r) (p + 1) m = if n = 0 ∧ s.size = 0 ∧ r = 0 ∧ l.length = 0 then some p else none := by unfold takeV; simp
theorem take_k1 (n : Int) (s : ByteArray) (l : List V) (r : Int) (p m : Nat) : takeV (.mk 1 n s l r) (p + 1) m = if s.size = 0 ∧ r = 0 ∧ l.length = 0 then some p else none := by unfold takeV; simp
theorem take_k2 (n : Int) (s : ByteArray) (l : List V) (r : Int) (p m : Nat) : takeV (.mk 2 n s l r) (p + 1) m = if s.size ≤ 256 ∧ n = 0 ∧ r = 0 ∧ l.length = 0 then some p else none := by unfold takeV; simp
theorem take_k4 (n : Int) (s : ByteArray) (l : List V) (r : Int) (p m : Nat) : takeV (.mk 4 n s l r) (p + 1) m = if 1 ≤ r ∧ n = 0 ∧ s.size = 0 ∧ l.length = 0 then some p else none := by unfold takeV; simp
theorem take_k3z (n : Int) (s : ByteArray) (l : List V) (r : Int) (p : Nat) : takeV (.mk 3 n s l r) (p + 1) 0 = none := by unfold takeV; simp
theorem take_k3 (n : Int) (s : ByteArray) (l : List V) (r : Int) (p m : Nat) : takeV (.mk 3 n s l r) (p + 1) (m + 1) = if l.length ≤ p then (takeVs l p m).bind fun q => if n = 0 ∧ s.size = 0 ∧ r = 0 then some q else none else none := by
  unfold takeV; simp
theorem take_kx (k n : Int) (s : ByteArray) (l : List V) (r : Int) (p m : Nat) (h0 : k ≠ 0) (h1 : k ≠ 1) (h2 : k ≠ 2) (h3 : k ≠ 3) (h4 : k ≠ 4) : takeV (.mk k n s l r) (p + 1) m = none := by
  unfold takeV; simp [h0, h1, h2, h3, h4]
theorem size_toList (s : ByteArray) : s.size = 0 ↔ s.toList = [] := by
  rw [ByteArray.toList_eq, ← List.length_eq_zero_iff, Array.length_toList]; rfl


set_option maxRecDepth 100000 in
set_option maxHeartbeats 2000000 in
theorem take_w0 (q p m : Nat) (n r : Int) (s : ByteArray) (l : List V) (A : Option Addr) (c : Nat) (w : World) (hp : (p : Int) < 512)
    (hb : Blk w q [.int .i64 ((p : Int) + 1), .int .i64 m] 128) :
    Calls Try.prog 81 #[.pointer (some ⟨q, 0, none⟩), .agg #[.int .u8 0, .int .i64 n, .string s, .slice A l.length c, .int .i64 r]] w (TakeOut w q (.mk 0 n s l r) (p + 1) m) := by
  have hq := hb.lt
  have c0 : w.cell? ⟨q, 0, none⟩ = some (.int .i64 ((p : Int) + 1)) := hb.cell 0
  have f0 := hb.frozen 0
  have d4 : ((p : Int) + 1 == 0) = false := by simp; omega
  have es := size_toList s
  have HB := Lib.hid hb; clear hb
  have ES := Lib.hid es; clear es
  by_cases hl : l.length = 0
  all_goals
    first | (have hl1 : ((l.length : Int) == 0) = true := by simp [hl]) | (have hl1 : ((l.length : Int) == 0) = false := by simp [hl])
    have HL := Lib.hid hl; clear hl
    go_enter Try.func81, Try.ntmps81
    go_wp2
    all_goals
      go_ret
      first
        | (refine TakeOut.some_ (p' := p) ?_ (by omega) (((HB.out.set 0 _).alloc _).alloc _) (((Fr.set1 w q 0 _).alloc _).alloc _))
        | (refine TakeOut.none_ ?_ (((Fr.set1 w q 0 _).alloc _).alloc _))
      rw [take_k0]; simp [HL.out, ES.out, *]

set_option maxRecDepth 100000 in
set_option maxHeartbeats 2000000 in
theorem take_w1 (q p m : Nat) (n r : Int) (s : ByteArray) (l : List V) (A : Option Addr) (c : Nat) (w : World) (hp : (p : Int) < 512)
    (hb : Blk w q [.int .i64 ((p : Int) + 1), .int .i64 m] 128) :
    Calls Try.prog 81 #[.pointer (some ⟨q, 0, none⟩), .agg #[.int .u8 1, .int .i64 n, .string s, .slice A l.length c, .int .i64 r]] w (TakeOut w q (.mk 1 n s l r) (p + 1) m) := by
  have hq := hb.lt
  have c0 : w.cell? ⟨q, 0, none⟩ = some (.int .i64 ((p : Int) + 1)) := hb.cell 0
  have f0 := hb.frozen 0
  have d4 : ((p : Int) + 1 == 0) = false := by simp; omega
  have es := size_toList s
  have HB := Lib.hid hb; clear hb
  have ES := Lib.hid es; clear es
  by_cases hl : l.length = 0
  all_goals
    first | (have hl1 : ((l.length : Int) == 0) = true := by simp [hl]) | (have hl1 : ((l.length : Int) == 0) = false := by simp [hl])
    have HL := Lib.hid hl; clear hl
    go_enter Try.func81, Try.ntmps81
    go_wp2
    all_goals
      go_ret
      first
        | (refine TakeOut.some_ (p' := p) ?_ (by omega) (((HB.out.set 0 _).alloc _).alloc _) (((Fr.set1 w q 0 _).alloc _).alloc _))
        | (refine TakeOut.none_ ?_ (((Fr.set1 w q 0 _).alloc _).alloc _))
      rw [take_k1]; simp [HL.out, ES.out, *]

set_option maxRecDepth 100000 in
set_option maxHeartbeats 2000000 in
theorem take_w2a (q p m : Nat) (n r : Int) (s : ByteArray) (l : List V) (A : Option Addr) (c : Nat) (w : World) (hp : (p : Int) < 512) (hs : s.size ≤ 256)
    (hb : Blk w q [.int .i64 ((p : Int) + 1), .int .i64 m] 128) :
    Calls Try.prog 81 #[.pointer (some ⟨q, 0, none⟩), .agg #[.int .u8 2, .int .i64 n, .string s, .slice A l.length c, .int .i64 r]] w (TakeOut w q (.mk 2 n s l r) (p + 1) m) := by
  have hq := hb.lt
  have c0 : w.cell? ⟨q, 0, none⟩ = some (.int .i64 ((p : Int) + 1)) := hb.cell 0
  have f0 := hb.frozen 0
  have d4 : ((p : Int) + 1 == 0) = false := by simp; omega
  have es := size_toList s
  have HB := Lib.hid hb; clear hb
  have ES := Lib.hid es; clear es
  by_cases hl : l.length = 0
  all_goals
    first | (have hl1 : ((l.length : Int) == 0) = true := by simp [hl]) | (have hl1 : ((l.length : Int) == 0) = false := by simp [hl])
    have HL := Lib.hid hl; clear hl
    have d5 : decide ((256 : Int) < s.size) = false := by simp; omega
    have d6 : decide (256 < s.size) = false := by simp; omega
    have HS := Lib.hid hs; clear hs
    go_enter Try.func81, Try.ntmps81
    go_wp2
    all_goals
      go_ret
      first
        | (refine TakeOut.some_ (p' := p) ?_ (by omega) (((HB.out.set 0 _).alloc _).alloc _) (((Fr.set1 w q 0 _).alloc _).alloc _))
        | (refine TakeOut.none_ ?_ (((Fr.set1 w q 0 _).alloc _).alloc _))
      rw [take_k2]; simp [HL.out, HS.out, *]

set_option maxRecDepth 100000 in
set_option maxHeartbeats 2000000 in
theorem take_w2b (q p m : Nat) (n r : Int) (s : ByteArray) (l : List V) (A : Option Addr) (c : Nat) (w : World) (hp : (p : Int) < 512) (hs : 256 < s.size)
    (hb : Blk w q [.int .i64 ((p : Int) + 1), .int .i64 m] 128) :
    Calls Try.prog 81 #[.pointer (some ⟨q, 0, none⟩), .agg #[.int .u8 2, .int .i64 n, .string s, .slice A l.length c, .int .i64 r]] w (TakeOut w q (.mk 2 n s l r) (p + 1) m) := by
  have hq := hb.lt
  have c0 : w.cell? ⟨q, 0, none⟩ = some (.int .i64 ((p : Int) + 1)) := hb.cell 0
  have f0 := hb.frozen 0
  have d4 : ((p : Int) + 1 == 0) = false := by simp; omega
  have es := size_toList s
  have HB := Lib.hid hb; clear hb
  have ES := Lib.hid es; clear es
  all_goals
    have d5 : decide ((256 : Int) < s.size) = true := by simp; omega
    have d6 : decide (256 < s.size) = true := by simp; omega
    have HS := Lib.hid hs; clear hs
    go_enter Try.func81, Try.ntmps81
    go_wp2
    all_goals
      go_ret
      first
        | (refine TakeOut.some_ (p' := p) ?_ (by omega) (((HB.out.set 0 _).alloc _).alloc _) (((Fr.set1 w q 0 _).alloc _).alloc _))
        | (refine TakeOut.none_ ?_ (((Fr.set1 w q 0 _).alloc _).alloc _))
      rw [take_k2]; have := HS.out; rw [if_neg (by omega)]

set_option maxRecDepth 100000 in
set_option maxHeartbeats 2000000 in
theorem take_w4a (q p m : Nat) (n r : Int) (s : ByteArray) (l : List V) (A : Option Addr) (c : Nat) (w : World) (hp : (p : Int) < 512) (hr : 1 ≤ r)
    (hb : Blk w q [.int .i64 ((p : Int) + 1), .int .i64 m] 128) :
    Calls Try.prog 81 #[.pointer (some ⟨q, 0, none⟩), .agg #[.int .u8 4, .int .i64 n, .string s, .slice A l.length c, .int .i64 r]] w (TakeOut w q (.mk 4 n s l r) (p + 1) m) := by
  have hq := hb.lt
  have c0 : w.cell? ⟨q, 0, none⟩ = some (.int .i64 ((p : Int) + 1)) := hb.cell 0
  have f0 := hb.frozen 0
  have d4 : ((p : Int) + 1 == 0) = false := by simp; omega
  have es := size_toList s
  have HB := Lib.hid hb; clear hb
  have ES := Lib.hid es; clear es
  by_cases hl : l.length = 0
  all_goals
    first | (have hl1 : ((l.length : Int) == 0) = true := by simp [hl]) | (have hl1 : ((l.length : Int) == 0) = false := by simp [hl])
    have HL := Lib.hid hl; clear hl
    have d5 : decide (r < 1) = false := by simp; omega
    have HR := Lib.hid hr; clear hr
    go_enter Try.func81, Try.ntmps81
    go_wp2
    all_goals
      go_ret
      first
        | (refine TakeOut.some_ (p' := p) ?_ (by omega) (((HB.out.set 0 _).alloc _).alloc _) (((Fr.set1 w q 0 _).alloc _).alloc _))
        | (refine TakeOut.none_ ?_ (((Fr.set1 w q 0 _).alloc _).alloc _))
      rw [take_k4]; simp [HL.out, ES.out, HR.out, *]

set_option maxRecDepth 100000 in
set_option maxHeartbeats 2000000 in
theorem take_w4b (q p m : Nat) (n r : Int) (s : ByteArray) (l : List V) (A : Option Addr) (c : Nat) (w : World) (hp : (p : Int) < 512) (hr : r < 1)
    (hb : Blk w q [.int .i64 ((p : Int) + 1), .int .i64 m] 128) :
    Calls Try.prog 81 #[.pointer (some ⟨q, 0, none⟩), .agg #[.int .u8 4, .int .i64 n, .string s, .slice A l.length c, .int .i64 r]] w (TakeOut w q (.mk 4 n s l r) (p + 1) m) := by
  have hq := hb.lt
  have c0 : w.cell? ⟨q, 0, none⟩ = some (.int .i64 ((p : Int) + 1)) := hb.cell 0
  have f0 := hb.frozen 0
  have d4 : ((p : Int) + 1 == 0) = false := by simp; omega
  have es := size_toList s
  have HB := Lib.hid hb; clear hb
  have ES := Lib.hid es; clear es
  all_goals
    have d5 : decide (r < 1) = true := by simp; omega
    have HR := Lib.hid hr; clear hr
    go_enter Try.func81, Try.ntmps81
    go_wp2
    all_goals
      go_ret
      first
        | (refine TakeOut.some_ (p' := p) ?_ (by omega) (((HB.out.set 0 _).alloc _).alloc _) (((Fr.set1 w q 0 _).alloc _).alloc _))
        | (refine TakeOut.none_ ?_ (((Fr.set1 w q 0 _).alloc _).alloc _))
      rw [take_k4]; have := HR.out; rw [if_neg (by omega)]

set_option maxRecDepth 100000 in
set_option maxHeartbeats 2000000 in
theorem take_wx (q p m : Nat) (k : Int) (n r : Int) (s : ByteArray) (l : List V) (A : Option Addr) (c : Nat) (w : World) (hp : (p : Int) < 512)  (h0 : (k == 0) = false) (h1 : (k == 1) = false) (h2 : (k == 2) = false) (h3 : (k == 3) = false) (h4 : (k == 4) = false)
    (hb : Blk w q [.int .i64 ((p : Int) + 1), .int .i64 m] 128) :
    Calls Try.prog 81 #[.pointer (some ⟨q, 0, none⟩), .agg #[.int .u8 k, .int .i64 n, .string s, .slice A l.length c, .int .i64 r]] w (TakeOut w q (.mk k n s l r) (p + 1) m) := by
  have hq := hb.lt
  have c0 : w.cell? ⟨q, 0, none⟩ = some (.int .i64 ((p : Int) + 1)) := hb.cell 0
  have f0 := hb.frozen 0
  have d4 : ((p : Int) + 1 == 0) = false := by simp; omega
  have es := size_toList s
  have HB := Lib.hid hb; clear hb
  have ES := Lib.hid es; clear es
  all_goals
    go_enter Try.func81, Try.ntmps81
    go_wp2
    all_goals
      go_ret
      first
        | (refine TakeOut.some_ (p' := p) ?_ (by omega) (((HB.out.set 0 _).alloc _).alloc _) (((Fr.set1 w q 0 _).alloc _).alloc _))
        | (refine TakeOut.none_ ?_ (((Fr.set1 w q 0 _).alloc _).alloc _))
      rw [take_kx k n s l r p m (by simpa using h0) (by simpa using h1) (by simpa using h2) (by simpa using h3) (by simpa using h4)]

set_option maxRecDepth 100000 in
set_option maxHeartbeats 2000000 in
theorem take_w3z (q p : Nat) (n r : Int) (s : ByteArray) (l : List V) (A : Option Addr) (c : Nat) (w : World) (hp : (p : Int) < 512)
    (hb : Blk w q [.int .i64 ((p : Int) + 1), .int .i64 0] 128) :
    Calls Try.prog 81 #[.pointer (some ⟨q, 0, none⟩), .agg #[.int .u8 3, .int .i64 n, .string s, .slice A l.length c, .int .i64 r]] w (TakeOut w q (.mk 3 n s l r) (p + 1) 0) := by
  have hq := hb.lt
  have c0 : w.cell? ⟨q, 0, none⟩ = some (.int .i64 ((p : Int) + 1)) := hb.cell 0
  have c1 : w.cell? ⟨q, 1, none⟩ = some (.int .i64 0) := hb.cell 1
  have f0 := hb.frozen 0
  have d4 : ((p : Int) + 1 == 0) = false := by simp; omega
  have HB := Lib.hid hb; clear hb
  go_enter Try.func81, Try.ntmps81
  go_wp2
  go_quiet (fail)
  go_wp2
  go_ret
  refine TakeOut.none_ (by rw [take_k3z]) ?_
  exact ((((Fr.set1 w q 0 _).alloc _).alloc _).drewN _)
set_option maxRecDepth 100000 in
set_option maxHeartbeats 2000000 in
theorem take_w3b (q p m : Nat) (n r : Int) (s : ByteArray) (l : List V) (A : Option Addr) (c : Nat) (w : World) (hp : (p : Int) < 512) (hl : p < l.length)
    (hb : Blk w q [.int .i64 ((p : Int) + 1), .int .i64 ((m : Int) + 1)] 128) :
    Calls Try.prog 81 #[.pointer (some ⟨q, 0, none⟩), .agg #[.int .u8 3, .int .i64 n, .string s, .slice A l.length c, .int .i64 r]] w (TakeOut w q (.mk 3 n s l r) (p + 1) (m + 1)) := by
  have hq := hb.lt
  have c0 : w.cell? ⟨q, 0, none⟩ = some (.int .i64 ((p : Int) + 1)) := hb.cell 0
  have c1 : w.cell? ⟨q, 1, none⟩ = some (.int .i64 ((m : Int) + 1)) := hb.cell 1
  have f0 := hb.frozen 0
  have f1 := hb.frozen 1
  have d4 : ((p : Int) + 1 == 0) = false := by simp; omega
  have d1 : ((m : Int) + 1 == 0) = false := by simp; omega
  have d2 : decide ((p : Int) < l.length) = true := by simp; omega
  have d3 : decide (p < l.length) = true := by simp; omega
  have HB := Lib.hid hb; clear hb
  have HL := Lib.hid hl; clear hl
  go_enter Try.func81, Try.ntmps81
  go_wp2
  go_quiet (fail)
  go_wp2
  go_ret
  refine TakeOut.none_ ?_ ((((Fr.set1 w q 0 _).alloc _).alloc _).drewN _)
  have := HL.out
  rw [take_k3, if_neg (by omega)]

end Go.Proofs.Ytpgjbbefgacjkaa
