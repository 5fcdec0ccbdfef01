/- 'there' and 'fits' of package world. -/
import Derived.Test.YtpgjbbefgacjkaaFits0
import Derived.Test.YtpgjbbefgacjkaaNames
import Derived.Maps.RangeWalk
import Derived.Deep.CutBlock
namespace Go.Proofs.Ytpgjbbefgacjkaa
open Go.RowKit
set_option linter.unusedSimpArgs false
set_option linter.unusedVariables false
set_option linter.unusedSectionVars false
section
variable {w : World} {p : Nat} {W : AW} {M D : Nat → Prop} {pa : Option Addr} {pc bc bt bf bm ck fk : Nat} {L : List (Int × Nat × Nat)} {FL : List ((Int × Int) × Int × Nat)}
/-- Of such a kind, and at such a home. -/
def thereB (W : AW) (of k home : Int) : Bool := match W.at_ of with | some x => decide (x.kind = k) && decide (x.home = home) | none => false
set_option maxRecDepth 100000 in
set_option maxHeartbeats 2000000 in
theorem there_any (h : RepW w p W M D pa pc bc bt bf bm ck fk L FL) (of k home : Int) (bw bx : Nat) (hk : k ≠ 0) (hb : w.cell? ⟨bw, 0, none⟩ = some (.pointer (some ⟨p, 0, none⟩))) (hx : w.cell? ⟨bx, 1, none⟩ = some (.int .i64 home)) :
    Calls Try.prog 73 #[.int .i64 of, .int .u8 k, .pointer (some ⟨bw, 0, none⟩), .pointer (some ⟨bx, 0, none⟩)] w (Bool_ w (thereB W of k home)) := by
  have c2 := h.c2
  have hl : ∀ n, (Instr.lookup 59 (.map (some bt)) (.int .i64 of) false).run Try.prog (w.drewN n) = .ok (.pointer ((blkOf L of).map fun b => ⟨b, 0, none⟩)) (w.drewN n) := fun n => look_run (h.keep (S := none_) ((Fr.refl none_ w).drewN n) (fun _ _ h => h) (fun _ _ h => h)) of
  have HF : ∀ n, RepW (w.drewN n) p W M D pa pc bc bt bf bm ck fk L FL := fun n => h.keep (S := none_) ((Fr.refl none_ w).drewN n) (fun _ _ h => h) (fun _ _ h => h)
  have HH := Lib.hid HF; clear HF
  rcases h.look of with ⟨h1, h2⟩ | ⟨x, b, u, h1, h2, hm, hbx, hrx⟩
  · have hko : kindOf W of = 0 := by unfold kindOf; rw [h1]
    have d : ((0 : Int) == k) = false := by simpa using fun e => hk e.symm
    have hr : thereB W of k home = false := by unfold thereB; rw [h1]
    have HR := Lib.hid hr; clear hr
    have HK := Lib.hid hko; clear hko
    clear h h1 h2 hl hk
    go_enter Try.func73, Try.ntmps73
    go_wp2
    go_quiet ((go_at_call 33; refine Calls.quiet_of_same (v := .int .u8 (0)) ((kind_any (HH.out _) of).mono ?_); rintro e w' ⟨rfl, rfl⟩; rw [HK.out]; exact ⟨rfl, rfl⟩))
    go_wp2
    go_ret
    exact ⟨ret_bool HR.out.symm, (Fr.refl _ _).drewN _⟩
  · have hko : kindOf W of = x.kind := by unfold kindOf; rw [h1]
    have HK := Lib.hid hko; clear hko
    rw [h2] at hl
    simp only [Option.map_some] at hl
    have k1 : w.cell? ⟨b, 1, none⟩ = some (.int .i64 x.home) := hbx.cell 1
    have hr : thereB W of k home = (decide (x.kind = k) && decide (x.home = home)) := by unfold thereB; rw [h1]
    have HR := Lib.hid hr; clear hr
    clear h h1 h2 hbx hrx hm
    by_cases e : x.kind = k
    · have d : (x.kind == k) = true := by simpa using e
      have E := Lib.hid e; clear e
      go_enter Try.func73, Try.ntmps73
      go_wp2
      go_quiet ((go_at_call 33; refine Calls.quiet_of_same (v := .int .u8 (x.kind)) ((kind_any (HH.out _) of).mono ?_); rintro e w' ⟨rfl, rfl⟩; rw [HK.out]; exact ⟨rfl, rfl⟩))
      go_wp2
      go_ret
      exact ⟨ret_bool (by rw [HR.out]; simp [E.out]; rfl), (Fr.refl _ _).drewN _⟩
    · have d : (x.kind == k) = false := by simpa using e
      have E := Lib.hid e; clear e
      go_enter Try.func73, Try.ntmps73
      go_wp2
      go_quiet ((go_at_call 33; refine Calls.quiet_of_same (v := .int .u8 (x.kind)) ((kind_any (HH.out _) of).mono ?_); rintro e w' ⟨rfl, rfl⟩; rw [HK.out]; exact ⟨rfl, rfl⟩))
      go_wp2
      go_ret
      exact ⟨ret_bool (by rw [HR.out]; simp [E.out]), (Fr.refl _ _).drewN _⟩
def fitsKinds (k : Int) : Bool := [1, 2, 3, 4, 5, 8, 10, 12].contains k
set_option maxRecDepth 100000 in
set_option maxHeartbeats 2000000 in
theorem fits_t (r : Int) (x : X) (u : Under) (hk : x.kind = 1 ∨ x.kind = 2 ∨ x.kind = 3 ∨ x.kind = 4 ∨ x.kind = 5 ∨ x.kind = 8 ∨ x.kind = 10 ∨ x.kind = 12) (w : World) : Calls Try.prog 50 #[.pointer (some ⟨p, 0, none⟩), .int .i64 r, x.agg u] w (Bool_ w true) := by
  have hmf : ∀ (fn : Fn) (first cap : Array Value) (w : World), (Instr.makeFunc fn first cap).run Try.prog w = .ok (.func fn first cap) w := fun _ _ _ _ => rfl
  have d6 : (x.kind == 6) = false := by rcases hk with e | e | e | e | e | e | e | e <;> simp [e]
  have d7 : (x.kind == 7) = false := by rcases hk with e | e | e | e | e | e | e | e <;> simp [e]
  have d9 : (x.kind == 9) = false := by rcases hk with e | e | e | e | e | e | e | e <;> simp [e]
  have d11 : (x.kind == 11) = false := by rcases hk with e | e | e | e | e | e | e | e <;> simp [e]
  have d15 : (x.kind == 15) = false := by rcases hk with e | e | e | e | e | e | e | e <;> simp [e]
  have d16 : (x.kind == 16) = false := by rcases hk with e | e | e | e | e | e | e | e <;> simp [e]
  have d13 : (x.kind == 13) = false := by rcases hk with e | e | e | e | e | e | e | e <;> simp [e]
  have d14 : (x.kind == 14) = false := by rcases hk with e | e | e | e | e | e | e | e <;> simp [e]
  clear hk
  go_enter Try.func50, Try.ntmps50
  go_wp2
  go_ret
  exact ⟨rfl, ((Fr.refl _ _).alloc _).alloc _⟩
set_option maxRecDepth 100000 in
set_option maxHeartbeats 2000000 in
theorem fits_7 (h : RepW w p W M D pa pc bc bt bf bm ck fk L FL) (r : Int) (x : X) (u : Under) (hk : x.kind = 7) : Calls Try.prog 50 #[.pointer (some ⟨p, 0, none⟩), .int .i64 r, x.agg u] w (Bool_ w (thereB W x.of_ 5 x.home)) := by
  have H := Lib.hid h; clear h
  have hmf : ∀ (fn : Fn) (first cap : Array Value) (w : World), (Instr.makeFunc fn first cap).run Try.prog w = .ok (.func fn first cap) w := fun _ _ _ _ => rfl
  have d6 : (x.kind == 6) = false := by simp [hk]
  have d7 : (x.kind == 7) = true := by simp [hk]
  clear hk
  go_enter Try.func50, Try.ntmps50
  go_upto_region 6 with (fail)
  refine code_gen ?_
  intro W1 hW
  have hb0 : Blk W1 w.heap.size [.pointer (some ⟨p, 0, none⟩)] 23 := by rw [hW]; exact (Blk.new w _ _).alloc _
  have hb1 : Blk W1 (w.heap.size + 1) (x.cells u) 69 := by rw [hW]; have h := Blk.new (w.alloc (.cells #[.pointer (some ⟨p, 0, none⟩)] 23)) (x.cells u) 69; rw [World.size_alloc] at h; exact h
  have hf : Fr none_ w W1 := by rw [hW]; exact ((Fr.refl _ _).alloc _).alloc _
  clear hW
  have x0 : W1.cell? ⟨w.heap.size, 0, none⟩ = some (.pointer (some ⟨p, 0, none⟩)) := hb0.cell 0
  have y1 : W1.cell? ⟨w.heap.size + 1, 1, none⟩ = some (.int .i64 x.home) := hb1.cell 1
  have y10 : W1.cell? ⟨w.heap.size + 1, 10, none⟩ = some (.int .i64 x.of_) := hb1.cell 10
  have HB0 := Lib.hid hb0; clear hb0
  have HB1 := Lib.hid hb1; clear hb1
  have HF := Lib.hid hf; clear hf
  go_wp2_with fail
  refine (there_any (H.out.keep HF.out (fun _ _ h => h) (fun _ _ h => h)) x.of_ 5 x.home _ _ (by decide) x0 y1).mono ?_
  rintro e w' ⟨rfl, hf1⟩
  have hf2 := HF.out.trans hf1
  have HF2 := Lib.hid hf2; clear hf2 hf1
  go_wp2
  go_ret
  exact ⟨rfl, HF2.out⟩
set_option maxRecDepth 100000 in
set_option maxHeartbeats 2000000 in
theorem fits_6 (h : RepW w p W M D pa pc bc bt bf bm ck fk L FL) (r : Int) (x : X) (u : Under) (hk : x.kind = 6) : Calls Try.prog 50 #[.pointer (some ⟨p, 0, none⟩), .int .i64 r, x.agg u] w (Bool_ w (thereB W x.of_ 5 x.home && !otherB W r 6 x.of_)) := by
  have H := Lib.hid h; clear h
  have hmf : ∀ (fn : Fn) (first cap : Array Value) (w : World), (Instr.makeFunc fn first cap).run Try.prog w = .ok (.func fn first cap) w := fun _ _ _ _ => rfl
  have d6 : (x.kind == 6) = true := by simp [hk]
  clear hk
  go_enter Try.func50, Try.ntmps50
  go_upto_region 4 with (fail)
  refine code_gen ?_
  intro W1 hW
  have hb0 : Blk W1 w.heap.size [.pointer (some ⟨p, 0, none⟩)] 23 := by rw [hW]; exact (Blk.new w _ _).alloc _
  have hb1 : Blk W1 (w.heap.size + 1) (x.cells u) 69 := by rw [hW]; have h := Blk.new (w.alloc (.cells #[.pointer (some ⟨p, 0, none⟩)] 23)) (x.cells u) 69; rw [World.size_alloc] at h; exact h
  have hf : Fr none_ w W1 := by rw [hW]; exact ((Fr.refl _ _).alloc _).alloc _
  clear hW
  have x0 : W1.cell? ⟨w.heap.size, 0, none⟩ = some (.pointer (some ⟨p, 0, none⟩)) := hb0.cell 0
  have y1 : W1.cell? ⟨w.heap.size + 1, 1, none⟩ = some (.int .i64 x.home) := hb1.cell 1
  have y10 : W1.cell? ⟨w.heap.size + 1, 10, none⟩ = some (.int .i64 x.of_) := hb1.cell 10
  have HB0 := Lib.hid hb0; clear hb0
  have HB1 := Lib.hid hb1; clear hb1
  have HF := Lib.hid hf; clear hf
  go_wp2_with fail
  refine (there_any (H.out.keep HF.out (fun _ _ h => h) (fun _ _ h => h)) x.of_ 5 x.home _ _ (by decide) x0 y1).mono ?_
  rintro e w2 ⟨rfl, hf1⟩
  have x0' : w2.cell? ⟨w.heap.size, 0, none⟩ = some (.pointer (some ⟨p, 0, none⟩)) := (HB0.out.keep hf1 (fun h => h)).cell 0
  have y10' : w2.cell? ⟨w.heap.size + 1, 10, none⟩ = some (.int .i64 x.of_) := (HB1.out.keep hf1 (fun h => h)).cell 10
  have hf2 := HF.out.trans hf1
  have HF2 := Lib.hid hf2; clear hf2 hf1
  cases hth : thereB W x.of_ 5 x.home with
  | false =>
    have HT := Lib.hid hth; clear hth
    go_wp2
    go_ret
    exact ⟨ret_bool (by rw [HT.out]; rfl), HF2.out⟩
  | true =>
    have HT := Lib.hid hth; clear hth
    go_wp2_with fail
    refine (other_any (H.out.keep HF2.out (fun _ _ h => h) (fun _ _ h => h)) r 6 x.of_).mono ?_
    rintro e w3 ⟨rfl, hf3⟩
    have hf4 := HF2.out.trans hf3
    have HF4 := Lib.hid hf4; clear hf4 hf3
    go_wp2
    go_ret
    exact ⟨ret_bool (by rw [HT.out]; simp), HF4.out⟩
end
end Go.Proofs.Ytpgjbbefgacjkaa
