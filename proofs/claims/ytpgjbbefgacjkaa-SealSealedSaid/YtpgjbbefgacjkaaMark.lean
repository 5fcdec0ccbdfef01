/- 'mark', 'Of' of package brand at references; 'pair', 'Mark', 'Same' of package seal. -/
import Derived.Test.YtpgjbbefgacjkaaWhat
import Derived.Test.YtpgjbbefgacjkaaSeal
import Derived.Lib.IfaceEq
import Derived.Deep.CutBlock
namespace Go.Proofs.Ytpgjbbefgacjkaa
open Go.RowKit
set_option linter.unusedSimpArgs false
set_option linter.unusedVariables false
set_option linter.unusedSectionVars false
/-- The mark of a reference. -/
abbrev markV (r : Int) : Value := .iface 153 (.int .i64 r)
def refV (r : Int) : V := .mk 4 0 ⟨#[]⟩ [] r
theorem refV_may (r : Int) (h1 : 1 ≤ r) : (refV r).may = true := by unfold refV V.may; rw [show (512 : Nat) = 511 + 1 from rfl, takeV]; simp [h1]; rfl
theorem mark_eq (a b : Int) (w : World) : (binOp .eql 88 (markV a) (markV b)).run Try.prog w = .ok (.bool (a == b)) w :=
  Lib.run_eql_iface_int w a b Try.underlying88 (by kernel_rfl) Try.underlying153
theorem RV_ref (w : World) (D : Nat → Prop) (z : Prop) (r : Int) (hr : I64 r) : RV w D z (refV r) ((refV r).cells none 0) := by
  unfold refV RV
  exact ⟨by unfold U8; omega, by unfold I64; omega, hr, Nat.zero_le _, by simp, none, 0, rfl, Nat.le_refl _, by unfold RVs; trivial⟩
set_option maxRecDepth 100000 in
set_option maxHeartbeats 2000000 in
theorem bmark_ref (r : Int) (w : World) : Calls Try.prog 87 #[(refV r).agg none 0] w fun e w' => e = .returned (markV r) ∧ Fr none_ w w' := by
  show Calls Try.prog 87 #[.agg #[.int .u8 4, .int .i64 0, .string ⟨#[]⟩, .slice none 0 0, .int .i64 r]] w _
  go_enter Try.func87, Try.ntmps87
  go_wp2
  go_ret
  exact ⟨rfl, (Fr.refl _ _).alloc _⟩
set_option maxRecDepth 100000 in
set_option maxHeartbeats 2000000 in
theorem bof_ref (r : Int) (hr : I64 r) (h1 : 1 ≤ r) (w : World) : Calls Try.prog 64 #[(refV r).agg none 0] w fun e w' => e = .returned (.tuple #[markV r, .int .i64 0]) ∧ Fr none_ w w' := by
  have HR := Lib.hid hr; clear hr
  have H1 := Lib.hid h1; clear h1
  show Calls Try.prog 64 #[.agg #[.int .u8 4, .int .i64 0, .string ⟨#[]⟩, .slice none 0 0, .int .i64 r]] w _
  go_enter Try.func64, Try.ntmps64
  go_upto_region 1 with (fail)
  refine code_gen ?_
  intro W1 hW
  have hb : Blk W1 w.heap.size [.int .u8 4, .int .i64 0, .string ⟨#[]⟩, .slice none 0 0, .int .i64 r] 37 := by rw [hW]; exact Blk.new w _ _
  have hf : Fr none_ w W1 := by rw [hW]; exact (Fr.refl _ _).alloc _
  clear hW
  have x0 : W1.cell? ⟨w.heap.size, 0, none⟩ = some (.int .u8 4) := hb.cell 0
  have x1 : W1.cell? ⟨w.heap.size, 1, none⟩ = some (.int .i64 0) := hb.cell 1
  have x2 : W1.cell? ⟨w.heap.size, 2, none⟩ = some (.string ⟨#[]⟩) := hb.cell 2
  have x3 : W1.cell? ⟨w.heap.size, 3, none⟩ = some (.slice none 0 0) := hb.cell 3
  have x4 : W1.cell? ⟨w.heap.size, 4, none⟩ = some (.int .i64 r) := hb.cell 4
  have HB := Lib.hid hb; clear hb
  have HF := Lib.hid hf; clear hf
  go_wp2_with fail
  refine (may_any none_ True (refV r) none 0 _ (RV_ref _ _ _ r HR.out) (fun b hb => hb.elim)).mono ?_
  rintro e W2 ⟨rfl, hf2⟩
  rw [refV_may r H1.out]
  have hb2 := HB.out.keep hf2 (fun h => h)
  have hf3 := HF.out.trans hf2
  clear x0 x1 x2 x3 x4
  have x0 : W2.cell? ⟨w.heap.size, 0, none⟩ = some (.int .u8 4) := hb2.cell 0
  have x1 : W2.cell? ⟨w.heap.size, 1, none⟩ = some (.int .i64 0) := hb2.cell 1
  have x2 : W2.cell? ⟨w.heap.size, 2, none⟩ = some (.string ⟨#[]⟩) := hb2.cell 2
  have x3 : W2.cell? ⟨w.heap.size, 3, none⟩ = some (.slice none 0 0) := hb2.cell 3
  have x4 : W2.cell? ⟨w.heap.size, 4, none⟩ = some (.int .i64 r) := hb2.cell 4
  have HF3 := Lib.hid hf3; clear hf3
  clear hf2 hb2
  go_wp2_with fail
  refine (bmark_ref r W2).mono ?_
  rintro e W3 ⟨rfl, hf4⟩
  have hf5 := HF3.out.trans hf4
  have HF5 := Lib.hid hf5; clear hf5 hf4
  go_wp2
  go_ret2
  exact ⟨rfl, HF5.out⟩
section
variable {w : World} {p : Nat} {W : AW} {M D : Nat → Prop} {pa : Option Addr} {pc bc bt bf bm ck fk : Nat} {L : List (Int × Nat × Nat)} {FL : List ((Int × Int) × Int × Nat)}
/-- The pair of which a thing is. -/
def pairOf (W : AW) (r : Int) : Option Int := match W.at_ r with | some x => if x.kind = 5 then some r else if x.kind = 6 ∨ x.kind = 7 then some x.of_ else none | none => none
set_option maxRecDepth 100000 in
set_option maxHeartbeats 2000000 in
theorem spair_5 (h : RepW w p W M D pa pc bc bt bf bm ck fk L FL) (hok : W.Ok) (r : Int) (x : X) (hx : W.at_ r = some x) (hk : x.kind = 5) :
    Calls Try.prog 63 #[.pointer (some ⟨p, 0, none⟩), .int .i64 r] w fun e w' => e = .returned (.tuple #[.int .i64 r, .int .i64 0]) ∧ Fr none_ w w' := by
  have hz := zero_What
  have hp := hok.at_ hx
  have d5 : (x.kind == 5) = true := by simp [hk]
  have H := Lib.hid h; clear h
  have HP := Lib.hid hp; clear hp
  have HX := Lib.hid hx; clear hx
  clear hk hok
  go_enter Try.func63, Try.ntmps63
  go_wp2_with fail
  refine (sthere_any H.out).mono ?_
  rintro e w ⟨rfl, rfl⟩
  go_wp2_with fail
  refine (what_yes H.out r x HX.out HP.out.1 HP.out.2).mono ?_
  rintro e W1 ⟨u, rfl, hrx, hf⟩
  have HF := Lib.hid hf; clear hf hrx
  go_upto_region 4 with (fail)
  refine code_gen ?_
  intro W2 hW
  have hb : Blk W2 W1.heap.size (x.cells u) 69 := by rw [hW]; exact Blk.new W1 _ _
  have hf2 : Fr none_ w W2 := by rw [hW]; exact HF.out.alloc _
  clear hW
  have y0 : W2.cell? ⟨W1.heap.size, 0, none⟩ = some (.int .u8 x.kind) := hb.cell 0
  have y10 : W2.cell? ⟨W1.heap.size, 10, none⟩ = some (.int .i64 x.of_) := hb.cell 10
  have HF2 := Lib.hid hf2; clear hf2
  clear hb
  go_wp2
  go_ret2
  exact ⟨rfl, HF2.out⟩
set_option maxRecDepth 100000 in
set_option maxHeartbeats 2000000 in
theorem spair_6 (h : RepW w p W M D pa pc bc bt bf bm ck fk L FL) (hok : W.Ok) (r : Int) (x : X) (hx : W.at_ r = some x) (hk : x.kind = 6) :
    Calls Try.prog 63 #[.pointer (some ⟨p, 0, none⟩), .int .i64 r] w fun e w' => e = .returned (.tuple #[.int .i64 x.of_, .int .i64 0]) ∧ Fr none_ w w' := by
  have hz := zero_What
  have hp := hok.at_ hx
  have d5 : (x.kind == 5) = false := by simp [hk]
  have d6 : (x.kind == 6) = true := by simp [hk]
  have H := Lib.hid h; clear h
  have HP := Lib.hid hp; clear hp
  have HX := Lib.hid hx; clear hx
  clear hk hok
  go_enter Try.func63, Try.ntmps63
  go_wp2_with fail
  refine (sthere_any H.out).mono ?_
  rintro e w ⟨rfl, rfl⟩
  go_wp2_with fail
  refine (what_yes H.out r x HX.out HP.out.1 HP.out.2).mono ?_
  rintro e W1 ⟨u, rfl, hrx, hf⟩
  have HF := Lib.hid hf; clear hf hrx
  go_upto_region 4 with (fail)
  refine code_gen ?_
  intro W2 hW
  have hb : Blk W2 W1.heap.size (x.cells u) 69 := by rw [hW]; exact Blk.new W1 _ _
  have hf2 : Fr none_ w W2 := by rw [hW]; exact HF.out.alloc _
  clear hW
  have y0 : W2.cell? ⟨W1.heap.size, 0, none⟩ = some (.int .u8 x.kind) := hb.cell 0
  have y10 : W2.cell? ⟨W1.heap.size, 10, none⟩ = some (.int .i64 x.of_) := hb.cell 10
  have HF2 := Lib.hid hf2; clear hf2
  clear hb
  go_wp2
  go_ret2
  exact ⟨rfl, HF2.out⟩
set_option maxRecDepth 100000 in
set_option maxHeartbeats 2000000 in
theorem spair_7 (h : RepW w p W M D pa pc bc bt bf bm ck fk L FL) (hok : W.Ok) (r : Int) (x : X) (hx : W.at_ r = some x) (hk : x.kind = 7) :
    Calls Try.prog 63 #[.pointer (some ⟨p, 0, none⟩), .int .i64 r] w fun e w' => e = .returned (.tuple #[.int .i64 x.of_, .int .i64 0]) ∧ Fr none_ w w' := by
  have hz := zero_What
  have hp := hok.at_ hx
  have d5 : (x.kind == 5) = false := by simp [hk]
  have d6 : (x.kind == 6) = false := by simp [hk]
  have d7 : (x.kind == 7) = true := by simp [hk]
  have H := Lib.hid h; clear h
  have HP := Lib.hid hp; clear hp
  have HX := Lib.hid hx; clear hx
  clear hk hok
  go_enter Try.func63, Try.ntmps63
  go_wp2_with fail
  refine (sthere_any H.out).mono ?_
  rintro e w ⟨rfl, rfl⟩
  go_wp2_with fail
  refine (what_yes H.out r x HX.out HP.out.1 HP.out.2).mono ?_
  rintro e W1 ⟨u, rfl, hrx, hf⟩
  have HF := Lib.hid hf; clear hf hrx
  go_upto_region 4 with (fail)
  refine code_gen ?_
  intro W2 hW
  have hb : Blk W2 W1.heap.size (x.cells u) 69 := by rw [hW]; exact Blk.new W1 _ _
  have hf2 : Fr none_ w W2 := by rw [hW]; exact HF.out.alloc _
  clear hW
  have y0 : W2.cell? ⟨W1.heap.size, 0, none⟩ = some (.int .u8 x.kind) := hb.cell 0
  have y10 : W2.cell? ⟨W1.heap.size, 10, none⟩ = some (.int .i64 x.of_) := hb.cell 10
  have HF2 := Lib.hid hf2; clear hf2
  clear hb
  go_wp2
  go_ret2
  exact ⟨rfl, HF2.out⟩
theorem spair_any (h : RepW w p W M D pa pc bc bt bf bm ck fk L FL) (hok : W.Ok) (r q : Int) (hq : pairOf W r = some q) :
    Calls Try.prog 63 #[.pointer (some ⟨p, 0, none⟩), .int .i64 r] w fun e w' => e = .returned (.tuple #[.int .i64 q, .int .i64 0]) ∧ Fr none_ w w' := by
  unfold pairOf at hq
  cases hx : W.at_ r with
  | none => rw [hx] at hq; cases hq
  | some x =>
    rw [hx] at hq
    simp only at hq
    split at hq
    · injection hq with hq
      subst hq
      exact spair_5 h hok _ x hx (by assumption)
    · split at hq
      · injection hq with hq
        subst hq
        rename_i hk
        rcases hk with hk | hk
        · exact spair_6 h hok _ x hx hk
        · exact spair_7 h hok _ x hx hk
      · cases hq
set_option maxRecDepth 100000 in
set_option maxHeartbeats 2000000 in
theorem smark_any (h : RepW w p W M D pa pc bc bt bf bm ck fk L FL) (hok : W.Ok) (r q : Int) (hq : pairOf W r = some q) (hI : I64 q) (h1 : 1 ≤ q) :
    Calls Try.prog 45 #[.pointer (some ⟨p, 0, none⟩), .int .i64 r] w fun e w' => e = .returned (.tuple #[markV q, .int .i64 0]) ∧ Fr none_ w w' := by
  have hbd : ∀ W : World, (Instr.build 37 #[(0, .int .u8 4), (4, .int .i64 q)]).run Try.prog W = .ok (.agg #[.int .u8 4, .int .i64 0, .string ⟨#[]⟩, .slice none 0 0, .int .i64 q]) W := fun W => by kernel_rfl
  have H := Lib.hid h; clear h
  have HOK := Lib.hid hok; clear hok
  have HQ := Lib.hid hq; clear hq
  have HI := Lib.hid hI; clear hI
  have H1 := Lib.hid h1; clear h1
  go_enter Try.func45, Try.ntmps45
  go_wp2_with fail
  refine (spair_any H.out HOK.out r q HQ.out).mono ?_
  rintro e W1 ⟨rfl, hf⟩
  have HF := Lib.hid hf; clear hf
  go_wp2_with fail
  refine (bof_ref q HI.out H1.out W1).mono ?_
  rintro e W2 ⟨rfl, hf2⟩
  have hf3 := HF.out.trans hf2
  have HF3 := Lib.hid hf3; clear hf3 hf2
  go_wp2
  go_ret2
  exact ⟨rfl, HF3.out⟩
theorem pairOf_is {r q : Int} (h : pairOf W r = some q) : (W.at_ r).isSome = true := by
  unfold pairOf at h
  cases hx : W.at_ r with
  | none => rw [hx] at h; cases h
  | some x => rfl
set_option maxRecDepth 100000 in
set_option maxHeartbeats 2000000 in
theorem same_any (h : RepW w p W M D pa pc bc bt bf bm ck fk L FL) (hok : W.Ok) (r q a b : Int) (hr : pairOf W r = some a) (hq : pairOf W q = some b) (hIa : I64 a) (hIb : I64 b) (ha1 : 1 ≤ a) (hb1 : 1 ≤ b) :
    Calls Try.prog 24 #[.pointer (some ⟨p, 0, none⟩), .int .i64 r, .int .i64 q] w fun e w' => e = .returned (.tuple #[.bool (a == b), .int .i64 0]) ∧ Fr none_ w w' := by
  have hme := mark_eq a b
  have hk : ∀ w', Fr none_ w w' → RepW w' p W M D pa pc bc bt bf bm ck fk L FL := fun w' hf => h.keep hf (fun _ _ h => h) (fun _ _ h => h)
  have HK := Lib.hid hk; clear hk
  have H := Lib.hid h; clear h
  have HOK := Lib.hid hok; clear hok
  have his1 := pairOf_is hr
  have his2 := pairOf_is hq
  have HIS1 := Lib.hid his1; clear his1
  have HIS2 := Lib.hid his2; clear his2
  have HR := Lib.hid hr; clear hr
  have HQ := Lib.hid hq; clear hq
  have HIA := Lib.hid hIa; clear hIa
  have HIB := Lib.hid hIb; clear hIb
  have HA1 := Lib.hid ha1; clear ha1
  have HB1 := Lib.hid hb1; clear hb1
  go_enter Try.func24, Try.ntmps24
  go_wp2_with fail
  refine (sthere_any H.out).mono ?_
  rintro e w ⟨rfl, rfl⟩
  go_wp2_with fail
  refine (is_any H.out r).mono ?_
  rintro e w ⟨rfl, rfl⟩
  rw [HIS1.out]
  go_wp2_with fail
  refine (is_any H.out q).mono ?_
  rintro e w ⟨rfl, rfl⟩
  rw [HIS2.out]
  go_wp2_with fail
  refine (smark_any H.out HOK.out r a HR.out HIA.out HA1.out).mono ?_
  rintro e W1 ⟨rfl, hf1⟩
  have HF1 := Lib.hid hf1; clear hf1
  go_wp2_with fail
  refine (smark_any (HK.out _ HF1.out) HOK.out q b HQ.out HIB.out HB1.out).mono ?_
  rintro e W2 ⟨rfl, hf2⟩
  have hf3 := HF1.out.trans hf2
  have HF3 := Lib.hid hf3; clear hf3 hf2
  go_wp2

  go_ret2
  exact ⟨rfl, HF3.out⟩
end
end Go.Proofs.Ytpgjbbefgacjkaa
