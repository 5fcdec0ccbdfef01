/- A world stays where nothing of it is written; 'blank'; what May and Of say of simple values. -/
import Derived.Test.YtpgjbbefgacjkaaBareA
namespace Go.Proofs.Ytpgjbbefgacjkaa
open Go.RowKit
set_option linter.unusedSimpArgs false
set_option linter.unusedVariables false

theorem RepW.keep {S : Nat → Prop} {w w' : World} {p : Nat} {W : AW} {M D : Nat → Prop} {pa : Option Addr} {pc bc bt bf bm ck fk : Nat} {L : List (Int × Nat × Nat)} {FL : List ((Int × Int) × Int × Nat)} (h : RepW w p W M D pa pc bc bt bf bm ck fk L FL)
    (k : Fr S w w') (hm : ∀ b, M b → ¬ S b) (hd : ∀ b, D b → ¬ S b) : RepW w' p W M D pa pc bc bt bf bm ck fk L FL :=
  { h with
    str := h.str.keep k (hm _ h.m.1)
    par := fun i hi => by
      obtain ⟨b, o, h1, h2, h3⟩ := h.par i hi
      exact ⟨b, o, h1, h2, cell_keep (fun hb => k.block b hb (hd b h2)) h3⟩
    cutB := h.cutB.keep k (hm _ h.m.2.1)
    madeB := h.madeB.keep k (hm _ h.m.2.2.2.2)
    mapB := (k.block bt (heap_lt h.mapB) (hm _ h.m.2.2.1)).trans h.mapB
    facB := (k.block bf (heap_lt h.facB) (hm _ h.m.2.2.2.1)).trans h.facB
    mlt := fun b hb => Nat.lt_of_lt_of_le (h.mlt b hb) k.size
    dlt := fun b hb => Nat.lt_of_lt_of_le (h.dlt b hb) k.size
    thing := fun r b s hr => by
      obtain ⟨h1, x, u, h2, h3, h4⟩ := h.thing r b s hr
      exact ⟨h1, x, u, h2, h3.keep k (hm b h1), h4.fr k hd⟩ }
theorem code_gen {P : Program} {c : Code} {Q : Exit → Act → World → Prop} {a : Act} {w : World} (h : ∀ W, W = w → c.wp P Q a W) : c.wp P Q a w := h w rfl
def blankB (v : V) : Bool := decide (v.k = 0) && decide (v.n = 0) && decide (v.s.size = 0) && decide (v.l.length = 0) && decide (v.r = 0)
set_option maxRecDepth 100000 in
set_option maxHeartbeats 1000000 in
theorem blank_any (v : V) (A : Option Addr) (c : Nat) (w : World) : Calls Try.prog 66 #[v.agg A c] w (Bool_ w (blankB v)) := by
  have es := size_toList v.s
  have ES := Lib.hid es; clear es
  by_cases hl : v.l.length = 0
  all_goals
    first | (have hl1 : ((v.l.length : Int) == 0) = true := by simp [hl]) | (have hl1 : ((v.l.length : Int) == 0) = false := by simp [hl])
    have HL := Lib.hid hl; clear hl
    go_enter Try.func66, Try.ntmps66
    go_wp2
    all_goals
      go_ret
      refine ⟨ret_bool ?_, (Fr.refl _ _).alloc _⟩
      unfold blankB
      first
        | (simp [HL.out, ES.out, *]; done)
        | (simp [HL.out, ES.out, *]; rfl)
theorem blankB_zero : blankB V.zero = true := by rfl
theorem may_zero : V.zero.may = true := by unfold V.may V.zero; rw [show (512 : Nat) = 511 + 1 from rfl, take_k0]; rfl
theorem ofErr_nil : ofErr [] = 0 := by
  have h : (listV []).may = true := by unfold V.may listV; rw [show (512 : Nat) = 511 + 1 from rfl, show (16 : Nat) = 15 + 1 from rfl, take_k3]; rfl
  unfold ofErr
  rw [h]
  rfl
end Go.Proofs.Ytpgjbbefgacjkaa
