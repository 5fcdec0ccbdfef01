/- Box i at opener k: 'Open' and 'Do' in the world of SealSealed. -/
import Derived.Test.YtpgjbbefgacjkaaSPairs
namespace Go.Proofs.Ytpgjbbefgacjkaa
open Go.RowKit
set_option linter.unusedSimpArgs false
set_option linter.unusedVariables false
set_option linter.unusedSectionVars false
section
variable {w : World} {p : Nat} {W : AW} {M D : Nat → Prop} {pa : Option Addr} {pc bc bt bf bm ck fk : Nat} {L : List (Int × Nat × Nat)} {FL : List ((Int × Int) × Int × Nat)} {E : List (Nat × V)}
def valAt (E : List (Nat × V)) (i k : Nat) : V := match E[i]? with | some e => if k = e.1 then e.2 else V.zero | none => V.zero
def errAt (E : List (Nat × V)) (i k : Nat) : Int := match E[i]? with | some e => if k = e.1 then 0 else 91 | none => 0
theorem valAt_eq (i k : Nat) (hi : i < E.length) : valAt E i k = if k = E[i].1 then E[i].2 else V.zero := by
  unfold valAt
  rw [List.getElem?_eq_getElem hi]
theorem errAt_eq (i k : Nat) (hi : i < E.length) : errAt E i k = if k = E[i].1 then 0 else 91 := by
  unfold errAt
  rw [List.getElem?_eq_getElem hi]
theorem openAt (h : RepW w p W M D pa pc bc bt bf bm ck fk L FL) (s : Sld W E) (i k : Nat) (hi : i < E.length) (hk : k < 6) (hE : E.length ≤ 60) :
    Calls Try.prog 18 #[.pointer (some ⟨p, 0, none⟩), .int .i64 (2 * (k : Int) + 2), (refV (13 + (i : Int))).agg none 0] w (OwnOut2 w (valAt E i k) (errAt E i k)) := by
  have hr1 : (1 : Int) ≤ 13 + (i : Int) := by omega
  have hrefs : allThings W (refV (13 + (i : Int))).refs = true := by
    rw [refV_refs _ hr1]
    unfold allThings isThing
    simp [s.box i hi]
  rw [valAt_eq i k hi, errAt_eq i k hi]
  by_cases hc : k = E[i].1
  · rw [if_pos hc, if_pos hc]
    exact open_yes h s.ok (2 * (k : Int) + 2) _ (refV (13 + (i : Int))) none 0 none_ True _ (s.o k hk) rfl (refV_may _ hr1) hrefs rfl (s.box i hi) rfl (by rw [hc]) (RV_ref _ _ _ _ (by unfold I64; omega)) (fun b h => h.elim)
  · rw [if_neg hc, if_neg hc]
    exact open_no h s.ok (2 * (k : Int) + 2) _ (refV (13 + (i : Int))) none 0 none_ True _ (s.o k hk) rfl (refV_may _ hr1) hrefs rfl (s.box i hi) rfl (by show 2 * (E[i].1 : Int) + 1 ≠ 2 * (k : Int) + 1; omega) (RV_ref _ _ _ _ (by unfold I64; omega)) (fun b h => h.elim)
theorem doAt (h : RepW w p W M D pa pc bc bt bf bm ck fk L FL) (s : Sld W E) (i k : Nat) (hi : i < E.length) (hk : k < 6) (hE : E.length ≤ 60) :
    Calls Try.prog 23 #[.pointer (some ⟨p, 0, none⟩), .int .i64 (2 * (k : Int) + 2), .int .u8 16, (refV (13 + (i : Int))).agg none 0] w (OwnOut2 w (valAt E i k) (errAt E i k)) := by
  have hr1 : (1 : Int) ≤ 13 + (i : Int) := by omega
  have hrefs : allThings W (refV (13 + (i : Int))).refs = true := by
    rw [refV_refs _ hr1]
    unfold allThings isThing
    simp [s.box i hi]
  exact do_open h (2 * (k : Int) + 2) _ (refV (13 + (i : Int))) none 0 none_ True (s.o k hk) rfl (refV_may _ hr1) hrefs (RV_ref _ _ _ _ (by unfold I64; omega)) (fun b h => h.elim) _ _ (fun w' hf => openAt (h.keep hf (fun _ _ h => h) (fun _ _ h => h)) s i k hi hk hE)
/-- Seal at sealer k, with what may be, or may not. -/
theorem sealAt (h : RepW w p W M D pa pc bc bt bf bm ck fk L FL) (s : Sld W E) (k : Nat) (hk : k < 6) (hE : E.length < 60) (u : V) (last : Int) (hl : last = 12 + (E.length : Int)) (va : Option Addr) (vc : Nat) (Dv : Nat → Prop) (hm : (inV last u).may = true)
    (hv : RV w Dv False (inV last u) ((inV last u).cells va vc)) (hD : ∀ b, Dv b → b < w.heap.size) :
    Calls Try.prog 11 #[.pointer (some ⟨p, 0, none⟩), .int .i64 (2 * (k : Int) + 1), (inV last u).agg va vc] w (GoOut w p (W.lay (xOf 7 0 (2 * (k : Int) + 1) (inV last u))) M D pa pc bc bt bf bm fk FL (.tuple #[.int .i64 (13 + (E.length : Int)), .int .i64 0])) := by
  have hx := s.s k hk
  have := seal_yes h (2 * (k : Int) + 1) (xOf 5 0 0 V.zero) (inV last u) va vc Dv False (by unfold I64; omega) hx rfl s.side hm (refs_in last (by omega) W (fun r h1 h2 => s.all r h1 (by omega)) u) hv hD (by rw [s.made]; show (12 + (E.length : Int)) < 512; omega)
  rw [s.last] at this
  rw [show (13 : Int) + (E.length : Int) = 12 + (E.length : Int) + 1 by omega]
  exact this
end
end Go.Proofs.Ytpgjbbefgacjkaa
