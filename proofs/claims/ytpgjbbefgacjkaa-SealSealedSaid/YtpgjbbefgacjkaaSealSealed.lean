/- The law SealSealed of layer 9 holds: each box is opened by its own pair's opener, to what was sealed, and by no other one; boxes stay. No condition. -/
import Derived.Test.YtpgjbbefgacjkaaRows
import Derived.WalkKit
import Derived.ProofKit
import Derived.OpenShut
import Derived.SizedLaws
import Derived.Test.YtpgjbbefgacjkaaSWalk
import Derived.Test.YtpgjbbefgacjkaaOpenVs
import Derived.Test.YtpgjbbefgacjkaaChecked
namespace Go.Proofs.Ytpgjbbefgacjkaa.sealSealed
open Go.ChangeShapes Go.WideShapes Go.ChangeAt Go.RowKit
set_option linter.unusedVariables false

theorem own : ownKnob Try.prog.godebug = none := by kernel_rfl
theorem laidOut : laidOutB Try.prog = true := by kernel_rfl

set_option maxRecDepth 100000 in
theorem lifted (os : Os) (started : os.Started) (H : Type) (enc : TypeId × Value → H) :
    ReturnsInHanded {} Try.checked os 6 .any (Rows.sealSealedSpec.pre6 enc Try.prog Try.f6 Rows.sealSealedRow.domain false) (Rows.sealSealedSpec.post enc Try.prog Try.f6 false true false false) := by
  refine returnsInHanded_of_change_sized (C := Try.checked) own started (by kernel_rfl) Try.func6
    (ChangeSpec.witness6 (enc := enc) (C := Try.checked) false ⟨#[], #[.slice none 0 0, .slice none 0 0], []⟩ 8 (by kernel_rfl) (by kernel_rfl) (by kernel_rfl) (by kernel_rfl)) ?_
  intro W base args ds gs before hval0 hW hcnd hsz0 _
  have hsz : (DataW.weightsEach Try.prog (Try.f6.params.toList ++ Rows.sealSealedSpec.plain.varTypes Try.prog) (ds ++ gs)).all (· ≤ reachBytes) = true := hsz0
  have hval : ∀ (j : Nat) t v, Try.f6.params[j]? = some t → args[j]? = some v → Value.okWide Try.prog W .any base t v := hval0
  have hW' := hW
  obtain ⟨p, q, hA0, hV, rfl, hfz, hnd⟩ := hW
  have hA : DataW.TrodAll enc Try.prog W 0 (fun _ => true) true Try.f6.params.toList args.toList ds p := hA0
  clear hval0 hsz0 hA0
  rw [Try.params6] at hA hval hsz
  obtain ⟨rfl, rfl⟩ := trodVars_none hV
  obtain ⟨v0, t0, d0, e0, p0, q0, ha0, rfl, rfl, h0, hA⟩ := trodAll_cons hA
  obtain ⟨v1, t1, d1, e1, p1, q1, rfl, rfl, rfl, h1, hA⟩ := trodAll_cons hA
  obtain ⟨rfl, rfl, rfl⟩ := trodAll_nil hA
  obtain rfl : args = #[v0, v1] := by cases args; simp_all
  clear ha0
  obtain ⟨la, ln, lc, rfl⟩ := okWide_slice Try.underlying39 (hval 0 _ v0 rfl rfl)
  obtain ⟨ma, mn, mc, rfl⟩ := okWide_slice Try.underlying35 (hval 1 _ v1 rfl rfl)
  have h0k := h0
  have h1k := h1
  obtain ⟨fuel0, hf0⟩ := h0
  obtain ⟨fuel1, hf1⟩ := h1
  obtain ⟨a0, n0, c0, hs0, hw0⟩ := open_bytes enc W fuel0 _ _ hf0
  obtain ⟨l, a1, c1, hs1, hl1, hr1⟩ := open_values enc W fuel1 _ _ hf1 (fun n hn => by
    have := List.all_eq_true.1 hsz _ (DataW.weights_mem_each (j := 1) (t := 35) rfl rfl n hn)
    simpa using this)
  obtain ⟨rfl, rfl, rfl⟩ : la = a0 ∧ ln = n0 ∧ lc = c0 := by
    have h : [Value.slice la ln lc] = [.slice a0 n0 c0] := hs0
    simpa using h
  obtain ⟨rfl, rfl, rfl⟩ : ma = a1 ∧ mn = l.length ∧ mc = c1 := by
    have h : [Value.slice ma mn mc] = [.slice a1 l.length c1] := hs1
    simpa using h
  have hlt : ∀ x ∈ p0 ++ p1, x.block < W.heap.size := fun x hx => by
    have := hW'.lt x (by simpa using hx)
    simpa using this
  have hlt0 : ∀ x ∈ p0, x.block < W.heap.size := fun x hx => hlt x (List.mem_append_left _ hx)
  have hlt1 : ∀ x ∈ p1, x.block < W.heap.size := fun x hx => hlt x (List.mem_append_right _ hx)
  refine (sealed_any W la ln lc ma mc l hl1 hr1 hw0).mono fun e W' ⟨he, hg⟩ => ?_
  subst he
  have h0' : DataW.Trod enc Try.prog W' 0 (fun b => decide (b < W.heap.size)) true 39 _ d0 p0 := Below.trod laidOut (by kernel_rfl) (of_decide_eq_true (by kernel_rfl)) h0k hg hlt0
  have h1' : DataW.Trod enc Try.prog W' 0 (fun b => decide (b < W.heap.size)) true 35 _ d1 p1 := Below.trod laidOut (by kernel_rfl) (of_decide_eq_true (by kernel_rfl)) h1k hg hlt1
  exact ⟨_, rfl, _, _, _, [], _, [], hW', trodAll_cons_mk (shut_bool Try.underlying4 _) trodAll_mk0,
    trodAll_cons_mk h0' (trodAll_cons_mk h1' trodAll_mk0), rfl, hg.frame _, fun h => by cases h⟩

theorem over : Rows.sealSealedRow.holds Try.pinned (OpenSpec.ofChange Rows.sealSealedSpec) :=
  OpenClaim.holds_of_wide 6 Try.f6 rfl rfl rfl rfl rfl rfl rfl ⟨rfl, rfl, rfl, rfl, rfl⟩ rfl rfl rfl rfl rfl (by kernel_rfl) Try.func6 (by kernel_rfl)
    (of_decide_eq_true (by kernel_rfl)) (by unfold Func.isWrapper; first | (rw [if_pos (by decide +kernel)]; kernel_rfl) | (rw [if_neg (by decide +kernel)]; exact ⟨rfl, rfl⟩))
    (fun os started H enc _ => lifted os started H enc)

/-- ████ THE STATEMENT ████ -/
theorem proved : Rows.SealSealedSaid :=
  over
#print axioms proved
end Go.Proofs.Ytpgjbbefgacjkaa.sealSealed
