/- The law GateNone of layer 12 holds: whatever is asked of package gate over a world that is none, ErrNil and nothing; and the machine is awake. No condition. -/
import Derived.Test.YtkiinokhdmmagaaGreatRows
import Derived.WalkKit
import Derived.ProofKit
import Derived.OpenShut
import Derived.SizedLaws
import Derived.Test.YtkiinokhdmmagaaGreatGNoneW
import Derived.Test.YtkiinokhdmmagaaGreatChecked
namespace Go.Proofs.YtkiinokhdmmagaaGreat.gateNone
open Go.ChangeShapes Go.WideShapes Go.ChangeAt Go.RowKit
set_option linter.unusedVariables false

theorem own : ownKnob Tryz.prog.godebug = none := by kernel_rfl
theorem laidOut : laidOutB Tryz.prog = true := by kernel_rfl

set_option maxRecDepth 100000 in
theorem lifted (os : Os) (started : os.Started) (H : Type) (enc : TypeId × Value → H) :
    ReturnsInHanded {} Tryz.checked os 4 .any (Rows.gateNoneSpec.pre6 enc Tryz.prog Tryz.f4 Rows.gateNoneRow.domain false) (Rows.gateNoneSpec.post enc Tryz.prog Tryz.f4 false true false false) := by
  refine returnsInHanded_of_change_sized (C := Tryz.checked) own started (by kernel_rfl) Tryz.func4
    (ChangeSpec.witness6 (enc := enc) (C := Tryz.checked) false ⟨#[], #[.int .i64 0, .int .i64 0, .int .u8 0, .agg #[.int .u8 0, .int .i64 0, .string ⟨#[]⟩, .slice none 0 0, .int .i64 0], .slice none 0 0], []⟩ 8 (by kernel_rfl) (by kernel_rfl) (by kernel_rfl) (by kernel_rfl)) ?_
  intro W base args ds gs before hval0 hW hcnd hsz0 _
  have hsz : (DataW.weightsEach Tryz.prog (Tryz.f4.params.toList ++ Rows.gateNoneSpec.plain.varTypes Tryz.prog) (ds ++ gs)).all (· ≤ reachBytes) = true := hsz0
  have hval : ∀ (j : Nat) t v, Tryz.f4.params[j]? = some t → args[j]? = some v → Value.okWide Tryz.prog W .any base t v := hval0
  have hW' := hW
  obtain ⟨p, q, hA0, hV, rfl, hfz, hnd⟩ := hW
  have hA : DataW.TrodAll enc Tryz.prog W 0 (fun _ => true) true Tryz.f4.params.toList args.toList ds p := hA0
  clear hval0 hsz0 hA0
  rw [Tryz.params4] at hA hval hsz
  obtain ⟨rfl, rfl⟩ := trodVars_none hV
  obtain ⟨v0, t0, d0, e0, p0, q0, ha0, rfl, rfl, h0, hA⟩ := trodAll_cons hA
  obtain ⟨v1, t1, d1, e1, p1, q1, rfl, rfl, rfl, h1, hA⟩ := trodAll_cons hA
  obtain ⟨v2, t2, d2, e2, p2, q2, rfl, rfl, rfl, h2, hA⟩ := trodAll_cons hA
  obtain ⟨v3, t3, d3, e3, p3, q3, rfl, rfl, rfl, h3, hA⟩ := trodAll_cons hA
  obtain ⟨v4, t4, d4, e4, p4, q4, rfl, rfl, rfl, h4, hA⟩ := trodAll_cons hA
  obtain ⟨rfl, rfl, rfl⟩ := trodAll_nil hA
  obtain rfl : args = #[v0, v1, v2, v3, v4] := by cases args; simp_all
  clear ha0
  obtain ⟨n0, rfl, rfl, rfl, w0⟩ := open_int Tryz.underlying22 (hval 0 _ v0 rfl rfl) h0
  obtain ⟨n1, rfl, rfl, rfl, w1⟩ := open_int Tryz.underlying23 (hval 1 _ v1 rfl rfl) h1
  obtain ⟨n2, rfl, rfl, rfl, w2⟩ := open_int Tryz.underlying24 (hval 2 _ v2 rfl rfl) h2
  obtain ⟨cs, rfl, _⟩ := okWide_struct Tryz.underlying28 (hval 3 _ v3 rfl rfl)
  obtain ⟨la, ln, lc, rfl⟩ := okWide_slice Tryz.underlying54 (hval 4 _ v4 rfl rfl)
  have h3k := h3
  obtain ⟨fuel, hf⟩ := h3
  obtain ⟨v, va, vc, hcs, hv⟩ := open_value enc W fuel _ _ hf (fun n hn => by
    have := List.all_eq_true.1 hsz _ (DataW.weights_mem_each (j := 3) (t := 28) rfl rfl n hn)
    simpa using this)
  obtain rfl : cs = (v.cells va vc).toArray := by
    have : cs.toList = v.cells va vc := hcs
    rw [← this]
  have hlt : ∀ x ∈ p3 ++ p4, x.block < W.heap.size := fun x hx => by
    have := hW'.lt x (by simpa using hx)
    simpa using this
  have hlt3 : ∀ x ∈ p3, x.block < W.heap.size := fun x hx => hlt x (List.mem_append_left _ hx)
  have hlt4 : ∀ x ∈ p4, x.block < W.heap.size := fun x hx => hlt x (List.mem_append_right _ hx)
  refine (gateNone_any W _ _ v va vc n0 n1 n2 la ln lc hv (fun b h => h)).mono fun e W' ⟨he, hg⟩ => ?_
  subst he
  have h3' : DataW.Trod enc Tryz.prog W' 0 (fun b => decide (b < W.heap.size)) true 28 _ d3 p3 := Below.trod laidOut (by kernel_rfl) (of_decide_eq_true (by kernel_rfl)) h3k hg hlt3
  have h4' : DataW.Trod enc Tryz.prog W' 0 (fun b => decide (b < W.heap.size)) true 54 _ d4 p4 := Below.trod laidOut (by kernel_rfl) (of_decide_eq_true (by kernel_rfl)) h4 hg hlt4
  exact ⟨_, rfl, _, _, _, [], _, [], hW', trodAll_cons_mk (shut_bool Tryz.underlying4 _) trodAll_mk0,
    trodAll_cons_mk (shut_int Tryz.underlying22 w0) (trodAll_cons_mk (shut_int Tryz.underlying23 w1) (trodAll_cons_mk (shut_int Tryz.underlying24 w2) (trodAll_cons_mk h3' (trodAll_cons_mk h4' trodAll_mk0)))), rfl, hg.frame _, fun h => by cases h⟩

theorem over : Rows.gateNoneRow.holds Tryz.pinned (OpenSpec.ofChange Rows.gateNoneSpec) :=
  OpenClaim.holds_of_wide 4 Tryz.f4 rfl rfl rfl rfl rfl rfl rfl ⟨rfl, rfl, rfl, rfl, rfl⟩ rfl rfl rfl rfl rfl (by kernel_rfl) Tryz.func4 (by kernel_rfl)
    (of_decide_eq_true (by kernel_rfl)) (by unfold Func.isWrapper; first | (rw [if_pos (by decide +kernel)]; kernel_rfl) | (rw [if_neg (by decide +kernel)]; exact ⟨rfl, rfl⟩))
    (fun os started H enc _ => lifted os started H enc)

/-- ████ THE STATEMENT ████ -/
theorem proved : Rows.GateNoneSaid :=
  over
#print axioms proved
end Go.Proofs.YtkiinokhdmmagaaGreat.gateNone
