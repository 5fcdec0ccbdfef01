/- A value that came in, read as data, is a tree that lies in memory. -/
import Derived.Test.YtpgjbbefgacjkaaBase
import Derived.ChangeArms
import Derived.ChangeOld
import Derived.SizedLaws
import Derived.Deep.Slices
import Derived.Test.YtpgjbbefgacjkaaOwn2
namespace Go.Proofs.Ytpgjbbefgacjkaa
open Go.RowKit Go.ChangeShapes Go.WideShapes Go.Deep
set_option linter.unusedSimpArgs false
set_option linter.unusedVariables false
set_option linter.unusedSectionVars false
theorem bytes_Value : Try.prog.bytesOf 37 = 64 := by kernel_rfl
theorem cellsOf_Value : Try.prog.cellsOf 37 = 5 := by kernel_rfl
theorem cellsOf_f0 : Try.prog.cellsOf 34 = 1 := by kernel_rfl
theorem cellsOf_f1 : Try.prog.cellsOf 2 = 1 := by kernel_rfl
theorem cellsOf_f2 : Try.prog.cellsOf 9 = 1 := by kernel_rfl
theorem cellsOf_f3 : Try.prog.cellsOf 35 = 1 := by kernel_rfl
theorem cellsOf_f4 : Try.prog.cellsOf 28 = 1 := by kernel_rfl
theorem wf_u8 {n : Int} (h : (Lit.int .u8 n).wf = true) : U8 n := by
  simp only [Lit.wf, Bool.and_eq_true, decide_eq_true_eq] at h
  exact h
theorem wf_i64 {n : Int} (h : (Lit.int .i64 n).wf = true) : I64 n := by
  simp only [Lit.wf, Bool.and_eq_true, decide_eq_true_eq] at h
  exact h
/-- Elements that lie one behind the other, each a value. -/
theorem RVs_of_index {w : World} {D : Nat → Prop} : ∀ (l : List V) (b o : Nat) (hD : 0 < l.length → D b), (∀ i (h : i < l.length), ∃ cs, (∀ j, j < 5 → w.cell? ⟨b, o + i * 5 + j, none⟩ = cs[j]?) ∧ RV w D False l[i] cs) → RVs w D False l (some ⟨b, o, none⟩)
  | [], b, o, _, _ => by unfold RVs; trivial
  | v :: l, b, o, hD, h => by
    obtain ⟨cs, hc, hv⟩ := h 0 (by simp)
    unfold RVs
    refine ⟨b, o, cs, rfl, hD (by simp), fun i hi => by simpa using hc i hi, fun z => z.elim, hv, RVs_of_index l b (o + 5) (fun _ => hD (by simp)) fun i hi => ?_⟩
    obtain ⟨cs', hc', hv'⟩ := h (i + 1) (by simpa using hi)
    refine ⟨cs', fun j hj => ?_, by simpa using hv'⟩
    have := hc' j hj
    rwa [show o + (i + 1) * 5 + j = o + 5 + i * 5 + j by omega] at this
theorem weightsAll_mem {H : Type} {P : Program} {e : TypeId} : ∀ {l : List (DataW H)} {d : DataW H}, d ∈ l → ∀ n, n ∈ d.weights P e → n ∈ DataW.weightsAll P e l
  | a :: l, d, hd, n, hn => by
    unfold DataW.weightsAll
    rcases List.mem_cons.1 hd with rfl | hd
    · exact List.mem_append_left _ hn
    · exact List.mem_append_right _ (weightsAll_mem hd n hn)
set_option maxRecDepth 100000 in
set_option maxHeartbeats 1000000 in
theorem open_value {H : Type} (enc : TypeId × Value → H) (W : World) : ∀ (fuel : Nat) (cs : List Value) (x : DataW H × List MemPlace), DataW.trod enc Try.prog W 0 (fun _ => true) true fuel 37 cs = some x →
    (∀ n, n ∈ DataW.weights Try.prog 37 x.1 → n ≤ reachBytes) → ∃ v a c, cs = V.cells v a c ∧ RV W (fun b => b < W.heap.size) False v (v.cells a c) := by
  intro fuel
  induction fuel using Nat.strongRecOn with
  | _ fuel ih =>
    intro cs x h hw
    obtain ⟨xs, n, rfl, rfl, hlen, hxl, hf⟩ := DataW.trod_struct Try.underlying37 h
    rw [cellsOf_Value] at hlen
    match cs, hlen with
    | [c0, c1, c2, c3, c4], _ =>
    change xs.length = 5 at hxl
    match xs, hxl with
    | [x0, x1, x2, x3, x4], _ =>
    have f0 : DataW.trod enc Try.prog W 0 (fun _ => true) true n 34 (([c0, c1, c2, c3, c4].drop 0).take (Try.prog.cellsOf 34)) = some x0 := hf 0 _ rfl
    rw [cellsOf_f0] at f0
    have f1 : DataW.trod enc Try.prog W 0 (fun _ => true) true n 2 (([c0, c1, c2, c3, c4].drop 1).take (Try.prog.cellsOf 2)) = some x1 := hf 1 _ rfl
    rw [cellsOf_f1] at f1
    have f2 : DataW.trod enc Try.prog W 0 (fun _ => true) true n 9 (([c0, c1, c2, c3, c4].drop 2).take (Try.prog.cellsOf 9)) = some x2 := hf 2 _ rfl
    rw [cellsOf_f2] at f2
    have f3 : DataW.trod enc Try.prog W 0 (fun _ => true) true n 35 (([c0, c1, c2, c3, c4].drop 3).take (Try.prog.cellsOf 35)) = some x3 := hf 3 _ rfl
    rw [cellsOf_f3] at f3
    have f4 : DataW.trod enc Try.prog W 0 (fun _ => true) true n 28 (([c0, c1, c2, c3, c4].drop 4).take (Try.prog.cellsOf 28)) = some x4 := hf 4 _ rfl
    rw [cellsOf_f4] at f4
    clear hf
    obtain ⟨k, e0, hx0, hk⟩ := DataW.trod_int Try.underlying34 f0
    obtain ⟨m, e1, hx1, hm⟩ := DataW.trod_int Try.underlying2 f1
    obtain ⟨s, e2, hx2, hs⟩ := DataW.trod_string Try.underlying9 f2
    obtain ⟨r, e4, hx4, hr⟩ := DataW.trod_int Try.underlying28 f4
    have e0' : c0 = .int .u8 k := by simpa using e0
    have e1' : c1 = .int .i64 m := by simpa using e1
    have e2' : c2 = .string s := by simpa using e2
    have e4' : c4 = .int .i64 r := by simpa using e4
    subst e0' e1' e2' e4' hx0 hx1 hx2 hx4
    have hws : s.size ≤ 140737488351232 := by
      have := hw s.data.toList.length (by simp [DataW.weights, Try.underlying37, DataW.weightsEach])
      have e : reachBytes = 140737488351232 := rfl
      simpa [e] using this
    rcases DataW.trod_slice Try.underlying35 f3 with ⟨e3, hx3⟩ | ⟨a, len, cap, elems, rest, n', hn', e3, hx3, hb, hl, hm2, hlen, hel, _, _⟩
    · have e3' : c3 = .slice none 0 0 := by simpa using e3
      subst e3'
      refine ⟨.mk k m s [] r, none, 0, rfl, ?_⟩
      unfold RV
      exact ⟨wf_u8 hk, wf_i64 hm, wf_i64 hr, hws, by simp, none, 0, rfl, Nat.le_refl _, by unfold RVs; trivial⟩
    · have e3' : c3 = .slice (some a) len cap := by simpa using e3
      subst e3' hn' hx3
      rw [cellsOf_Value] at hel
      have hwl : len ≤ 2199023255552 := by
        have h1 := hw ((elems.map (·.1)).length + (rest.map (·.1)).length |> (· * Try.prog.bytesOf 37)) (by simp [DataW.weights, Try.underlying37, Try.underlying35, DataW.weightsEach])
        rw [bytes_Value] at h1
        have e : reachBytes = 140737488351232 := rfl
        simp only [List.length_map, e] at h1
        omega
      have hall : ∀ i, i < len → ∃ v : V, ∃ cs, (∀ j, j < 5 → W.cell? (a.add (i * 5 + j)) = cs[j]?) ∧ RV W (fun b => b < W.heap.size) False v cs := by
        intro i hi
        have h1 := hel i hi
        have hi2 : i < elems.length := by omega
        rw [List.getElem?_eq_getElem hi2] at h1
        obtain ⟨cs', h2, h3⟩ := Option.bind_eq_some_iff.1 h1
        obtain ⟨_, h4, h5⟩ := World.cells?_some h2
        obtain ⟨v, a', c', he, hv⟩ := ih n' (by omega) cs' _ h3 (fun n hn => hw n (by
          simp only [DataW.weights, Try.underlying37, DataW.weightsEach, List.map_cons, List.map_nil, Try.underlying35, List.mem_append, List.mem_cons]
          have : n ∈ DataW.weightsAll Try.prog 37 (elems.map (·.1)) := weightsAll_mem (List.mem_map_of_mem (List.getElem_mem hi2)) n hn
          simp [DataW.weightsEach, DataW.weights, Try.underlying35, this]))
        refine ⟨v, cs', fun j hj => ?_, by rw [he]; exact hv⟩
        have := h5 j hj
        rwa [add_add] at this
      haveI : Inhabited V := ⟨V.zero⟩
      obtain ⟨f, hfv⟩ := choose_lt hall
      refine ⟨.mk k m s ((List.range len).map f) r, some a, cap, by simp [V.k, V.n, V.s, V.l, V.r], ?_⟩
      unfold RV
      refine ⟨wf_u8 hk, wf_i64 hm, wf_i64 hr, hws, by simpa using hwl, some a, cap, by simp [V.k, V.n, V.s, V.l, V.r], by simpa using hl, ?_⟩
      by_cases h0 : len = 0
      · subst h0
        unfold RVs
        trivial
      · have hsp : a.spot = none := by
          obtain ⟨cs', h1, h2⟩ := hfv 0 (by omega)
          have h3 := h1 0 (by omega)
          have h5 := h2.five
          rw [List.getElem?_eq_getElem (by omega)] at h3
          cases hs : a.spot with
          | none => rfl
          | some q =>
            exfalso
            simp only [World.cell?, Addr.add] at h3
            simp [hs] at h3
            split at h3 <;> cases h3
        obtain ⟨b, o, sp⟩ := a
        simp only at hsp
        subst hsp
        refine RVs_of_index _ b o (fun _ => ?_) fun i hi => ?_
        · obtain ⟨cs', h1, h2⟩ := hfv 0 (by omega)
          have h3 := h1 0 (by omega)
          have h5 := h2.five
          rw [Addr.add_mid, List.getElem?_eq_getElem (by omega)] at h3
          exact cell_lt h3
        · have hi' : i < len := by simpa using hi
          obtain ⟨cs', h1, h2⟩ := hfv i hi'
          refine ⟨cs', fun j hj => ?_, by simpa using h2⟩
          have := h1 j hj
          rw [Addr.add_mid] at this
          rwa [show o + i * 5 + j = o + (i * 5 + j) by omega]
end Go.Proofs.Ytpgjbbefgacjkaa
