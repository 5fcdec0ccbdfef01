/- Slices that came in: of values, of bytes. -/
import Derived.Test.YtpgjbbefgacjkaaOpenV
import Derived.ChangeSlices
namespace Go.Proofs.Ytpgjbbefgacjkaa
open Go.RowKit Go.ChangeShapes Go.WideShapes Go.Deep
set_option linter.unusedSimpArgs false
set_option linter.unusedVariables false
set_option linter.unusedSectionVars false
theorem spot_of {W : World} {a : Addr} {v : Value} (h : W.cell? (a.add 0) = some v) : a.spot = none := by
  cases hs : a.spot with
  | none => rfl
  | some q =>
    exfalso
    simp only [World.cell?, Addr.add] at h
    simp [hs] at h
    split at h <;> cases h
set_option maxRecDepth 100000 in
set_option maxHeartbeats 1000000 in
theorem open_values {H : Type} (enc : TypeId × Value → H) (W : World) (fuel : Nat) (cs : List Value) (x : DataW H × List MemPlace) (h : DataW.trod enc Try.prog W 0 (fun _ => true) true fuel 35 cs = some x)
    (hw : ∀ n, n ∈ DataW.weights Try.prog 35 x.1 → n ≤ reachBytes) : ∃ (l : List V) (a : Option Addr) (c : Nat), cs = [.slice a l.length c] ∧ l.length ≤ 2199023255552 ∧ RVs W (fun b => b < W.heap.size) False l a := by
  rcases DataW.trod_slice Try.underlying35 h with ⟨rfl, rfl⟩ | ⟨a, len, cap, elems, rest, n', hn', rfl, rfl, hb, hl, hm2, hlen, hel, _, _⟩
  · exact ⟨[], none, 0, rfl, by simp, by unfold RVs; trivial⟩
  · rw [cellsOf_Value] at hel
    have hwl : len ≤ 2199023255552 := by
      have h1 := hw ((elems.map (·.1)).length + (rest.map (·.1)).length |> (· * Try.prog.bytesOf 37)) (by simp [DataW.weights, Try.underlying37, Try.underlying35, DataW.weightsEach])
      rw [bytes_Value] at h1
      have e : reachBytes = 140737488351232 := rfl
      simp only [List.length_map, e] at h1
      omega
    have hall : ∀ i, i < len → ∃ v : V, ∃ cs, (∀ j, j < 5 → W.cell? (a.add (i * 5 + j)) = cs[j]?) ∧ RV W (fun b => b < W.heap.size) False v cs := by
      intro i hi
      have h1 := hel i hi
      have hi2 : i < elems.length := by omega
      rw [List.getElem?_eq_getElem hi2] at h1
      obtain ⟨cs', h2, h3⟩ := Option.bind_eq_some_iff.1 h1
      obtain ⟨_, h4, h5⟩ := World.cells?_some h2
      obtain ⟨v, a', c', he, hv⟩ := open_value enc W n' cs' _ h3 (fun n hn => hw n (by
        simp only [DataW.weights, Try.underlying37, DataW.weightsEach, List.map_cons, List.map_nil, Try.underlying35, List.mem_append, List.mem_cons]
        have : n ∈ DataW.weightsAll Try.prog 37 (elems.map (·.1)) := weightsAll_mem (List.mem_map_of_mem (List.getElem_mem hi2)) n hn
        simp [DataW.weightsEach, DataW.weights, Try.underlying35, this]))
      refine ⟨v, cs', fun j hj => ?_, by rw [he]; exact hv⟩
      have := h5 j hj
      rwa [add_add] at this
    haveI : Inhabited V := ⟨V.zero⟩
    obtain ⟨f, hfv⟩ := choose_lt hall
    refine ⟨(List.range len).map f, some a, cap, by simp, by simpa using hwl, ?_⟩
    by_cases h0 : len = 0
    · subst h0
      unfold RVs
      trivial
    · have hsp : a.spot = none := by
        obtain ⟨cs', h1, h2⟩ := hfv 0 (by omega)
        have h3 := h1 0 (by omega)
        have h5 := h2.five
        rw [List.getElem?_eq_getElem (by omega)] at h3
        exact spot_of h3
      obtain ⟨b, o, sp⟩ := a
      simp only at hsp
      subst hsp
      refine RVs_of_index _ b o (fun _ => ?_) fun i hi => ?_
      · obtain ⟨cs', h1, h2⟩ := hfv 0 (by omega)
        have h3 := h1 0 (by omega)
        have h5 := h2.five
        rw [Addr.add_mid, List.getElem?_eq_getElem (by omega)] at h3
        exact cell_lt h3
      · obtain ⟨cs', h1, h2⟩ := hfv i (by simpa using hi)
        refine ⟨cs', fun j hj => ?_, by simpa using h2⟩
        have := h1 j hj
        rw [Addr.add_mid] at this
        rwa [show o + i * 5 + j = o + (i * 5 + j) by omega]
theorem open_bytes {H : Type} (enc : TypeId × Value → H) (W : World) (fuel : Nat) (cs : List Value) (x : DataW H × List MemPlace) (h : DataW.trod enc Try.prog W 0 (fun _ => true) true fuel 39 cs = some x) :
    ∃ (a : Option Addr) (n c : Nat), cs = [.slice a n c] ∧ ∀ i, i < n → ∃ b o m, a = some ⟨b, o, none⟩ ∧ W.cell? ⟨b, o + i, none⟩ = some (.int .u8 m) ∧ 0 ≤ m ∧ m ≤ 255 := by
  rcases open_ints Try.underlying39 Try.underlying5 (by kernel_rfl) h with ⟨rfl, rfl⟩ | ⟨a, len, cap, zs, rfl, hb, hl, hm, hz, rfl, hc, hwf⟩
  · exact ⟨none, 0, 0, rfl, fun i hi => absurd hi (Nat.not_lt_zero i)⟩
  · refine ⟨some a, len, cap, rfl, fun i hi => ?_⟩
    have hlen : i < zs.length := by rw [hz]; split <;> omega
    have h1 := hc i hlen
    have hsp := spot_of (hc 0 (by omega))
    obtain ⟨b, o, sp⟩ := a
    simp only at hsp
    subst hsp
    rw [Addr.add_mid] at h1
    refine ⟨b, o, _, rfl, h1, ?_⟩
    have := hwf (zs.getD i 0) (by rw [List.getD_eq_getElem?_getD, List.getElem?_eq_getElem hlen]; exact List.getElem_mem hlen)
    exact wf_u8 this
end Go.Proofs.Ytpgjbbefgacjkaa
