/- 'within' of the law of layer 9: a value whose references are brought into 1 to last; its lists in memory of its own. -/
import Derived.Test.YtpgjbbefgacjkaaRefs
import Derived.Test.YtpgjbbefgacjkaaForm0
import Derived.Deep.AppendLies
namespace Go.Proofs.Ytpgjbbefgacjkaa
open Go.RowKit
set_option linter.unusedSimpArgs false
set_option linter.unusedVariables false
set_option linter.unusedSectionVars false
def inR (last k r : Int) : Int := if k = 4 ∧ last < r then r % last + 1 else r
mutual
def inV (last : Int) : V → V
  | .mk k n s l r => .mk k n s (inL last l) (inR last k r)
def inL (last : Int) : List V → List V
  | [] => []
  | v :: l => inV last v :: inL last l
end
theorem inL_map (last : Int) (l : List V) : inL last l = l.map (inV last) := by
  induction l with
  | nil => unfold inL; rfl
  | cons v l ih => unfold inL; rw [ih]; rfl
theorem inL_length (last : Int) (l : List V) : (inL last l).length = l.length := by rw [inL_map]; simp
theorem inL_take (last : Int) (l : List V) (j : Nat) (h : j < l.length) : inL last (l.take (j + 1)) = inL last (l.take j) ++ [inV last l[j]] := by
  rw [inL_map, inL_map, List.take_succ_eq_append_getElem h, List.map_append]
  rfl
def InOut (w : World) (u : V) (e : Ending) (w' : World) : Prop := ∃ A c, e = .returned (u.agg A c) ∧ RV w' (fun b => w.heap.size ≤ b ∧ b < w'.heap.size) False u (u.cells A c) ∧ Fr none_ w w'
def InAll (last : Int) (l : List V) : Prop := ∀ x, x ∈ l → ∀ (D : Nat → Prop) (z : Prop) (A : Option Addr) (c : Nat) (w : World), RV w D z x (x.cells A c) → (∀ b, D b → b < w.heap.size) → Calls Try.prog 16 #[x.agg A c, .int .i64 last] w (InOut w (inV last x))
def InRel (w : World) (last : Int) (cs : List Value) (k n r : Int) (s : ByteArray) (l : List V) (g : Nat) (s6 : Value) (wr : World) : Prop :=
  ∃ (j : Nat) (sa : Option Addr) (sc : Nat) (xs : List Value) (E : Nat → Prop), j + g = l.length ∧ s6 = .int .i64 (j : Int) ∧ Blk wr w.heap.size cs 37 ∧ Blk wr (w.heap.size + 1) zero5 37 ∧ Blk wr (w.heap.size + 1 + 1) [.int .u8 k, .int .i64 n, .string s, .slice sa j sc, .int .i64 r] 37 ∧
    wr.ownsRow (w.heap.size + 1 + 1 + 1) 37 5 (.slice sa j sc) j xs ∧ RVL wr E False (inL last (l.take j)) xs ∧ (∀ b, E b → w.heap.size + 1 + 1 + 1 ≤ b ∧ b < wr.heap.size ∧ (Value.slice sa j sc).ownBlock ≠ some b) ∧ Fr none_ w wr
theorem inR_cases (last k r : Int) (h0 : 12 ≤ last) (h1 : last ≤ 100) : ((k == 4) = true ∧ decide (r > last) = true ∧ inR last k r = wrap64 (r.tmod last + 1)) ∨ ((k == 4) = true ∧ decide (r > last) = false ∧ inR last k r = r) ∨ ((k == 4) = false ∧ inR last k r = r) := by
  by_cases hk : k = 4
  · by_cases hc : last < r
    · refine .inl ⟨by simpa using hk, by simpa using hc, ?_⟩
      unfold inR
      rw [if_pos ⟨hk, hc⟩, Int.tmod_eq_emod_of_nonneg (show 0 ≤ r by omega)]
      have := Int.emod_nonneg r (show last ≠ 0 by omega)
      have := Int.emod_lt_of_pos r (show 0 < last by omega)
      generalize r % last = q at *
      unfold wrap64
      omega
    · refine .inr (.inl ⟨by simpa using hk, by simpa using hc, ?_⟩)
      unfold inR
      rw [if_neg (fun h => hc h.2)]
  · refine .inr (.inr ⟨by simpa using hk, ?_⟩)
    unfold inR
    rw [if_neg (fun h => hk h.1)]
theorem ownsRow_keep {S : Nat → Prop} {w w' : World} {B : Nat} {e : TypeId} {size : Nat} {v : Value} {n : Nat} {xs : List Value} (h : w.ownsRow B e size v n xs) (k : Fr S w w') (hn : ∀ b, v.ownBlock = some b → ¬ S b) : w'.ownsRow B e size v n xs := by
  refine ⟨h.1, ?_⟩
  rcases h.2 with h2 | ⟨g, cap, cur, rfl, hb, hg, r⟩
  · exact .inl h2
  · exact .inr ⟨g, cap, cur, rfl, hb, (k.block g (heap_lt hg) (hn g rfl)).trans hg, r⟩
theorem ownsRow_ge {w : World} {B : Nat} {e : TypeId} {size : Nat} {v : Value} {n : Nat} {xs : List Value} (h : w.ownsRow B e size v n xs) (b : Nat) (hb : v.ownBlock = some b) : B ≤ b ∧ b < w.heap.size := by
  rcases h.2 with ⟨rfl, _⟩ | ⟨g, cap, cur, rfl, h1, hg, _⟩
  · cases hb
  · injection hb with hb
    have hb : g = b := hb
    subst hb
    exact ⟨h1, heap_lt hg⟩
theorem cells_new (w : World) (cs : List Value) (t : Nat) : ∀ j u, cs[j]? = some u → (w.alloc (.cells cs.toArray t)).cell? ((⟨w.heap.size, 0, none⟩ : Addr).add j) = some u := by
  intro j u h
  rw [Addr.add_mid, Nat.zero_add, (Blk.new w cs t).cell j]
  exact h
theorem in_next {w wr w1 w2 : World} {last : Int} {cs : List Value} {k n r : Int} {s : ByteArray} {l : List V} {gk j : Nat} {sa A2 : Option Addr} {sc c2 g cap : Nat} {xs : List Value} {E : Nat → Prop} (hlt : j < l.length) (hjg : j + gk = l.length)
    (hb2 : Blk wr w.heap.size cs 37) (hb4 : Blk wr (w.heap.size + 1) zero5 37) (hb5 : Blk wr (w.heap.size + 1 + 1) [.int .u8 k, .int .i64 n, .string s, .slice sa j sc, .int .i64 r] 37)
    (hown : wr.ownsRow (w.heap.size + 1 + 1 + 1) 37 5 (.slice sa j sc) j xs) (hrv : RVL wr E False (inL last (l.take j)) xs) (hE : ∀ b, E b → w.heap.size + 1 + 1 + 1 ≤ b ∧ b < wr.heap.size ∧ (Value.slice sa j sc).ownBlock ≠ some b) (hf : Fr none_ w wr)
    (hfw : Fr none_ wr w1) (hv2 : RV w1 (fun b => wr.heap.size ≤ b ∧ b < w1.heap.size) False (inV last l[j]) ((inV last l[j]).cells A2 c2))
    (hown2 : w2.ownsRow (w.heap.size + 1 + 1 + 1) 37 5 (.slice (some ⟨g, 0, none⟩) (j + 1) cap) (j + 1) (xs ++ (inV last l[j]).cells A2 c2)) (hgrow : (w1.alloc (.cells ((inV last l[j]).cells A2 c2).toArray 37)).grownBy w2 (Value.slice sa j sc).ownBlock)
    (hat : (Value.slice sa j sc).ownBlock = some g ∨ g = (w1.alloc (.cells ((inV last l[j]).cells A2 c2).toArray 37)).heap.size) :
    InRel w last cs k n r s l (gk - 1) (.int .i64 ((j : Int) + 1)) (w2.setCell ⟨w.heap.size + 1 + 1, 3, none⟩ (.slice (some ⟨g, 0, none⟩) (j + 1) cap)) := by
  have hge := fun b h => ownsRow_ge hown b h
  have hs1 := hfw.size
  have hl5 := hb5.lt
  have f2 : Fr (fun b => (Value.slice sa j sc).ownBlock = some b) wr w2 := ((hfw.alloc _).mono (fun _ _ h => h.elim)).trans (grownBy_fr hgrow)
  have f12 : Fr (fun b => (Value.slice sa j sc).ownBlock = some b) w1 w2 := (((Fr.refl none_ w1).alloc _).mono (fun _ _ h => h.elim)).trans (grownBy_fr hgrow)
  have hs2 := f12.size
  have ne5 : (Value.slice sa j sc).ownBlock ≠ some (w.heap.size + 1 + 1) := fun e => by have := (hge _ e).1; omega
  have fs : Fr (· = w.heap.size + 1 + 1) w2 (w2.setCell ⟨w.heap.size + 1 + 1, 3, none⟩ (.slice (some ⟨g, 0, none⟩) (j + 1) cap)) := Fr.set1 _ _ _ _
  have hn2 : ∀ b, b < w.heap.size + 1 + 1 + 1 → (Value.slice sa j sc).ownBlock ≠ some b := fun b hb e => by have := (hge _ e).1; omega
  have hg2 := ownsRow_ge hown2 g rfl
  refine ⟨j + 1, some ⟨g, 0, none⟩, cap, xs ++ (inV last l[j]).cells A2 c2, fun b => E b ∨ (wr.heap.size ≤ b ∧ b < w1.heap.size), by omega, by simp, ?_, ?_, ?_, ?_, ?_, ?_, ?_⟩
  · exact (hb2.keep f2 (hn2 _ (by omega))).keep fs (by omega)
  · exact (hb4.keep f2 (hn2 _ (by omega))).keep fs (by omega)
  · exact (hb5.keep f2 ne5).set 3 _
  · refine ownsRow_keep hown2 fs (fun b hb e => ?_)
    injection hb with hb
    have hb : g = b := hb
    have := hg2.1
    omega
  · rw [inL_take last l j hlt]
    refine RVL.snoc ?_ ?_
    · refine RVL.mono (fun b h => .inl h) (RVL.fr fs (fun b hb e => by have := (hE b hb).1; omega) (hrv.fr f2 (fun b hb e => (hE b hb).2.2 e)))
    · refine RV.mono (fun b h => .inr h) (RV.fr fs (fun b hb e => by have := hb.1; omega) (hv2.fr f12 (fun b hb e => by have := (hge _ e).2; have := hb.1; omega)))
  · rintro b (hb | hb)
    · obtain ⟨h1, h2, h3⟩ := hE b hb
      refine ⟨h1, Nat.lt_of_lt_of_le (Nat.lt_of_lt_of_le h2 f2.size) fs.size, fun e => ?_⟩
      injection e with e
      have e : g = b := e
      rcases hat with hat | hat
      · rw [e] at hat; exact h3 hat
      · have : (w1.alloc (.cells ((inV last l[j]).cells A2 c2).toArray 37)).heap.size = w1.heap.size + 1 := World.size_alloc _ _
        omega
    · refine ⟨by omega, Nat.lt_of_lt_of_le (Nat.lt_of_lt_of_le hb.2 hs2) fs.size, fun e => ?_⟩
      injection e with e
      have e : g = b := e
      rcases hat with hat | hat
      · have := (hge _ hat).2; omega
      · have : (w1.alloc (.cells ((inV last l[j]).cells A2 c2).toArray 37)).heap.size = w1.heap.size + 1 := World.size_alloc _ _
        omega
  · have f3 : Fr none_ w w2 := hf.trans' f2 (fun i hi e => by have := (hge _ e).1; omega)
    exact f3.trans' fs (fun i hi e => by omega)
theorem cellsV_one (v : V) (A : Option Addr) (c : Nat) : ∀ u, u ∈ v.cells A c → u.oneCell' = true := by
  intro u hu
  simp [V.cells] at hu
  rcases hu with rfl | rfl | rfl | rfl | rfl <;> rfl
set_option maxRecDepth 100000 in
set_option maxHeartbeats 8000000 in
theorem in_w (last : Int) (h0 : 12 ≤ last) (h1 : last ≤ 100) (D : Nat → Prop) (z : Prop) (k n r : Int) (s : ByteArray) (l : List V) (A : Option Addr) (c : Nat) (w : World) (hr64 : I64 r) (hlb : l.length ≤ 2199023255552) (hx : InAll last l) (hD : ∀ b, D b → b < w.heap.size) (hs : RVs w D z l A) :
    Calls Try.prog 16 #[.agg #[.int .u8 k, .int .i64 n, .string s, .slice A l.length c, .int .i64 r], .int .i64 last] w fun e w' => ∃ (sa : Option Addr) (sc : Nat) (xs : List Value) (E : Nat → Prop), e = .returned (.agg #[.int .u8 k, .int .i64 n, .string s, .slice sa l.length sc, .int .i64 (inR last k r)]) ∧
      w'.ownsRow (w.heap.size + 1 + 1 + 1) 37 5 (.slice sa l.length sc) l.length xs ∧ RVL w' E False (inL last l) xs ∧ (∀ b, E b → w.heap.size ≤ b ∧ b < w'.heap.size) ∧ Fr none_ w w' := by
  have hz := zero_Value
  obtain ⟨i0, hi, hz0, hz1, hz2⟩ := info_parts info_Value
  have HX := Lib.hid hx; clear hx
  have HD := Lib.hid hD; clear hD
  have HS := Lib.hid hs; clear hs
  have HI := Lib.hid hi; clear hi
  have HZ0 := Lib.hid hz0; clear hz0
  have HZ1 := Lib.hid hz1; clear hz1
  have HZ2 := Lib.hid hz2; clear hz2
  rcases inR_cases last k r h0 h1 with ⟨dk, dc, hir⟩ | ⟨dk, dc, hir⟩ | ⟨dk, hir⟩
  all_goals
    have HIR := Lib.hid hir; clear hir
    go_enter Try.func16, Try.ntmps16
    go_wp2_with fail
    refine code_gen ?_
    intro W3 hW
    have hex : ∃ r', r' = inR last k r ∧ W3 = ((w.alloc (.cells #[.int .u8 k, .int .i64 n, .string s, .slice A l.length c, .int .i64 r] 37)).alloc (.cells #[.int .u8 0, .int .i64 0, .string ⟨#[]⟩, .slice none 0 0, .int .i64 0] 37)).alloc (.cells #[.int .u8 k, .int .i64 n, .string s, .slice none 0 0, .int .i64 r'] 37) := ⟨_, HIR.out.symm, hW⟩
    clear hW
    obtain ⟨r', hr', hW⟩ := hex
    have hf3 : Fr none_ w W3 := by rw [hW]; exact (((Fr.refl _ _).alloc _).alloc _).alloc _
    have hb2 : Blk W3 w.heap.size [.int .u8 k, .int .i64 n, .string s, .slice A l.length c, .int .i64 r] 37 := by rw [hW]; exact ((Blk.new w _ _).alloc _).alloc _
    have hb4 : Blk W3 (w.heap.size + 1) zero5 37 := by
      rw [hW]
      have h := Blk.new (w.alloc (.cells #[.int .u8 k, .int .i64 n, .string s, .slice A l.length c, .int .i64 r] 37)) zero5 37
      rw [World.size_alloc] at h
      exact h.alloc _
    have hb5 : Blk W3 (w.heap.size + 1 + 1) [.int .u8 k, .int .i64 n, .string s, .slice none 0 0, .int .i64 r'] 37 := by
      rw [hW]
      have h := Blk.new ((w.alloc (.cells #[.int .u8 k, .int .i64 n, .string s, .slice A l.length c, .int .i64 r] 37)).alloc (.cells zero5.toArray 37)) [.int .u8 k, .int .i64 n, .string s, .slice none 0 0, .int .i64 r'] 37
      rw [World.size_alloc, World.size_alloc] at h
      exact h
    clear hW
    have HF3 := Lib.hid hf3; clear hf3
    have HB2 := Lib.hid hb2; clear hb2
    have HB4 := Lib.hid hb4; clear hb4
    have HB5 := Lib.hid hb5; clear hb5
    have HRR := Lib.hid hr'; clear hr'
    go_loopg [6] (l.length) (fun g s6 wr => InRel w last [.int .u8 k, .int .i64 n, .string s, .slice A l.length c, .int .i64 r] k n r' s l g s6 wr)
    case atStart => exact ⟨0, none, 0, [], fun _ => False, by omega, rfl, HB2.out, HB4.out, HB5.out, World.ownsRow_nil _ _ _ _, by unfold RVL; rfl, fun b h => h.elim, HF3.out⟩
    case round =>
      obtain ⟨j, sa, sc, xs, E, hjg, rfl, hbk2, hbk4, hbk5, hown, hrv, hE, hf⟩ := hrel
      clear HF3 HB2 HB4 HB5
      have x3 : wr.cell? ⟨w.heap.size, 3, none⟩ = some (.slice A l.length c) := hbk2.cell 3
      have y3 : wr.cell? ⟨w.heap.size + 1 + 1, 3, none⟩ = some (.slice sa j sc) := hbk5.cell 3
      have hl5 := hbk5.lt
      have HB2 := Lib.hid hbk2; clear hbk2
      have HB4 := Lib.hid hbk4; clear hbk4
      have HB5 := Lib.hid hbk5; clear hbk5
      have HOWN := Lib.hid hown; clear hown
      have HRV := Lib.hid hrv; clear hrv
      have HE := Lib.hid hE; clear hE
      have HF := Lib.hid hf; clear hf
      by_cases hlt : j < l.length
      · have hs' := HS.out.fr HF.out (fun _ _ h => h)
        obtain ⟨b1, o1, A1, c1', he, hd1, e0, e1, e2, e3, e4, hv⟩ := hs'.elem hlt
        subst he
        have HV := Lib.hid hv; clear hv
        clear hs' hd1
        have hjb : (j : Int) < l.length := by omega
        have hj0 := hlb
        go_wp2_with fail
        go_region_law (first
          | (refine step_call' rfl (.func 16) _ _ 16 _ #[] #[l[j].agg A1 c1', .int .i64 last] rfl rfl Try.func16 (by kernel_rfl) rfl (by simp [Act.eval, Act.put]) (HX.out l[j] (List.getElem_mem _) D z A1 c1' _ (HV.out.fr (S := none_) (by repeat (first | exact Fr.refl _ _ | refine Fr.alloc ?_ _ | refine Fr.drew ?_)) (fun _ _ h => h)) (fun b hd => Nat.lt_of_lt_of_le (HD.out b hd) HF.out.size)) ?_
             rintro e w1 ⟨A2, c2, rfl, hv2, hf2⟩
             refine ⟨_, rfl, ?_⟩
             have hfw : Fr none_ wr w1 := Fr.trans (by repeat (first | exact Fr.refl _ _ | refine Fr.alloc ?_ _ | refine Fr.drew ?_)) hf2
             have hb5 := HB5.out.keep hfw (fun h => h)
             have y3' : w1.cell? ⟨w.heap.size + 1 + 1, 3, none⟩ = some (.slice sa j sc) := hb5.cell 3
             have hl5' := hb5.lt
             have HB5' := Lib.hid hb5; clear hb5
             have HV2 := Lib.hid hv2; clear hv2
             have HFW := Lib.hid hfw; clear hfw hf2)
          | (refine step_append_lies _ rfl (.tmp 32) (.tmp 40) 35 rfl (w.heap.size + 1 + 1 + 1) 37 i0 _ 5 64 Try.underlying35 HI.out HZ0.out HZ1.out HZ2.out rfl (by omega) (.slice sa j sc) j xs (by simp [Act.eval, Act.put]) (ownsRow_keep HOWN.out (HFW.out.alloc _) (fun _ _ h => h)) ⟨w1.heap.size, 0, none⟩ 1 1 ((inV last l[j]).cells A2 c2) (by simp [Act.eval, Act.put]) (by simp) (cells_new _ _ _) (cellsV_one _ _ _) (by omega) (by unfold maxLen; omega) (by omega) (by have := HFW.out.size; simp; omega) _ rfl ?_
             intro g cap w2 hown2 hgrow hat hlt2
             have hrel := in_next hlt hjg HB2.out HB4.out HB5.out HOWN.out HRV.out HE.out HF.out HFW.out HV2.out hown2 hgrow hat
             have hb5'' : Blk w2 (w.heap.size + 1 + 1) [.int .u8 k, .int .i64 n, .string s, .slice sa j sc, .int .i64 r'] 37 := (HB5'.out.alloc _).keep (grownBy_fr hgrow) (fun e => by have := (ownsRow_ge HOWN.out _ e).1; omega)
             have y3'' : w2.cell? ⟨w.heap.size + 1 + 1, 3, none⟩ = some (.slice sa j sc) := hb5''.cell 3
             have z3'' := hb5''.frozen 3
             have HREL := Lib.hid hrel; clear hrel hb5'' hown2 hgrow hat hlt2))
        all_goals go_wp2
        all_goals
          go_roundg (gk - 1)
          case measure => omega
          case rel => exact HREL.out
      · obtain rfl : j = l.length := by omega
        clear hlt
        have y0 : wr.cell? ⟨w.heap.size + 1 + 1, 0, none⟩ = some (.int .u8 k) := HB5.out.cell 0
        have y1 : wr.cell? ⟨w.heap.size + 1 + 1, 1, none⟩ = some (.int .i64 n) := HB5.out.cell 1
        have y2 : wr.cell? ⟨w.heap.size + 1 + 1, 2, none⟩ = some (.string s) := HB5.out.cell 2
        have y4 : wr.cell? ⟨w.heap.size + 1 + 1, 4, none⟩ = some (.int .i64 r') := HB5.out.cell 4
        go_wp2_with (refine wpList_stop (.store 37 (.tmp 4) (.tmp 43)) rfl ?_)
        refine Stop.mk ?_
        refine wpList_store_blk (cs := zero5) (t := 37) rfl 37 (.tmp 4) (.tmp 43) rfl (w.heap.size + 1) 0 [.int .u8 k, .int .i64 n, .string s, .slice sa l.length sc, .int .i64 r'] ?e1 ?e2 HB4.out (by simp) size_Value rfl ?_
        case e1 => rfl
        case e2 => rfl
        have hfe := HF.out.setCells (w.heap.size + 1) 0 [.int .u8 k, .int .i64 n, .string s, .slice sa l.length sc, .int .i64 r'] (fun h => by omega)
        have hbe := HB4.out.setCells 0 [.int .u8 k, .int .i64 n, .string s, .slice sa l.length sc, .int .i64 r'] (by simp)
        have hfk : Fr (· = w.heap.size + 1) wr (wr.setCells (w.heap.size + 1) 0 [.int .u8 k, .int .i64 n, .string s, .slice sa l.length sc, .int .i64 r']) := (Fr.refl _ _).setCells _ _ _ (fun _ => rfl)
        have HFE := Lib.hid hfe; clear hfe
        have HBE := Lib.hid hbe; clear hbe
        have HFK := Lib.hid hfk; clear hfk
        show wpList _ _ _ _ _ (wr.setCells (w.heap.size + 1) 0 [.int .u8 k, .int .i64 n, .string s, .slice sa l.length sc, .int .i64 r'])
        generalize wr.setCells (w.heap.size + 1) 0 [.int .u8 k, .int .i64 n, .string s, .slice sa l.length sc, .int .i64 r'] = W9 at HFE HBE HFK ⊢
        go_wp2
        refine ret_blk (g := w.heap.size + 1) (cs := [.int .u8 k, .int .i64 n, .string s, .slice sa l.length sc, .int .i64 r']) (t := 37) rfl rfl HBE.out Try.underlying37 rfl size_Value rfl ?_
        have hne : ∀ b, (Value.slice sa l.length sc).ownBlock = some b → b ≠ w.heap.size + 1 := by
          intro b hb e
          rcases HOWN.out.2 with ⟨h, _⟩ | ⟨g, cap, cur, h, hg, _⟩
          · injection h with h _ _; subst h; cases hb
          · injection h with h _ _; subst h; injection hb with hb; simp at hb; omega
        refine ⟨sa, sc, xs, E, by rw [← HRR.out], ?_, ?_, fun b hb => ?_, HFE.out⟩
        · exact ownsRow_keep HOWN.out HFK.out hne
        · have h := HRV.out
          rw [List.take_length] at h
          exact h.fr HFK.out (fun b hb e => by have := (HE.out b hb).1; omega)
        · have := HE.out b hb
          have := HFK.out.size
          omega
theorem within_any (last : Int) (h0 : 12 ≤ last) (h1 : last ≤ 100) (v : V) : InAll last [v] := by
  induction v using V.ind with
  | h k n s l r ih =>
    intro x hx D z A c w hv hD
    obtain rfl : x = .mk k n s l r := by simpa using hx
    obtain ⟨b1, b2, b3, b4, b5⟩ := hv.bounds
    refine (in_w last h0 h1 D z k n r s l A c w b3 b5 (fun y hy => ih y hy y (List.mem_singleton_self y)) hD hv.list.1).mono ?_
    rintro e w' ⟨sa, sc, xs, E, rfl, hown, hrv, hE, hf⟩
    refine ⟨sa, sc, ?_, ?_, hf⟩
    · show _ = Ending.returned (.agg #[.int .u8 k, .int .i64 n, .string s, .slice sa (inL last l).length sc, .int .i64 (inR last k r)])
      rw [inL_length]
    · have hr : RVs w' (fun b => w.heap.size ≤ b ∧ b < w'.heap.size) False (inL last l) sa ∧ l.length ≤ sc := by
        rcases hown.2 with ⟨h, h2⟩ | ⟨g, cap, cur, h, hg, hh, hn, _, hcs, ht⟩
        · injection h with e1 _ e3
          subst e1; subst e3
          have hl : l = [] := List.eq_nil_of_length_eq_zero h2
          subst hl
          refine ⟨?_, by simp⟩
          unfold inL RVs
          trivial
        · injection h with e1 _ e3
          subst e1; subst e3
          refine ⟨RVL.row (D := fun b => w.heap.size ≤ b ∧ b < w'.heap.size) ⟨by omega, heap_lt hh⟩ (fun z => z.elim) 0 (fun z => z.elim) (hrv.mono hE) (fun i hi => ?_), hn⟩
          have hx : xs[i]? = cur[i]? := by
            rw [← ht, List.getElem?_take, if_pos (by rw [← hown.1]; exact hi)]
            simp
          rw [Nat.zero_add, hx]
          have hb : Blk w' g cur.toList 37 := by unfold Blk; simpa using hh
          rw [hb.cell i]
          simp
      show RV w' _ False (.mk k n s (inL last l) (inR last k r)) [.int .u8 k, .int .i64 n, .string s, .slice sa (inL last l).length sc, .int .i64 (inR last k r)]
      unfold RV
      refine ⟨b1, b2, ?_, b4, by rw [inL_length]; exact b5, sa, sc, rfl, by rw [inL_length]; exact hr.2, hr.1⟩
      unfold inR I64 at *
      split
      · have := Int.emod_nonneg r (show last ≠ 0 by omega)
        have := Int.emod_lt_of_pos r (show 0 < last by omega)
        omega
      · exact b3
end Go.Proofs.Ytpgjbbefgacjkaa
