/- Plain words: things and worlds, and how they lie in memory. -/
import Derived.Test.YtpgjbbefgacjkaaBase2
namespace Go.Proofs.Ytpgjbbefgacjkaa
open Go.RowKit
set_option linter.unusedSimpArgs false
set_option linter.unusedVariables false

/-! ### 1. Expressions, statements, names, things -/
inductive Ex where
  | mk (k n : Int) (s : ByteArray) (l : List Ex)
inductive St where
  | mk (op : Int) (name second : ByteArray) (able what : Int) (a b : Ex) (thn els code : List St) (wth : List ByteArray)
structure Nm where
  name : ByteArray
  val : V
structure X where
  kind : Int
  home : Int
  val : V
  vals : List V
  n : Int
  lost : Int
  of_ : Int
  by_ : Int
  set : Int
  full : Bool
  code : List St
  names : List Nm

/-- Strings in a row. -/
def RStr (w : World) (D : Nat → Prop) (l : List ByteArray) (A : Option Addr) : Prop := ∀ i (h : i < l.length), ∃ b o, A = some ⟨b, o, none⟩ ∧ D b ∧ w.cell? ⟨b, o + i, none⟩ = some (.string l[i]) ∧ l[i].size ≤ 140737488351232
mutual
def RE (w : World) (D : Nat → Prop) : Ex → List Value → Prop
  | .mk k n s l, cs => U8 k ∧ I64 n ∧ s.size ≤ 140737488351232 ∧ l.length ≤ 2199023255552 ∧ ∃ A c, cs = [.int .u8 k, .int .i64 n, .string s, .slice A l.length c] ∧ l.length ≤ c ∧ REs w D l A
def REs (w : World) (D : Nat → Prop) : List Ex → Option Addr → Prop
  | [], _ => True
  | x :: l, A => ∃ b o cs, A = some ⟨b, o, none⟩ ∧ D b ∧ (∀ i, i < 4 → w.cell? ⟨b, o + i, none⟩ = cs[i]?) ∧ RE w D x cs ∧ REs w D l (some ⟨b, o + 4, none⟩)
end
mutual
def RS (w : World) (D : Nat → Prop) : St → List Value → Prop
  | .mk op name second able what a b thn els code wth, cs => U8 op ∧ U8 able ∧ U8 what ∧ thn.length ≤ 2199023255552 ∧ els.length ≤ 2199023255552 ∧ code.length ≤ 2199023255552 ∧ wth.length ≤ 2199023255552 ∧
      ∃ ca cb A1 c1 A2 c2 A3 c3 A4 c4, cs = [.int .u8 op, .string name, .string second, .int .u8 able, .int .u8 what] ++ ca ++ cb ++ [.slice A1 thn.length c1, .slice A2 els.length c2, .slice A3 code.length c3, .slice A4 wth.length c4] ∧
        RE w D a ca ∧ RE w D b cb ∧ thn.length ≤ c1 ∧ els.length ≤ c2 ∧ code.length ≤ c3 ∧ wth.length ≤ c4 ∧ RSs w D thn A1 ∧ RSs w D els A2 ∧ RSs w D code A3 ∧ RStr w D wth A4
def RSs (w : World) (D : Nat → Prop) : List St → Option Addr → Prop
  | [], _ => True
  | x :: l, A => ∃ b o cs, A = some ⟨b, o, none⟩ ∧ D b ∧ (∀ i, i < 17 → w.cell? ⟨b, o + i, none⟩ = cs[i]?) ∧ RS w D x cs ∧ RSs w D l (some ⟨b, o + 17, none⟩)
end
def RN (w : World) (D : Nat → Prop) (z : Prop) (x : Nm) (cs : List Value) : Prop := x.name.size ≤ 140737488351232 ∧ ∃ c5, cs = .string x.name :: c5 ∧ RV w D z x.val c5
def RNs (w : World) (D : Nat → Prop) (z : Prop) : List Nm → Option Addr → Prop
  | [], _ => True
  | x :: l, A => ∃ b o cs, A = some ⟨b, o, none⟩ ∧ D b ∧ (∀ i, i < 6 → w.cell? ⟨b, o + i, none⟩ = cs[i]?) ∧ RN w D z x cs ∧ RNs w D z l (some ⟨b, o + 6, none⟩)

/-! #### frames -/
theorem cell_keep {w w' : World} {b : Nat} (hb : b < w.heap.size → w'.heap[b]? = w.heap[b]?) {i : Nat} {v : Value} (h : w.cell? ⟨b, i, none⟩ = some v) : w'.cell? ⟨b, i, none⟩ = some v :=
  (World.cell?_of_block (w := w) (a := ⟨b, i, none⟩) (hb (cell_lt h))).trans h
theorem cells_keep {w w' : World} {b o n : Nat} {cs : List Value} (hb : b < w.heap.size → w'.heap[b]? = w.heap[b]?) (hn : n ≤ cs.length) (h : ∀ i, i < n → w.cell? ⟨b, o + i, none⟩ = cs[i]?) : ∀ i, i < n → w'.cell? ⟨b, o + i, none⟩ = cs[i]? := by
  intro i hi
  have h1 := h i hi
  rw [List.getElem?_eq_getElem (show i < cs.length by omega)] at h1 ⊢
  exact cell_keep hb h1
theorem Ex.ind {P : Ex → Prop} (h : ∀ k n s l, (∀ x, x ∈ l → P x) → P (.mk k n s l)) : ∀ v, P v := by
  intro v
  refine Ex.rec (motive_1 := P) (motive_2 := fun l => ∀ x, x ∈ l → P x) (fun k n s l ih => h k n s l ih) ?_ ?_ v
  · intro x hx; cases hx
  · intro y l hy hl x hx
    rcases List.mem_cons.1 hx with rfl | hx
    · exact hy
    · exact hl x hx
theorem St.ind {P : St → Prop} (h : ∀ op name second able what a b thn els code wth, (∀ x, x ∈ thn → P x) → (∀ x, x ∈ els → P x) → (∀ x, x ∈ code → P x) → P (.mk op name second able what a b thn els code wth)) : ∀ v, P v := by
  intro v
  refine St.rec (motive_1 := P) (motive_2 := fun l => ∀ x, x ∈ l → P x) (fun op name second able what a b thn els code wth i1 i2 i3 => h op name second able what a b thn els code wth i1 i2 i3) ?_ ?_ v
  · intro x hx; cases hx
  · intro y l hy hl x hx
    rcases List.mem_cons.1 hx with rfl | hx
    · exact hy
    · exact hl x hx
theorem RE.four {w : World} {D : Nat → Prop} {x : Ex} {cs : List Value} (h : RE w D x cs) : cs.length = 4 := by
  cases x; unfold RE at h; obtain ⟨_, _, _, _, A, c, rfl, _⟩ := h; rfl
theorem RS.len {w : World} {D : Nat → Prop} {x : St} {cs : List Value} (h : RS w D x cs) : cs.length = 17 := by
  cases x; unfold RS at h
  obtain ⟨_, _, _, _, _, _, _, ca, cb, A1, c1, A2, c2, A3, c3, A4, c4, rfl, ha, hb, _⟩ := h
  simp [ha.four, hb.four]
theorem RN.six {w : World} {D : Nat → Prop} {z : Prop} {x : Nm} {cs : List Value} (h : RN w D z x cs) : cs.length = 6 := by
  obtain ⟨_, c5, rfl, h⟩ := h; simp [h.five]
section
variable {w w' : World} {D D' : Nat → Prop} {z : Prop} (hD : ∀ b, D b → D' b) (hb : ∀ b, D b → b < w.heap.size → w'.heap[b]? = w.heap[b]?)
include hD hb
theorem RStr.keep {l : List ByteArray} {A : Option Addr} (h : RStr w D l A) : RStr w' D' l A := fun i hi => by
  obtain ⟨b, o, h1, h2, h3, h4⟩ := h i hi
  exact ⟨b, o, h1, hD b h2, cell_keep (hb b h2) h3, h4⟩
theorem REs.keep_of (l : List Ex) (hx : ∀ x, x ∈ l → ∀ cs, RE w D x cs → RE w' D' x cs) : ∀ A, REs w D l A → REs w' D' l A := by
  induction l with
  | nil => intro A _; unfold REs; trivial
  | cons v l ih =>
    intro A h
    unfold REs at h ⊢
    obtain ⟨b, o, cs, rfl, hd, hc, hv, hl⟩ := h
    exact ⟨b, o, cs, rfl, hD b hd, cells_keep (hb b hd) (by rw [hv.four]; omega) hc, hx v (List.mem_cons_self ..) cs hv, ih (fun x hx' => hx x (List.mem_cons_of_mem _ hx')) _ hl⟩
theorem RE.keep : ∀ (x : Ex) (cs : List Value), RE w D x cs → RE w' D' x cs := by
  intro x
  induction x using Ex.ind with
  | h k n s l ih =>
    intro cs h
    unfold RE at h ⊢
    obtain ⟨h1, h2, h3, h4, A, c, h5, h6, h7⟩ := h
    exact ⟨h1, h2, h3, h4, A, c, h5, h6, REs.keep_of hD hb l ih A h7⟩
theorem RSs.keep_of (l : List St) (hx : ∀ x, x ∈ l → ∀ cs, RS w D x cs → RS w' D' x cs) : ∀ A, RSs w D l A → RSs w' D' l A := by
  induction l with
  | nil => intro A _; unfold RSs; trivial
  | cons v l ih =>
    intro A h
    unfold RSs at h ⊢
    obtain ⟨b, o, cs, rfl, hd, hc, hv, hl⟩ := h
    exact ⟨b, o, cs, rfl, hD b hd, cells_keep (hb b hd) (by rw [hv.len]; omega) hc, hx v (List.mem_cons_self ..) cs hv, ih (fun x hx' => hx x (List.mem_cons_of_mem _ hx')) _ hl⟩
theorem RS.keep : ∀ (x : St) (cs : List Value), RS w D x cs → RS w' D' x cs := by
  intro x
  induction x using St.ind with
  | h op name second able what a b thn els code wth i1 i2 i3 =>
    intro cs h
    unfold RS at h ⊢
    obtain ⟨h1, h2, h3, h4, h5, h6, h7, ca, cb, A1, c1, A2, c2, A3, c3, A4, c4, e, ha, hb', l1, l2, l3, l4, s1, s2, s3, s4⟩ := h
    exact ⟨h1, h2, h3, h4, h5, h6, h7, ca, cb, A1, c1, A2, c2, A3, c3, A4, c4, e, RE.keep hD hb a ca ha, RE.keep hD hb b cb hb', l1, l2, l3, l4, RSs.keep_of hD hb thn i1 A1 s1, RSs.keep_of hD hb els i2 A2 s2, RSs.keep_of hD hb code i3 A3 s3, RStr.keep hD hb s4⟩
theorem RSs.keep (l : List St) (A : Option Addr) (h : RSs w D l A) : RSs w' D' l A := RSs.keep_of hD hb l (fun x _ cs => RS.keep hD hb x cs) A h
theorem RN.keep {x : Nm} {cs : List Value} (h : RN w D z x cs) : RN w' D' z x cs := by
  obtain ⟨h1, c5, h2, h3⟩ := h
  exact ⟨h1, c5, h2, RV.keep hD hb x.val c5 h3⟩
theorem RNs.keep : ∀ (l : List Nm) (A : Option Addr), RNs w D z l A → RNs w' D' z l A
  | [], A, _ => by unfold RNs; trivial
  | x :: l, A, h => by
    unfold RNs at h ⊢
    obtain ⟨b, o, cs, rfl, hd, hc, hv, hl⟩ := h
    exact ⟨b, o, cs, rfl, hD b hd, cells_keep (hb b hd) (by rw [hv.six]; omega) hc, RN.keep hD hb hv, RNs.keep l _ hl⟩
end

/-! ### 2. A thing -/
/-- The slices under a thing: values, code, names. -/
structure Under where
  va : Option Addr
  vc : Nat
  la : Option Addr
  lc : Nat
  ca : Option Addr
  cc : Nat
  na : Option Addr
  nc : Nat
abbrev X.cells (x : X) (u : Under) : List Value :=
  [.int .u8 x.kind, .int .i64 x.home, .int .u8 x.val.k, .int .i64 x.val.n, .string x.val.s, .slice u.va x.val.l.length u.vc, .int .i64 x.val.r, .slice u.la x.vals.length u.lc, .int .i64 x.n, .int .i64 x.lost, .int .i64 x.of_, .int .i64 x.by_, .int .u8 x.set, .bool x.full, .slice u.ca x.code.length u.cc, .slice u.na x.names.length u.nc]
abbrev X.agg (x : X) (u : Under) : Value :=
  .agg #[.int .u8 x.kind, .int .i64 x.home, .int .u8 x.val.k, .int .i64 x.val.n, .string x.val.s, .slice u.va x.val.l.length u.vc, .int .i64 x.val.r, .slice u.la x.vals.length u.lc, .int .i64 x.n, .int .i64 x.lost, .int .i64 x.of_, .int .i64 x.by_, .int .u8 x.set, .bool x.full, .slice u.ca x.code.length u.cc, .slice u.na x.names.length u.nc]
/-- What a thing leads to. -/
structure RX (w : World) (D : Nat → Prop) (z : Prop) (x : X) (u : Under) : Prop where
  kind : U8 x.kind
  home : I64 x.home
  n : I64 x.n
  lost : I64 x.lost
  of_ : I64 x.of_
  by_ : I64 x.by_
  set : U8 x.set
  vall : x.vals.length ≤ 2199023255552
  codel : x.code.length ≤ 2199023255552
  namesl : x.names.length ≤ 2199023255552
  lc : x.vals.length ≤ u.lc
  cc : x.code.length ≤ u.cc
  nc : x.names.length ≤ u.nc
  val : RV w D z x.val (x.val.cells u.va u.vc)
  vals : RVs w D z x.vals u.la
  code : RSs w D x.code u.ca
  names : RNs w D z x.names u.na
theorem RX.keep {w w' : World} {D D' : Nat → Prop} {z : Prop} (hD : ∀ b, D b → D' b) (hb : ∀ b, D b → b < w.heap.size → w'.heap[b]? = w.heap[b]?) {x : X} {u : Under} (h : RX w D z x u) : RX w' D' z x u :=
  { h with val := h.val.keep hD hb, vals := h.vals.keep hD hb, code := RSs.keep hD hb _ _ h.code, names := RNs.keep hD hb _ _ h.names }
theorem RX.fr {S D : Nat → Prop} {z : Prop} {w w' : World} (k : Fr S w w') (hn : ∀ b, D b → ¬ S b) {x : X} {u : Under} (h : RX w D z x u) : RX w' D z x u :=
  h.keep (fun _ h => h) (fun b hd hb => k.block b hb (hn b hd))
theorem RX.mono {D D' : Nat → Prop} {z : Prop} {w : World} (hD : ∀ b, D b → D' b) {x : X} {u : Under} (h : RX w D z x u) : RX w D' z x u := h.keep hD (fun _ _ _ => rfl)

/-! ### 3. A world -/
structure AW where
  parents : List Int
  cut : List Bool
  things : List (Int × X)
  last : Int
  made : List Int
def AW.at_ (W : AW) (r : Int) : Option X := (W.things.find? fun t => t.1 == r).map (·.2)
def AW.sides (W : AW) : Nat := W.made.length
/-- An entry of the map of things: number, block, stamp. -/
abbrev ent (e : Int × Nat × Nat) : MapEntry := { key := .int .i64 e.1, val := .pointer (some ⟨e.2.1, 0, none⟩), born := e.2.2 }
/-- An entry of the map of facets: target, set; number; stamp. -/
abbrev fent (e : (Int × Int) × Int × Nat) : MapEntry := { key := .agg #[.int .i64 e.1.1, .int .u8 e.1.2], val := .int .i64 e.2.1, born := e.2.2 }
def blkOf (L : List (Int × Nat × Nat)) (r : Int) : Option Nat := (L.find? fun e => e.1 == r).map (·.2.1)
/-- What is known of a world in memory, all told. M: the blocks that are written; D: those that are only read. -/
structure RepW (w : World) (p : Nat) (W : AW) (M D : Nat → Prop) (pa : Option Addr) (pc bc bt bf bm ck fk : Nat) (L : List (Int × Nat × Nat)) (FL : List ((Int × Int) × Int × Nat)) : Prop where
  str : Blk w p [.slice pa W.parents.length pc, .slice (some ⟨bc, 0, none⟩) W.cut.length W.cut.length, .map (some bt), .map (some bf), .int .i64 W.last, .slice (some ⟨bm, 0, none⟩) W.made.length W.made.length] 62
  par : ∀ i (h : i < W.parents.length), ∃ b o, pa = some ⟨b, o, none⟩ ∧ D b ∧ w.cell? ⟨b, o + i, none⟩ = some (.int .i64 W.parents[i])
  cutB : Blk w bc (W.cut.map Value.bool) 4
  madeB : Blk w bm (rowI W.made) 3
  mapB : w.heap[bt]? = some (.map (L.map ent).toArray ck)
  facB : w.heap[bf]? = some (.map (FL.map fent).toArray fk)
  m : M p ∧ M bc ∧ M bt ∧ M bf ∧ M bm
  btf : bt ≠ bf
  md : ∀ b, D b → ¬ M b
  mlt : ∀ b, M b → b < w.heap.size
  dlt : ∀ b, D b → b < w.heap.size
  rise : W.things.Pairwise fun a b => a.1 < b.1
  low : ∀ t, t ∈ W.things → 1 ≤ t.1 ∧ t.1 ≤ W.last
  perm : (L.map (·.1)).Perm (W.things.map (·.1))
  born : (L.map (·.2.2)).Nodup ∧ ∀ e, e ∈ L → e.2.2 < ck
  blks : (L.map (·.2.1)).Nodup
  thing : ∀ r b s, (r, b, s) ∈ L → M b ∧ ∃ x u, (r, x) ∈ W.things ∧ Blk w b (x.cells u) 69 ∧ RX w D True x u
  facs : ∀ t s r, (∃ k, ((t, s), r, k) ∈ FL) ↔ ∃ x, (r, x) ∈ W.things ∧ x.kind = 14 ∧ x.of_ = t ∧ x.set = s
  facn : (FL.map (·.1)).Nodup
  sides : W.made.length = W.parents.length + 1 ∧ W.cut.length = W.made.length ∧ W.made.length ≤ 16
  mades : ∀ i (h : i < W.made.length), 0 ≤ W.made[i] ∧ W.made[i] ≤ 512
  last : 0 ≤ W.last ∧ W.last ≤ 64 * W.made.sum
/-- A world in memory; F: the blocks that are its. -/
def Rep (w : World) (p : Nat) (W : AW) (F : Nat → Prop) : Prop := ∃ M D pa pc bc bt bf bm ck fk L FL, RepW w p W M D pa pc bc bt bf bm ck fk L FL ∧ (∀ b, M b → F b) ∧ (∀ b, D b → F b)
end Go.Proofs.Ytpgjbbefgacjkaa
