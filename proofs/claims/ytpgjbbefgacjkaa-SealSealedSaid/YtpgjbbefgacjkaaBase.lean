/- Plain words for what lies in memory: values of the program's package value as trees, rows of cells, frames. No statement is proved here. -/
import Derived.WalkKit
import Derived.WalkSpells
import Derived.WalkLawsBesides
import Derived.KernelRfl
import Derived.Lib.Hide
import Derived.Deep.MidRow
import Derived.BigQuiet
import Derived.Deep.QuietTactic
import Derived.Deep.LoopGhost
import Derived.Deep.RegionWith
import Derived.Deep.RegionHeld3
import Derived.Deep.RegionLaw
import Derived.Deep.RegionLawGrows
import Derived.Maps.AppendAt
import Derived.RangeFuncBox
import Derived.StillTailTactics
import Derived.Deep.DeepFit
namespace Go.Proofs.Ytpgjbbefgacjkaa
open Go.RowKit
set_option linter.unusedSimpArgs false
set_option linter.unusedVariables false

/-! ### 1. Frames -/
/-- What existed and is not in S is as it was; nothing has gone. -/
structure Fr (S : Nat → Prop) (w w' : World) : Prop where
  os : w'.os = w.os
  tape : w'.tape = w.tape
  output : w'.output = w.output
  size : w.heap.size ≤ w'.heap.size
  block : ∀ b, b < w.heap.size → ¬ S b → w'.heap[b]? = w.heap[b]?
abbrev none_ : Nat → Prop := fun _ => False
theorem Fr.refl (S : Nat → Prop) (w : World) : Fr S w w := ⟨rfl, rfl, rfl, Nat.le_refl _, fun _ _ _ => rfl⟩
theorem Fr.trans {S : Nat → Prop} {a b c : World} (h : Fr S a b) (k : Fr S b c) : Fr S a c :=
  ⟨k.os.trans h.os, k.tape.trans h.tape, k.output.trans h.output, Nat.le_trans h.size k.size,
   fun i hi hn => (k.block i (Nat.lt_of_lt_of_le hi h.size) hn).trans (h.block i hi hn)⟩
theorem Fr.mono {S S' : Nat → Prop} {a b : World} (h : Fr S a b) (hs : ∀ i, i < a.heap.size → S i → S' i) : Fr S' a b :=
  ⟨h.os, h.tape, h.output, h.size, fun i hi hn => h.block i hi fun hS => hn (hs i hi hS)⟩
/-- What was written in between is new: seen from the first world nothing has turned. -/
theorem Fr.trans' {S S' : Nat → Prop} {a b c : World} (h : Fr S a b) (k : Fr S' b c) (hs : ∀ i, i < a.heap.size → S' i → S i) : Fr S a c :=
  ⟨k.os.trans h.os, k.tape.trans h.tape, k.output.trans h.output, Nat.le_trans h.size k.size,
   fun i hi hn => (k.block i (Nat.lt_of_lt_of_le hi h.size) fun hS => hn (hs i hi hS)).trans (h.block i hi hn)⟩
theorem Fr.below {w w' : World} (h : Fr none_ w w') : Below w.heap.size w w' := ⟨h.os, h.tape, h.output, h.size, fun b hb => h.block b hb fun h => h⟩
theorem Fr.of_below {w w' : World} (h : Below w.heap.size w w') : Fr none_ w w' := ⟨h.os, h.tape, h.output, h.size, fun b hb _ => h.block b hb⟩
theorem Fr.alloc {S : Nat → Prop} {a w : World} (h : Fr S a w) (o : Obj) : Fr S a (w.alloc o) :=
  h.trans ⟨rfl, rfl, rfl, by simp, fun k hk _ => Below.heap_alloc _ _ _ (by omega)⟩
theorem Fr.setCell {S : Nat → Prop} {a w : World} (h : Fr S a w) {p : Addr} (hp : p.block < a.heap.size → S p.block) (u : Value) : Fr S a (w.setCell p u) :=
  ⟨h.os, h.tape, h.output, by have := h.size; simpa [World.setCell] using this, fun k hk hn => by
    rw [Below.heap_setCell _ _ _ _ (fun e => hn (by subst e; exact hp hk))]; exact h.block k hk hn⟩
theorem Fr.set1 (w : World) (q i : Nat) (u : Value) : Fr (· = q) w (w.setCell ⟨q, i, none⟩ u) := Fr.setCell (S := (· = q)) (p := ⟨q, i, none⟩) (Fr.refl _ w) (fun _ => rfl) u
theorem Fr.set {w W : World} {q : Nat} (h : Fr (· = q) w W) (i : Nat) (u : Value) : Fr (· = q) w (W.setCell ⟨q, i, none⟩ u) := Fr.setCell (S := (· = q)) (p := ⟨q, i, none⟩) h (fun _ => rfl) u
/-- A store into a block that is new. -/
theorem Fr.setNew {S : Nat → Prop} {a w : World} (h : Fr S a w) {b : Nat} (hb : a.heap.size ≤ b) (i : Nat) (u : Value) : Fr S a (w.setCell ⟨b, i, none⟩ u) := h.setCell (fun hlt => absurd hlt (by simp; omega)) u
theorem Fr.drew {S : Nat → Prop} {a w : World} (h : Fr S a w) : Fr S a w.drew := ⟨h.os, h.tape, h.output, h.size, h.block⟩
theorem Fr.drewN {S : Nat → Prop} {a w : World} (h : Fr S a w) (n : Nat) : Fr S a (w.drewN n) := ⟨h.os, h.tape, h.output, h.size, h.block⟩
theorem Fr.cell {S : Nat → Prop} {w w' : World} (h : Fr S w w') {p : Addr} (hp : p.block < w.heap.size) (hn : ¬ S p.block) : w'.cell? p = w.cell? p := World.cell?_of_block (w := w) (h.block p.block hp hn)
theorem Fr.frozen {S : Nat → Prop} {w w' : World} (h : Fr S w w') {p : Addr} (hp : p.block < w.heap.size) (hn : ¬ S p.block) : w'.frozen? p = w.frozen? p := World.frozen?_of_block (w := w) (h.block p.block hp hn)
theorem heap_lt {w : World} {b : Nat} {o : Obj} (h : w.heap[b]? = some o) : b < w.heap.size := (Array.getElem?_eq_some_iff.1 h).1
theorem cell_lt {w : World} {b o : Nat} {v : Value} (h : w.cell? ⟨b, o, none⟩ = some v) : b < w.heap.size := World.block_lt_of_cell? w ⟨b, o, none⟩ h

theorem ret_int {k : IntKind} {a b : Int} (h : a = b) : Ending.returned (.int k a) = .returned (.int k b) := by rw [h]
theorem ret_bool {a b : Bool} (h : a = b) : Ending.returned (.bool a) = .returned (.bool b) := by rw [h]

/-! ### 2. Blocks that are known whole -/
/-- Block b holds these cells, of this type, none of them frozen. -/
def Blk (w : World) (b : Nat) (cs : List Value) (t : Nat) : Prop := w.heap[b]? = some (.cells cs.toArray t (0, 0))
theorem Blk.cell {w : World} {b : Nat} {cs : List Value} {t : Nat} (h : Blk w b cs t) (i : Nat) : w.cell? ⟨b, i, none⟩ = cs[i]? := by
  unfold Blk at h; simp [World.cell?, h]
theorem Blk.frozen {w : World} {b : Nat} {cs : List Value} {t : Nat} (h : Blk w b cs t) (i : Nat) : w.frozen? ⟨b, i, none⟩ = false := by
  unfold Blk at h; simp [World.frozen?, h]
theorem Blk.lt {w : World} {b : Nat} {cs : List Value} {t : Nat} (h : Blk w b cs t) : b < w.heap.size := heap_lt h
theorem Blk.keep {S : Nat → Prop} {w w' : World} {b : Nat} {cs : List Value} {t : Nat} (h : Blk w b cs t) (k : Fr S w w') (hn : ¬ S b) : Blk w' b cs t := (k.block b h.lt hn).trans h
theorem Blk.alloc {w : World} {b : Nat} {cs : List Value} {t : Nat} (h : Blk w b cs t) (o : Obj) : Blk (w.alloc o) b cs t := h.keep ((Fr.refl none_ w).alloc o) fun h => h
theorem Blk.new (w : World) (cs : List Value) (t : Nat) : Blk (w.alloc (.cells cs.toArray t)) w.heap.size cs t := heap_alloc_new w _
theorem Blk.set {w : World} {b : Nat} {cs : List Value} {t : Nat} (h : Blk w b cs t) (i : Nat) (v : Value) : Blk (w.setCell ⟨b, i, none⟩ v) b (cs.set i v) t := by
  have := heap_setCell_same w b i cs.toArray t v h
  unfold Blk; rw [this]; simp
theorem Blk.other {w : World} {b : Nat} {cs : List Value} {t : Nat} (h : Blk w b cs t) (a : Addr) (v : Value) (hne : b ≠ a.block) : Blk (w.setCell a v) b cs t := by
  unfold Blk; rw [Below.heap_setCell _ _ _ _ hne]; exact h

theorem setCells_heap (b : Nat) (t : TypeId) : ∀ (vs : List Value) (o : Nat) (w : World) (cs : List Value), Blk w b cs t → o + vs.length ≤ cs.length → Blk (w.setCells b o vs) b (cs.take o ++ vs ++ cs.drop (o + vs.length)) t
  | [], o, w, cs, h, _ => by simpa [World.setCells] using h
  | v :: r, o, w, cs, h, hl => by
    rw [World.setCells]
    have h1 := h.set o v
    have h2 := setCells_heap b t r (o + 1) _ _ h1 (by simp at hl ⊢; omega)
    have e : (cs.set o v).take (o + 1) ++ r ++ (cs.set o v).drop (o + 1 + r.length) = cs.take o ++ v :: r ++ cs.drop (o + (v :: r).length) := by
      have := list_seg_step cs o v r (by simpa using hl)
      simpa [Nat.add_assoc, Nat.add_comm 1] using this
    rwa [e] at h2
theorem setCells_other (b : Nat) : ∀ (vs : List Value) (o : Nat) (w : World) (k : Nat), k ≠ b → (w.setCells b o vs).heap[k]? = w.heap[k]?
  | [], _, _, _, _ => rfl
  | v :: r, o, w, k, h => by rw [World.setCells, setCells_other b r _ _ k h, Below.heap_setCell _ _ _ _ h]
theorem setCells_size (b : Nat) : ∀ (vs : List Value) (o : Nat) (w : World), (w.setCells b o vs).heap.size = w.heap.size
  | [], _, _ => rfl
  | v :: r, o, w => by rw [World.setCells, setCells_size b r]; simp [World.setCell]
theorem setCells_streams (b : Nat) : ∀ (vs : List Value) (o : Nat) (w : World), (w.setCells b o vs).os = w.os ∧ (w.setCells b o vs).tape = w.tape ∧ (w.setCells b o vs).output = w.output
  | [], _, _ => ⟨rfl, rfl, rfl⟩
  | v :: r, o, w => by rw [World.setCells]; exact setCells_streams b r _ _
theorem Fr.setCells {S : Nat → Prop} {a w : World} (h : Fr S a w) (b o : Nat) (vs : List Value) (hb : b < a.heap.size → S b) : Fr S a (w.setCells b o vs) :=
  ⟨(setCells_streams b vs o w).1.trans h.os, (setCells_streams b vs o w).2.1.trans h.tape, (setCells_streams b vs o w).2.2.trans h.output, by rw [setCells_size]; exact h.size,
   fun k hk hn => by rw [setCells_other b vs o w k (fun e => hn (by subst e; exact hb hk))]; exact h.block k hk hn⟩
theorem Blk.setCells {w : World} {b : Nat} {cs : List Value} {t : Nat} (h : Blk w b cs t) (o : Nat) (vs : List Value) (hl : o + vs.length ≤ cs.length) : Blk (w.setCells b o vs) b (cs.take o ++ vs ++ cs.drop (o + vs.length)) t := setCells_heap b t vs o w cs h hl
theorem Blk.there {w : World} {b : Nat} {cs : List Value} {t : Nat} (h : Blk w b cs t) (o n : Nat) (hl : o + n ≤ cs.length) : w.there b o n := fun j hj =>
  ⟨by rw [h.cell, List.getElem?_eq_getElem (show o + j < cs.length by omega)]; rfl, h.frozen _⟩
theorem Blk.range {w : World} {b : Nat} {t : Nat} {c1 cs c2 : List Value} (h : Blk w b (c1 ++ cs ++ c2) t) : w.rangeAt b c1.length cs := fun j v hv => by
  have hj : j < cs.length := (List.getElem?_eq_some_iff.1 hv).1
  rw [h.cell, List.getElem?_append_left (by simp; omega), List.getElem?_append_right (by omega), ← hv]
  congr 1
  omega
theorem Blk.rangeAll {w : World} {b : Nat} {t : Nat} {cs : List Value} (h : Blk w b cs t) : w.rangeAt b 0 cs := fun j v hv => by rw [h.cell, Nat.zero_add]; exact hv
/-- A result that lies in memory: a struct of which the block is known. -/
theorem ret_blk {P : Program} {fn : Func} {R : Ending → World → Prop} {a : Act} {w : World} {p : Tmp} {ty : TypeId} {g : Nat} {cs : List Value} {t : Nat} {d : TypeDesc} (h : fn.results = #[.cell p ty])
    (hp : a.tmps.getD p undef = .pointer (some ⟨g, 0, none⟩)) (hg : Blk w g cs t) (hu : P.underlying ty = some d) (hd : d.isRow = true) (hi : (P.info? ty).map (·.size) = some cs.length)
    (hdf : a.defers = []) (hR : R (.returned (.agg cs.toArray)) w) : bodyPost P fn R .ret a w := by
  refine bodyPost_ret ?_ hdf hR
  have hp' : a.tmps[p]?.getD undef = .pointer (some ⟨g, 0, none⟩) := by simpa using hp
  simp [results, h, hp', asAddr, run_loadVar_mid w g 0 ty cs d hg.rangeAll hu hd hi]
theorem ret_blk2 {P : Program} {fn : Func} {R : Ending → World → Prop} {a : Act} {w : World} {p q : Tmp} {ty : TypeId} {g : Nat} {cs : List Value} {t : Nat} {d : TypeDesc} (h : fn.results = #[.cell p ty, .tmp q])
    (hp : a.tmps.getD p undef = .pointer (some ⟨g, 0, none⟩)) (hg : Blk w g cs t) (hu : P.underlying ty = some d) (hd : d.isRow = true) (hi : (P.info? ty).map (·.size) = some cs.length)
    (hdf : a.defers = []) (hR : R (.returned (.tuple #[.agg cs.toArray, a.tmps.getD q undef])) w) : bodyPost P fn R .ret a w := by
  refine bodyPost_ret ?_ hdf hR
  have hp' : a.tmps[p]?.getD undef = .pointer (some ⟨g, 0, none⟩) := by simpa using hp
  simp [results, h, hp', asAddr, run_loadVar_mid w g 0 ty cs d hg.rangeAll hu hd hi]

/-- The walk stops here: for whoever wants to go on by hand. -/
structure Stop (p : Prop) : Prop where mk :: (out : p)
theorem wpList_stop {P : Program} {ops : Array Oper} {rest : List Oper} {o : Oper} {a : Act} {w : World} {Q : Exit → Act → World → Prop} (op : Op) (ho : o.op = op) (h : Stop (wpList P ops Q (o :: rest) a w)) : wpList P ops Q (o :: rest) a w := h.out
/-- A store of a struct into the middle of a block that is known whole: the walk's arm. -/
theorem wpList_store_blk {P : Program} {ops : Array Oper} {rest : List Oper} {op : Oper} {a : Act} {w : World} {Q : Exit → Act → World → Prop} (hgd : op.guard = none) (ty : TypeId) (x y : Operand) (ho : op.op = .store ty x y)
    (b o : Nat) (vs : List Value) (hx : a.eval x = .pointer (some ⟨b, o, none⟩)) (hy : a.eval y = .agg vs.toArray) {cs : List Value} {t : Nat} (hb : Blk w b cs t) (hl : o + vs.length ≤ cs.length)
    (hi : (P.info? ty).map (·.size) = some vs.length) (h1 : vs.all (·.oneCell') = true)
    (h : wpList P ops Q rest (a.put op.dst undef) (w.setCells b o vs)) : wpList P ops Q (op :: rest) a w :=
  wpList_store_mid hgd ty x y ho b o vs.toArray hx hy (by simpa using hb.there o vs.length hl) (by simpa using hi) (by simpa using h1) (by simpa using h)

/-- A call of a Go function as one step of a region that draws. -/
theorem step_call {P : Program} {ops : Array Oper} {o : Oper} {a : Act} {w : World} {K : Act → World → Prop} {Q : Exit → Act → World → Prop} {E : Prop} {f : FuncId} {args : Array Value} {R : Ending → World → Prop}
    (hg : o.guard = none) (hrun : (execOp a.eval o).run P w = .ok (.enter f args) w) (hc : Calls P f args w R) (hK : ∀ e w', R e w' → ∃ v, e = .returned v ∧ K (a.put o.dst v) w') :
    if Region.wanted o (yielded ops a.tmps) = true then Oper.wp P o a w K Q else E := by
  rw [if_pos (by simp [Region.wanted, hg])]
  unfold Oper.wp
  rw [hrun]
  exact hc.mono fun e w' h => by obtain ⟨v, rfl, hk⟩ := hK e w' h; exact hk

/-! ### 2b. Rows of whole numbers of the call's own -/
abbrev rowI (xs : List Int) : List Value := xs.map (Value.int .i64)
/-- v is a slice of the call's own (of elements of type e, numbers) that reads xs. -/
abbrev OwnI (w : World) (B : Nat) (e : TypeId) (v : Value) (xs : List Int) : Prop := w.ownsRow B e 1 v xs.length (rowI xs)
/-- append(v, y), the world as the variadic's row leaves it. -/
theorem wpList_append1 {P : Program} {ops : Array Oper} {rest : List Oper} {o : Oper} {a : Act} {Q : Exit → Act → World → Prop} {W : World} (base : Nat) (hgd : o.guard = none) (s x : Operand) (t e : TypeId)
    (ho : o.op = .call { callee := .builtin .append, args := #[s, x], argTypes := #[t, t] })
    (ht : P.underlying t = some (.slice e)) (hinfo : (P.info? e).map (fun i => (i.zero, i.size, i.bytes)) = some (some (.int .i64 0), 1, 8))
    (v : Value) (xs : List Int) (y : Int) (hs : a.eval s = v) (hx : a.eval x = .slice (some ⟨W.heap.size, 0, none⟩) 1 1)
    (HO : OwnI W base e v xs) (hbase : base ≤ W.heap.size) (hl : xs.length + 1 ≤ 17592186044416)
    (h : ∀ g cap w1, OwnI w1 base e (.slice (some ⟨g, 0, none⟩) (xs.length + 1) cap) (xs ++ [y]) → W.grownBy w1 v.ownBlock → (v.ownBlock = some g ∨ W.heap.size ≤ g) → wpList P ops Q rest (a.put o.dst (.slice (some ⟨g, 0, none⟩) (xs.length + 1) cap)) w1) :
    wpList P ops Q (o :: rest) a (W.alloc (.cells #[.int .i64 y] e)) := by
  obtain ⟨i0, hi, hz0, hz1, hz2⟩ := info_parts hinfo
  refine wpList_append_own_at (W.alloc (.cells #[.int .i64 y] e)) hgd s x t ho base e i0 (.int .i64 0) 1 8 ht hi hz0 hz1 hz2 rfl (by omega) v xs.length (rowI xs) hs (HO.alloc _) ⟨W.heap.size, 0, none⟩ 1 1 [.int .i64 y] hx rfl
    (cell_one_new W (.int .i64 y) e) (by intro u hu; rw [List.mem_singleton.1 hu]; rfl) (by simp only [maxLen]; omega) (by omega) (by simp; omega) ?_
  intro v1 w1 hown hg _ hat
  obtain ⟨g, cap, rfl⟩ := ownsRow_succ hown
  refine h g cap w1 ?_ (World.grownBy.trans (World.grownBy_alloc W _ _) hg) ?_
  · have e1 : (xs ++ [y]).length = xs.length + 1 := by simp
    have e2 : rowI (xs ++ [y]) = rowI xs ++ [.int .i64 y] := by simp [rowI]
    rw [OwnI, e1, e2]
    exact hown
  · rcases hat with hat | hat
    · exact .inl hat.symm
    · right
      have : g = (W.alloc (.cells #[.int .i64 y] e)).heap.size := by simpa [Value.ownBlock] using hat
      simp at this
      omega
theorem grownBy_fr {w w' : World} {row : Option Nat} (h : w.grownBy w' row) : Fr (fun b => row = some b) w w' :=
  ⟨h.os, h.tape, h.output, h.size, fun b hb hn => h.block b hb (fun e => hn e.symm)⟩
/-- A row that is not written stays. -/
theorem OwnI.keep {S : Nat → Prop} {w w' : World} {B : Nat} {e : TypeId} {v : Value} {xs : List Int} (h : OwnI w B e v xs) (k : Fr S w w') (hn : ∀ b, v.ownBlock = some b → ¬ S b) : OwnI w' B e v xs := by
  refine ⟨h.1, ?_⟩
  rcases h.2 with h2 | ⟨g, cap, cur, rfl, hb, hg, r⟩
  · exact .inl h2
  · exact .inr ⟨g, cap, cur, rfl, hb, (k.block g (heap_lt hg) (hn g rfl)).trans hg, r⟩

/-! ### 3. A value of package value, as a tree -/
inductive V where
  | mk (k n : Int) (s : ByteArray) (l : List V) (r : Int)
namespace V
def k : V → Int | mk k _ _ _ _ => k
def n : V → Int | mk _ n _ _ _ => n
def s : V → ByteArray | mk _ _ s _ _ => s
def l : V → List V | mk _ _ _ l _ => l
def r : V → Int | mk _ _ _ _ r => r
theorem ind {P : V → Prop} (h : ∀ k n s l r, (∀ x, x ∈ l → P x) → P (mk k n s l r)) : ∀ v, P v := by
  intro v
  refine V.rec (motive_1 := P) (motive_2 := fun l => ∀ x, x ∈ l → P x) (fun k n s l r ih => h k n s l r ih) ?_ ?_ v
  · intro x hx; cases hx
  · intro y l hy hl x hx
    rcases List.mem_cons.1 hx with rfl | hx
    · exact hy
    · exact hl x hx
end V
/-- The zero value. -/
def V.zero : V := .mk 0 0 ⟨#[]⟩ [] 0
def I64 (n : Int) : Prop := -9223372036854775808 ≤ n ∧ n ≤ 9223372036854775807
def U8 (n : Int) : Prop := 0 ≤ n ∧ n ≤ 255

/-! ### 4. How it lies in memory: five cells; the list's elements in a row of some block of D. z: the row begins at a value's place, and no cell of it is frozen -/
mutual
/-- v's five cells are cs; what they lead to lies in blocks of D. -/
def RV (w : World) (D : Nat → Prop) (z : Prop) : V → List Value → Prop
  | .mk k n s l r, cs => U8 k ∧ I64 n ∧ I64 r ∧ s.size ≤ 140737488351232 ∧ l.length ≤ 2199023255552 ∧
      ∃ A c, cs = [.int .u8 k, .int .i64 n, .string s, .slice A l.length c, .int .i64 r] ∧ l.length ≤ c ∧ RVs w D z l A
def RVs (w : World) (D : Nat → Prop) (z : Prop) : List V → Option Addr → Prop
  | [], _ => True
  | v :: l, A => ∃ b o cs, A = some ⟨b, o, none⟩ ∧ D b ∧ (∀ i, i < 5 → w.cell? ⟨b, o + i, none⟩ = cs[i]?) ∧ (z → o % 5 = 0 ∧ ∀ i, w.frozen? ⟨b, i, none⟩ = false) ∧ RV w D z v cs ∧ RVs w D z l (some ⟨b, o + 5, none⟩)
end
theorem RV.five {w : World} {D : Nat → Prop} {z : Prop} {v : V} {cs : List Value} (h : RV w D z v cs) : cs.length = 5 := by
  cases v; unfold RV at h; obtain ⟨_, _, _, _, _, A, c, rfl, _⟩ := h; rfl
theorem RV.form {w : World} {D : Nat → Prop} {z : Prop} {v : V} {cs : List Value} (h : RV w D z v cs) :
    ∃ A c, cs = [.int .u8 v.k, .int .i64 v.n, .string v.s, .slice A v.l.length c, .int .i64 v.r] ∧ v.l.length ≤ c ∧ RVs w D z v.l A := by
  cases v; unfold RV at h; obtain ⟨_, _, _, _, _, A, c, h, hc, hs⟩ := h; exact ⟨A, c, h, hc, hs⟩
theorem RV.bounds {w : World} {D : Nat → Prop} {z : Prop} {v : V} {cs : List Value} (h : RV w D z v cs) : U8 v.k ∧ I64 v.n ∧ I64 v.r ∧ v.s.size ≤ 140737488351232 ∧ v.l.length ≤ 2199023255552 := by
  cases v; unfold RV at h; obtain ⟨h1, h2, h3, h4, h5, _⟩ := h; exact ⟨h1, h2, h3, h4, h5⟩
/-- The list under a value whose cells are known. -/
theorem RV.list {w : World} {D : Nat → Prop} {z : Prop} {v : V} {k n r : Int} {s : ByteArray} {A : Option Addr} {ln c : Nat} (h : RV w D z v [.int .u8 k, .int .i64 n, .string s, .slice A ln c, .int .i64 r]) : RVs w D z v.l A ∧ v.l.length ≤ c := by
  obtain ⟨A', c', he, hc, hs⟩ := h.form
  injection he with _ he; injection he with _ he; injection he with _ he; injection he with he _; injection he with h1 h2 h3
  subst h1; subst h3
  exact ⟨hs, hc⟩
theorem RVs.keep_of {w w' : World} {D D' : Nat → Prop} {z : Prop} (l : List V) (hx : ∀ x, x ∈ l → ∀ cs, RV w D z x cs → RV w' D' z x cs) (hD : ∀ b, D b → D' b) (hb : ∀ b, D b → b < w.heap.size → w'.heap[b]? = w.heap[b]?) :
    ∀ A, RVs w D z l A → RVs w' D' z l A := by
  induction l with
  | nil => intro A _; unfold RVs; trivial
  | cons v l ih =>
    intro A h
    unfold RVs at h ⊢
    obtain ⟨b, o, cs, rfl, hd, hc, hz, hv, hl⟩ := h
    have h0 := hc 0 (by omega)
    have h5 := hv.five
    rw [List.getElem?_eq_getElem (show 0 < cs.length by omega)] at h0
    have hh := hb b hd (cell_lt h0)
    refine ⟨b, o, cs, rfl, hD b hd, fun i hi => ?_, fun z => ⟨(hz z).1, fun i => ?_⟩, hx v (List.mem_cons_self ..) cs hv, ih (fun x hx' => hx x (List.mem_cons_of_mem _ hx')) _ hl⟩
    · rw [← hc i hi]
      exact World.cell?_of_block (w := w) hh
    · exact (World.frozen?_of_block (w := w) (a := ⟨b, i, none⟩) hh).trans ((hz z).2 i)
theorem RV.keep {w w' : World} {D D' : Nat → Prop} {z : Prop} (hD : ∀ b, D b → D' b) (hb : ∀ b, D b → b < w.heap.size → w'.heap[b]? = w.heap[b]?) : ∀ (v : V) (cs : List Value), RV w D z v cs → RV w' D' z v cs := by
  intro v
  induction v using V.ind with
  | h k n s l r ih =>
    intro cs h
    unfold RV at h ⊢
    obtain ⟨h1, h2, h3, h4, h5, A, c, h6, hlc, h7⟩ := h
    exact ⟨h1, h2, h3, h4, h5, A, c, h6, hlc, RVs.keep_of l ih hD hb A h7⟩
theorem RVs.keep {w w' : World} {D D' : Nat → Prop} {z : Prop} (hD : ∀ b, D b → D' b) (hb : ∀ b, D b → b < w.heap.size → w'.heap[b]? = w.heap[b]?) (l : List V) (A : Option Addr) (h : RVs w D z l A) : RVs w' D' z l A :=
  RVs.keep_of l (fun x _ cs => RV.keep hD hb x cs) hD hb A h
/-- Over a frame whose written blocks are none of D. -/
theorem RV.fr {S D : Nat → Prop} {z : Prop} {w w' : World} (k : Fr S w w') (hn : ∀ b, D b → ¬ S b) {v : V} {cs : List Value} (h : RV w D z v cs) : RV w' D z v cs :=
  h.keep (fun _ h => h) (fun b hd hb => k.block b hb (hn b hd))
theorem RVs.fr {S D : Nat → Prop} {z : Prop} {w w' : World} (k : Fr S w w') (hn : ∀ b, D b → ¬ S b) {l : List V} {A : Option Addr} (h : RVs w D z l A) : RVs w' D z l A :=
  h.keep (fun _ h => h) (fun b hd hb => k.block b hb (hn b hd))
theorem RV.mono {D D' : Nat → Prop} {z : Prop} {w : World} (hD : ∀ b, D b → D' b) {v : V} {cs : List Value} (h : RV w D z v cs) : RV w D' z v cs := h.keep hD (fun _ _ _ => rfl)
theorem RVs.mono {D D' : Nat → Prop} {z : Prop} {w : World} (hD : ∀ b, D b → D' b) {l : List V} {A : Option Addr} (h : RVs w D z l A) : RVs w D' z l A := h.keep hD (fun _ _ _ => rfl)
/-- Every block that is met lies in the heap. -/
theorem RVs.weak_of {w : World} {D : Nat → Prop} {z z' : Prop} (hz : z' → z) (l : List V) (hx : ∀ x, x ∈ l → ∀ cs, RV w D z x cs → RV w (fun b => D b ∧ b < w.heap.size) z' x cs) : ∀ A, RVs w D z l A → RVs w (fun b => D b ∧ b < w.heap.size) z' l A := by
  induction l with
  | nil => intro A _; unfold RVs; trivial
  | cons v l ih =>
    intro A h
    unfold RVs at h ⊢
    obtain ⟨b, o, cs, rfl, hd, hc, hf, hv, hl⟩ := h
    have h0 := hc 0 (by omega)
    have h5 := hv.five
    rw [List.getElem?_eq_getElem (show 0 < cs.length by omega)] at h0
    exact ⟨b, o, cs, rfl, ⟨hd, cell_lt h0⟩, hc, fun h => hf (hz h), hx v (List.mem_cons_self ..) cs hv, ih (fun x hx' => hx x (List.mem_cons_of_mem _ hx')) _ hl⟩
theorem RV.weak {w : World} {D : Nat → Prop} {z z' : Prop} (hz : z' → z) (v : V) : ∀ (cs : List Value), RV w D z v cs → RV w (fun b => D b ∧ b < w.heap.size) z' v cs := by
  induction v using V.ind with
  | h k n s l r ih =>
    intro cs h
    unfold RV at h ⊢
    obtain ⟨h1, h2, h3, h4, h5, A, c, h6, hlc, h7⟩ := h
    exact ⟨h1, h2, h3, h4, h5, A, c, h6, hlc, RVs.weak_of hz l ih A h7⟩
theorem RV.unz {w : World} {D : Nat → Prop} {z z' : Prop} (hz : z' → z) {v : V} {cs : List Value} (h : RV w D z v cs) : RV w D z' v cs := (h.weak hz).mono fun _ h => h.1
/-- Element i of a list. -/
theorem RVs.at_ {w : World} {D : Nat → Prop} {z : Prop} : ∀ (l : List V) (A : Option Addr) (i : Nat) (hi : i < l.length), RVs w D z l A → ∃ b o cs, A = some ⟨b, o, none⟩ ∧ D b ∧ (∀ j, j < 5 → w.cell? ⟨b, o + i * 5 + j, none⟩ = cs[j]?) ∧ (z → ∀ i, w.frozen? ⟨b, i, none⟩ = false) ∧ RV w D z l[i] cs
  | v :: l, A, 0, _, h => by
    unfold RVs at h
    obtain ⟨b, o, cs, rfl, hd, hc, hz, hv, hl⟩ := h
    exact ⟨b, o, cs, rfl, hd, fun j hj => by simpa using hc j hj, fun z => (hz z).2, hv⟩
  | v :: l, A, i + 1, hi, h => by
    unfold RVs at h
    obtain ⟨b, o, cs, rfl, hd, hc, hz, hv, hl⟩ := h
    obtain ⟨b', o', cs', he, hd', hc', hz', hv'⟩ := RVs.at_ l _ i (by simpa using hi) hl
    injection he with he
    injection he with e1 e2
    subst e1
    subst e2
    refine ⟨b, o, cs', rfl, hd', fun j hj => ?_, hz', by simpa using hv'⟩
    have := hc' j hj
    rwa [show o + 5 + i * 5 + j = o + (i + 1) * 5 + j by omega] at this
/-- An element's cells, one by one, as the walk wants them. -/
theorem RVs.elem {w : World} {D : Nat → Prop} {z : Prop} {l : List V} {A : Option Addr} (h : RVs w D z l A) {i : Nat} (hi : i < l.length) : ∃ b o A' c', A = some ⟨b, o, none⟩ ∧ D b ∧
    w.cell? ⟨b, o + i * 5, none⟩ = some (.int .u8 l[i].k) ∧ w.cell? ⟨b, o + i * 5 + 1, none⟩ = some (.int .i64 l[i].n) ∧ w.cell? ⟨b, o + i * 5 + 2, none⟩ = some (.string l[i].s) ∧
    w.cell? ⟨b, o + i * 5 + 3, none⟩ = some (.slice A' l[i].l.length c') ∧ w.cell? ⟨b, o + i * 5 + 4, none⟩ = some (.int .i64 l[i].r) ∧
    RV w D z l[i] [.int .u8 l[i].k, .int .i64 l[i].n, .string l[i].s, .slice A' l[i].l.length c', .int .i64 l[i].r] := by
  obtain ⟨b, o, cs, rfl, hd, hc, hz, hv⟩ := RVs.at_ l A i hi h
  obtain ⟨A', c', rfl, hlc, hs⟩ := hv.form
  exact ⟨b, o, A', c', rfl, hd, by simpa using hc 0 (by omega), by simpa using hc 1 (by omega), by simpa using hc 2 (by omega), by simpa using hc 3 (by omega), by simpa using hc 4 (by omega), hv⟩
/-- The value as the call's argument. -/
abbrev V.agg (v : V) (A : Option Addr) (c : Nat) : Value := .agg #[.int .u8 v.k, .int .i64 v.n, .string v.s, .slice A v.l.length c, .int .i64 v.r]
abbrev V.cells (v : V) (A : Option Addr) (c : Nat) : List Value := [.int .u8 v.k, .int .i64 v.n, .string v.s, .slice A v.l.length c, .int .i64 v.r]

/-! ### 4b. The elements' cells one behind the other -/
def RVL (w : World) (D : Nat → Prop) (z : Prop) : List V → List Value → Prop
  | [], cs => cs = []
  | v :: l, cs => ∃ c1 c2, cs = c1 ++ c2 ∧ RV w D z v c1 ∧ RVL w D z l c2
theorem RVL.len {w : World} {D : Nat → Prop} {z : Prop} : ∀ {l : List V} {cs : List Value}, RVL w D z l cs → cs.length = l.length * 5
  | [], cs, h => by unfold RVL at h; subst h; rfl
  | v :: l, cs, h => by
    unfold RVL at h
    obtain ⟨c1, c2, rfl, h1, h2⟩ := h
    rw [List.length_append, h1.five, h2.len, List.length_cons]
    omega
theorem RVL.snoc {w : World} {D : Nat → Prop} {z : Prop} {v : V} {c : List Value} : ∀ {l : List V} {cs : List Value}, RVL w D z l cs → RV w D z v c → RVL w D z (l ++ [v]) (cs ++ c)
  | [], cs, h, hv => by unfold RVL at h; subst h; unfold RVL; exact ⟨c, [], by simp, hv, by unfold RVL; rfl⟩
  | x :: l, cs, h, hv => by
    unfold RVL at h
    obtain ⟨c1, c2, rfl, h1, h2⟩ := h
    show RVL w D z (x :: (l ++ [v])) _
    unfold RVL
    exact ⟨c1, c2 ++ c, by simp, h1, h2.snoc hv⟩
theorem RVL.keep {w w' : World} {D D' : Nat → Prop} {z : Prop} (hD : ∀ b, D b → D' b) (hb : ∀ b, D b → b < w.heap.size → w'.heap[b]? = w.heap[b]?) : ∀ (l : List V) (cs : List Value), RVL w D z l cs → RVL w' D' z l cs
  | [], cs, h => by unfold RVL at h ⊢; exact h
  | v :: l, cs, h => by
    unfold RVL at h ⊢
    obtain ⟨c1, c2, rfl, h1, h2⟩ := h
    exact ⟨c1, c2, rfl, h1.keep hD hb, RVL.keep hD hb l c2 h2⟩
theorem RVL.fr {S D : Nat → Prop} {z : Prop} {w w' : World} (k : Fr S w w') (hn : ∀ b, D b → ¬ S b) {l : List V} {cs : List Value} (h : RVL w D z l cs) : RVL w' D z l cs :=
  h.keep (fun _ h => h) (fun b hd hb => k.block b hb (hn b hd))
theorem RVL.mono {D D' : Nat → Prop} {z : Prop} {w : World} (hD : ∀ b, D b → D' b) {l : List V} {cs : List Value} (h : RVL w D z l cs) : RVL w D' z l cs := h.keep hD (fun _ _ _ => rfl)
/-- What lies one behind the other in a row is a list. -/
theorem RVL.row {w : World} {D : Nat → Prop} {z : Prop} {b : Nat} (hd : D b) (hz : z → ∀ i, w.frozen? ⟨b, i, none⟩ = false) : ∀ {l : List V} {cs : List Value} (o : Nat), (z → o % 5 = 0) → RVL w D z l cs → (∀ i, i < cs.length → w.cell? ⟨b, o + i, none⟩ = cs[i]?) → RVs w D z l (some ⟨b, o, none⟩)
  | [], cs, o, ho, h, hc => by unfold RVs; trivial
  | v :: l, cs, o, ho, h, hc => by
    unfold RVL at h
    obtain ⟨c1, c2, rfl, h1, h2⟩ := h
    have h5 := h1.five
    unfold RVs
    refine ⟨b, o, c1, rfl, hd, fun i hi => ?_, fun z => ⟨ho z, hz z⟩, h1, RVL.row hd hz (o + 5) (fun z => by have := ho z; omega) h2 fun i hi => ?_⟩
    · rw [hc i (by simp; omega), List.getElem?_append_left (by omega)]
    · have := hc (5 + i) (by simp; omega)
      rw [show o + 5 + i = o + (5 + i) by omega, this, List.getElem?_append_right (by omega), h5]
      congr 1
      omega
/-- The cells of a list, flat. -/
theorem RVs.flat {w : World} {D : Nat → Prop} {z : Prop} : ∀ (l : List V) (A : Option Addr), RVs w D z l A → ∃ cs, RVL w D z l cs ∧ ∀ b o, A = some ⟨b, o, none⟩ → ∀ i, i < cs.length → w.cell? ⟨b, o + i, none⟩ = cs[i]?
  | [], A, h => ⟨[], by unfold RVL; rfl, fun _ _ _ i hi => by simp at hi⟩
  | v :: l, A, h => by
    unfold RVs at h
    obtain ⟨b, o, c1, rfl, hd, hc, hz, hv, hl⟩ := h
    obtain ⟨c2, h2, hc2⟩ := RVs.flat l _ hl
    have h5 := hv.five
    refine ⟨c1 ++ c2, by unfold RVL; exact ⟨c1, c2, rfl, hv, h2⟩, fun b' o' he i hi => ?_⟩
    injection he with he
    injection he with e1 e2
    subst e1
    subst e2
    rcases Nat.lt_or_ge i 5 with h | h
    · rw [hc i h, List.getElem?_append_left (by omega)]
    · have := hc2 b (o + 5) rfl (i - 5) (by simp at hi; omega)
      rw [show o + i = o + 5 + (i - 5) by omega, this, List.getElem?_append_right (by omega), h5]

/-! ### 5. May it be: what 'take' of package value computes -/
mutual
def takeV : V → Nat → Nat → Option Nat
  | .mk k n s l r, parts, nest =>
    match parts with
    | 0 => none
    | p + 1 =>
      if k = 0 then (if n = 0 ∧ s.size = 0 ∧ r = 0 ∧ l.length = 0 then some p else none)
      else if k = 1 then (if s.size = 0 ∧ r = 0 ∧ l.length = 0 then some p else none)
      else if k = 2 then (if s.size ≤ 256 ∧ n = 0 ∧ r = 0 ∧ l.length = 0 then some p else none)
      else if k = 4 then (if 1 ≤ r ∧ n = 0 ∧ s.size = 0 ∧ l.length = 0 then some p else none)
      else if k = 3 then
        match nest with
        | 0 => none
        | m + 1 => if l.length ≤ p then (takeVs l p m).bind fun q => if n = 0 ∧ s.size = 0 ∧ r = 0 then some q else none else none
      else none
def takeVs : List V → Nat → Nat → Option Nat
  | [], p, _ => some p
  | v :: l, p, m => (takeV v p m).bind fun q => takeVs l q m
end
def V.may (v : V) : Bool := (takeV v 512 16).isSome
end Go.Proofs.Ytpgjbbefgacjkaa
