/- Joined texts: XReg, XRegOf, XFix, XOne. -/
import Derived.Test.YtpgjbbefgacjkaaFrame
import Derived.Test.YtpgjbbefgacjkaaBase2
import Derived.Test.YtpgjbbefgacjkaaProg
/- A region that draws its order, slot by slot: what each operation has brought about, whatever the order. -/
namespace Go.Proofs.Ytpgjbbefgacjkaa
open Go.RowKit
set_option linter.unusedSimpArgs false
set_option linter.unusedVariables false
/-- Every operation writes a slot of its own, and one of the frame's. -/
def dstB (ops : Array Oper) (n : Nat) : Bool := (List.range ops.size).all fun i => match (ops[i]?).bind (·.dst) with
  | none => true
  | some t => decide (t < n) && (List.range i).all fun j => decide ((ops[j]?).bind (·.dst) ≠ some t)
theorem dstB_lt {ops : Array Oper} {n i : Nat} {o : Oper} {t : Nat} (h : dstB ops n = true) (ho : ops[i]? = some o) (hd : o.dst = some t) : t < n := by
  have h1 := List.all_eq_true.1 h i (List.mem_range.2 (Array.getElem?_eq_some_iff.1 ho).1)
  rw [ho] at h1
  simp only [Option.bind_some, hd, Bool.and_eq_true, decide_eq_true_eq] at h1
  exact h1.1
theorem dstB_lt' {ops : Array Oper} {n i j : Nat} {o o' : Oper} {t : Nat} (h : dstB ops n = true) (ho : ops[i]? = some o) (hd : o.dst = some t) (ho' : ops[j]? = some o') (hd' : o'.dst = some t) (hji : j < i) : False := by
  have h1 := List.all_eq_true.1 h i (List.mem_range.2 (Array.getElem?_eq_some_iff.1 ho).1)
  rw [ho] at h1
  simp only [Option.bind_some, hd, Bool.and_eq_true, decide_eq_true_eq] at h1
  have h2 := List.all_eq_true.1 h1.2 j (List.mem_range.2 hji)
  rw [ho'] at h2
  simp [hd'] at h2
theorem dstB_one {ops : Array Oper} {n i j : Nat} {o o' : Oper} {t : Nat} (h : dstB ops n = true) (ho : ops[i]? = some o) (hd : o.dst = some t) (ho' : ops[j]? = some o') (hd' : o'.dst = some t) : i = j := by
  rcases Nat.lt_trichotomy i j with e | e | e
  · exact (dstB_lt' h ho' hd' ho hd e).elim
  · exact e
  · exact (dstB_lt' h ho hd ho' hd' e).elim
structure RI (ops : Array Oper) (a0 : Act) (F : Nat → Value → World → Prop) (G : Array Bool → Act → World → Prop) (listed : Array Bool) (a : Act) (w : World) : Prop where
  len : listed.size = ops.size
  sz : a.tmps.size = a0.tmps.size
  df : a.defers = a0.defers
  old : ∀ t, (∀ i o, ops[i]? = some o → listed.getD i false = true → o.dst ≠ some t) → a.tmps[t]? = a0.tmps[t]?
  done : ∀ i o t, ops[i]? = some o → listed.getD i false = true → o.dst = some t → F i (a.eval (.tmp t)) w
  cl : ∀ i o e, ops[i]? = some o → listed.getD i false = true → e ∈ o.after → Region.binds .any e = true → listed.getD e.on false = true
  g : G listed a w
theorem RI.start {ops : Array Oper} {a0 : Act} {F : Nat → Value → World → Prop} {G : Array Bool → Act → World → Prop} {w : World} (hg : G (Array.replicate ops.size false) a0 w) : RI ops a0 F G (Array.replicate ops.size false) a0 w := by
  have hr : ∀ i, (Array.replicate ops.size false).getD i false = false := fun i => by
    rw [Array.getD_eq_getD_getElem?, Array.getElem?_replicate]
    split <;> rfl
  refine { len := by simp, sz := rfl, df := rfl, old := fun t _ => rfl, done := fun i o t _ h => ?_, cl := fun i o e _ h => ?_, g := hg } <;> (rw [hr] at h; cases h)
theorem put_none (a : Act) (v : Value) : a.put none v = a := by simp [Act.put]
theorem RI.step {ops : Array Oper} {a0 : Act} {F : Nat → Value → World → Prop} {G : Array Bool → Act → World → Prop} {listed : Array Bool} {a : Act} {w w' : World} {i : Nat} {o : Oper} {v : Value} (h : RI ops a0 F G listed a w) (hb : dstB ops a0.tmps.size = true)
    (ho : ops[i]? = some o) (hi : i ∈ Region.ready .any ops listed) (hst : ∀ j u, F j u w → F j u w') (hv : ∀ t, o.dst = some t → F i v w') (hg : G (listed.setIfInBounds i true) (a.put o.dst v) w') : RI ops a0 F G (listed.setIfInBounds i true) (a.put o.dst v) w' := by
  obtain ⟨h0, o', ho', hd⟩ := mem_ready.1 hi
  rw [ho] at ho'
  obtain rfl := Option.some.inj ho'
  have hlt : i < ops.size := (Array.getElem?_eq_some_iff.1 ho).1
  have hset : ∀ j, (listed.setIfInBounds i true).getD j false = true → j = i ∨ listed.getD j false = true := fun j hj => by
    by_cases e : i = j
    · exact .inl e.symm
    · right
      rwa [getD_set_ne false e] at hj
  have hsame : (listed.setIfInBounds i true).getD i false = true := by
    rw [Array.getD_eq_getD_getElem?, Array.getElem?_setIfInBounds]
    simp [h.len, hlt]
  have hup : ∀ j, listed.getD j false = true → (listed.setIfInBounds i true).getD j false = true := fun j hj => by
    by_cases e : i = j
    · subst e; exact hsame
    · rwa [getD_set_ne false e]
  refine { len := by simp [h.len], sz := ?_, df := ?_, old := fun t ht => ?_, done := fun j o' t hj hl hd' => ?_, cl := fun j o' e hj hl he hbd => ?_, g := hg }
  · cases hdd : o.dst <;> simp [Act.put, h.sz]
  · cases hdd : o.dst <;> simp [Act.put, h.df]
  · have h1 := h.old t fun j o' hj hl => ht j o' hj (hup j hl)
    have h2 := ht i o ho hsame
    cases hdd : o.dst with
    | none => simpa [Act.put] using h1
    | some u =>
      have : u ≠ t := fun e => h2 (by rw [hdd, e])
      simp [Act.put, this, h1]
  · by_cases e : i = j
    · subst e
      rw [ho] at hj
      obtain rfl := Option.some.inj hj
      have ht : t < a.tmps.size := by rw [h.sz]; exact dstB_lt hb ho hd'
      rw [hd']
      simp only [Act.eval, Act.put]
      have : (a.tmps.setIfInBounds t v).getD t undef = v := by simp [ht]
      rw [this]
      exact hv t hd'
    · have hl' := (hset j hl).resolve_left (fun h => e h.symm)
      have h1 := hst _ _ (h.done j o' t hj hl' hd')
      cases hdd : o.dst with
      | none => simpa [Act.put] using h1
      | some u =>
        have : u ≠ t := fun e' => e (dstB_one hb ho (by rw [hdd, e']) hj hd')
        simpa [Act.eval, Act.put, this] using h1
  · rcases hset j hl with e1 | e1
    · subst e1
      rw [ho] at hj
      obtain rfl := Option.some.inj hj
      exact hup _ (hd e he hbd)
    · exact hup _ (h.cl j o' e hj e1 he hbd)
/-- Every operation waits for earlier ones alone (of the edges that bind). -/
def downR (ops : Array Oper) : Bool := (List.range ops.size).all fun i => ((ops[i]?).map fun o => o.after.all fun e => !Region.binds .any e || decide (e.on < i)).getD true
theorem all_listedR {ops : Array Oper} {listed : Array Bool} (hb : downR ops = true) (hs : listed.size = ops.size) (hr : Region.ready .any ops listed = []) : ∀ n i, i < n → i < ops.size → listed.getD i false = true := by
  intro n
  induction n with
  | zero => intro i h; omega
  | succ n ih =>
    intro i hi hlt
    cases h0 : listed.getD i true with
    | true =>
      rw [Array.getD_eq_getD_getElem?, Array.getElem?_eq_getElem (show i < listed.size by omega)] at h0 ⊢
      exact h0
    | false =>
      have hm : i ∈ Region.ready .any ops listed := by
        refine mem_ready.2 ⟨h0, ops[i], Array.getElem?_eq_getElem hlt, fun e he hbd => ?_⟩
        have h1 := List.all_eq_true.1 hb i (List.mem_range.2 hlt)
        rw [Array.getElem?_eq_getElem hlt] at h1
        simp only [Option.map_some, Option.getD_some] at h1
        have h2 := Array.all_eq_true_iff_forall_mem.1 h1 e he
        rw [hbd] at h2
        have h3 : e.on < i := by simpa using h2
        exact ih e.on (by omega) (by omega)
      rw [hr] at hm
      cases hm
/-- The region's rule. Behind it the frame is the old one, but for the slots that it writes. -/
theorem wp_region_ri {P : Program} {ops : Array Oper} {Q : Exit → Act → World → Prop} {id : Nat} {a0 : Act} {w : World} (hm : P.follows .mixedOrders = true) (hdn : downR ops = true) (hb : dstB ops a0.tmps.size = true) (F : Nat → Value → World → Prop) (G : Array Bool → Act → World → Prop)
    (h0 : G (Array.replicate ops.size false) a0 w.drew)
    (hstep : ∀ listed a w i, RI ops a0 F G listed a w → i ∈ Region.ready .any ops listed → wpOp P ops Q i (fun a' w' => RI ops a0 F G (listed.setIfInBounds i true) a' w') a w)
    (hdone : ∀ listed a w, RI ops a0 F G listed a w → (∀ i, i < ops.size → listed.getD i false = true) → Q .normal a w) : (Code.region id ops true).wp P Q a0 w :=
  wp_region_inv hm (RI ops a0 F G) (RI.start h0) hstep fun listed a w h hr => hdone listed a w h fun i hi => all_listedR hdn h.len hr ops.size i hi hi
/-- A slot that no operation of the region writes. -/
def freeB (ops : Array Oper) (t : Nat) : Bool := ops.all fun o => decide (o.dst ≠ some t)
theorem RI.free {ops : Array Oper} {a0 : Act} {F : Nat → Value → World → Prop} {G : Array Bool → Act → World → Prop} {listed : Array Bool} {a : Act} {w : World} (h : RI ops a0 F G listed a w) (t : Nat) (hf : freeB ops t = true) {v : Value} (hv : a0.tmps[t]? = some v) : a.eval (.tmp t) = v := by
  have h1 := h.old t fun i o ho _ => by
    obtain ⟨hi, rfl⟩ := Array.getElem?_eq_some_iff.1 ho
    have := (Array.all_eq_true.1 hf) i hi
    simpa using this
  show a.tmps.getD t undef = v
  rw [Array.getD_eq_getD_getElem?, h1, hv]
  rfl
/-- A slot that is written by an operation that has not been done yet. -/
theorem RI.yet {ops : Array Oper} {a0 : Act} {F : Nat → Value → World → Prop} {G : Array Bool → Act → World → Prop} {listed : Array Bool} {a : Act} {w : World} (h : RI ops a0 F G listed a w) (hb : dstB ops a0.tmps.size = true) (t : Nat) {i : Nat} {o : Oper} (ho : ops[i]? = some o) (hd : o.dst = some t) (hl : listed.getD i false = false) {v : Value} (hv : a0.tmps[t]? = some v) : a.eval (.tmp t) = v := by
  have h1 := h.old t fun j o' ho' hj e => by
    obtain rfl := dstB_one hb ho hd ho' e
    rw [hl] at hj
    cases hj
  show a.tmps.getD t undef = v
  rw [Array.getD_eq_getD_getElem?, h1, hv]
  rfl
theorem RI.val {ops : Array Oper} {a0 : Act} {F : Nat → Value → World → Prop} {G : Array Bool → Act → World → Prop} {listed : Array Bool} {a : Act} {w : World} (h : RI ops a0 F G listed a w) (i t : Nat) (hl : listed.getD i false = true) (ht : (ops[i]?).bind (·.dst) = some t) : F i (a.eval (.tmp t)) w := by
  cases ho : ops[i]? with
  | none => rw [ho] at ht; cases ht
  | some o => rw [ho] at ht; exact h.done i o t ho hl ht
/-- The frame behind it. -/
theorem RI.back {ops : Array Oper} {a0 : Act} {F : Nat → Value → World → Prop} {G : Array Bool → Act → World → Prop} {listed : Array Bool} {a : Act} {w : World} (h : RI ops a0 F G listed a w) (S : List Nat) (hS : ops.all (fun o => match o.dst with | none => true | some t => S.contains t) = true) : a = ⟨S.foldl (fun acc t => acc.setIfInBounds t (a.eval (.tmp t))) a0.tmps, a0.defers⟩ := by
  have h1 := frame_back S a0.tmps a.tmps h.sz fun t ht => h.old t fun i o ho _ e => by
    obtain ⟨hi, rfl⟩ := Array.getElem?_eq_some_iff.1 ho
    have := (Array.all_eq_true.1 hS) i hi
    rw [e] at this
    exact ht (by simpa using this)
  cases a with
  | mk tm df =>
    have h2 : df = a0.defers := h.df
    subst h2
    congr 1
/-- An operation that tells a value and leaves the world alone. -/
theorem RI.quiet {P : Program} {ops : Array Oper} {Q : Exit → Act → World → Prop} {a0 : Act} {F : Nat → Value → World → Prop} {G : Array Bool → Act → World → Prop} {listed : Array Bool} {a : Act} {w : World} {i : Nat} (h : RI ops a0 F G listed a w) (hb : dstB ops a0.tmps.size = true) (hi : i ∈ Region.ready .any ops listed) {o : Oper} (ho : ops[i]? = some o) (hg : o.guard = none) (d : Option Nat) (hdd : o.dst = d) {v : Value}
    (hr : (execOp a.eval o).run P w = .ok (.value v) w) (hv : F i v w) (hG : G (listed.setIfInBounds i true) (a.put d v) w) : wpOp P ops Q i (fun a' w' => RI ops a0 F G (listed.setIfInBounds i true) a' w') a w :=
  by
  subst hdd
  exact wpOp_step ho fun K hK => by
    have hw : Region.wanted o (yielded ops a.tmps) = true := by simp [Region.wanted, hg]
    rw [if_pos hw]
    unfold Oper.wp
    rw [hr]
    exact hK _ _ (h.step hb ho hi (fun _ _ h => h) (fun _ _ => hv) hG)
theorem RI.op {P : Program} {ops : Array Oper} {Q : Exit → Act → World → Prop} {a0 : Act} {F : Nat → Value → World → Prop} {G : Array Bool → Act → World → Prop} {listed : Array Bool} {a : Act} {w : World} {i : Nat} (h : RI ops a0 F G listed a w) (hb : dstB ops a0.tmps.size = true) (hi : i ∈ Region.ready .any ops listed) {o : Oper} (ho : ops[i]? = some o) (hg : o.guard = none) (d : Option Nat) (hdd : o.dst = d)
    (H : ∀ K : Act → World → Prop, (∀ v w', (∀ j u, F j u w → F j u w') → (∀ t, d = some t → F i v w') → G (listed.setIfInBounds i true) (a.put d v) w' → K (a.put d v) w') → Oper.wp P o a w K Q) : wpOp P ops Q i (fun a' w' => RI ops a0 F G (listed.setIfInBounds i true) a' w') a w :=
  by
  subst hdd
  exact wpOp_step ho fun K hK => by
    have hw : Region.wanted o (yielded ops a.tmps) = true := by simp [Region.wanted, hg]
    rw [if_pos hw]
    exact H K fun v w' h1 h2 h3 => hK _ _ (h.step hb ho hi h1 h2 h3)
theorem RI.value {P : Program} {ops : Array Oper} {Q : Exit → Act → World → Prop} {a0 : Act} {F : Nat → Value → World → Prop} {G : Array Bool → Act → World → Prop} {listed : Array Bool} {a : Act} {w w' : World} {i : Nat} (h : RI ops a0 F G listed a w) (hb : dstB ops a0.tmps.size = true) (hi : i ∈ Region.ready .any ops listed) {o : Oper} (ho : ops[i]? = some o) (hg : o.guard = none) (d : Option Nat) (hdd : o.dst = d) {v : Value}
    (hr : (execOp a.eval o).run P w = .ok (.value v) w') (hst : ∀ j u, F j u w → F j u w') (hv : ∀ t, d = some t → F i v w') (hG : G (listed.setIfInBounds i true) (a.put d v) w') : wpOp P ops Q i (fun a' w' => RI ops a0 F G (listed.setIfInBounds i true) a' w') a w :=
  by
  subst hdd
  exact wpOp_step ho fun K hK => by
    have hw : Region.wanted o (yielded ops a.tmps) = true := by simp [Region.wanted, hg]
    rw [if_pos hw]
    unfold Oper.wp
    rw [hr]
    exact hK _ _ (h.step hb ho hi hst hv hG)
theorem RI.call {P : Program} {ops : Array Oper} {Q : Exit → Act → World → Prop} {a0 : Act} {F : Nat → Value → World → Prop} {G : Array Bool → Act → World → Prop} {listed : Array Bool} {a : Act} {w : World} {i : Nat} (h : RI ops a0 F G listed a w) (hb : dstB ops a0.tmps.size = true) (hi : i ∈ Region.ready .any ops listed) {o : Oper} (ho : ops[i]? = some o) (hg : o.guard = none) (d : Option Nat) (hdd : o.dst = d)
    (f : FuncId) (fn : Func) (xs : Array Operand) (ats : Array TypeId) (args : Array Value) {R : Ending → World → Prop} (hc : o.op = .call { callee := .value (.func f), args := xs, argTypes := ats }) (hf : P.funcs[f]? = some fn) (hn : (fn.name == "runtime.NumGoroutine") = false) (hbd : fn.body.isNone = false) (hx : xs.map a.eval = args)
    (hC : Calls P f args w R) (hK : ∀ e w', R e w' → ∃ v, e = .returned v ∧ (∀ j u, F j u w → F j u w') ∧ (∀ t, d = some t → F i v w') ∧ G (listed.setIfInBounds i true) (a.put d v) w') :
    wpOp P ops Q i (fun a' w' => RI ops a0 F G (listed.setIfInBounds i true) a' w') a w :=
  by
  subst hdd
  exact wpOp_step ho fun K hKK =>
    step_call hg (run_call (.func f) xs ats f fn #[] hc rfl hf hn hbd args (by simpa using hx)) hC fun e w' hR => by
      obtain ⟨v, rfl, h1, h2, h3⟩ := hK e w' hR
      exact ⟨v, rfl, hKK _ _ (h.step hb ho hi h1 h2 h3)⟩
end Go.Proofs.Ytpgjbbefgacjkaa

/- The operations of a region of a function's text, by the region's number. -/
namespace Go.Proofs.Ytpgjbbefgacjkaa
open Go.RowKit
def regOf : Code → Nat → Option (Array Oper)
  | .region id ops _, n => if id = n then some ops else none
  | .seq a b, n => (regOf a n).orElse fun _ => regOf b n
  | .cond _ a b, n => (regOf a n).orElse fun _ => regOf b n
  | .block _ a, n => regOf a n
  | .loop a, n => regOf a n
  | .rangeFunc _ _ a b, n => (regOf a n).orElse fun _ => regOf b n
  | .scope a, n => regOf a n
  | _, _ => none
def opsOf (f : Func) (n : Nat) : Array Oper := (f.body.bind fun c => regOf c n).getD #[]
end Go.Proofs.Ytpgjbbefgacjkaa

/- A region that draws its order and in which every operation tells a value that is known ahead: reads, tests, calls that make memory. -/
namespace Go.Proofs.Ytpgjbbefgacjkaa
open Go.RowKit
set_option linter.unusedSimpArgs false
set_option linter.unusedVariables false
/-- Is the operation run, its guard's operation having told so? -/
def wantB (ops : Array Oper) (vals : List Value) (i : Nat) : Bool := match (ops[i]?).bind (·.guard) with
  | none => true
  | some (j, b) => match vals[j]? with
    | some (.bool c) => c == b
    | _ => false
/-- The guard's operation is waited for, and has a slot. -/
def guardB (ops : Array Oper) : Bool := (List.range ops.size).all fun i => match ops[i]? with
  | none => true
  | some o => match o.guard with
    | none => true
    | some (j, _) => (o.after.any fun e => decide (e.on = j) && Region.binds .any e) && ((ops[j]?).bind (·.dst)).isSome
/-- Whoever writes slot t waits for operation i. -/
def yetB (ops : Array Oper) (i t : Nat) : Bool := ops.all fun o => decide (o.dst ≠ some t) || o.after.any fun e => decide (e.on = i) && Region.binds .any e
structure Then (ops : Array Oper) (vals : List Value) (a0 : Act) (w0 : World) (i : Nat) (a : Act) (W : World) : Prop where
  fr : Fr none_ w0 W
  dep : ∀ j t v, ((ops[i]?).map fun o => o.after.any fun e => decide (e.on = j) && Region.binds .any e) = some true → (ops[j]?).bind (·.dst) = some t → vals[j]? = some v → a.tmps[t]?.getD undef = v
  old : ∀ t v, yetB ops i t = true → a0.tmps[t]? = some v → a.tmps[t]?.getD undef = v
theorem wanted_of {ops : Array Oper} {vals : List Value} {a0 : Act} {w0 : World} {listed : Array Bool} {a : Act} {w : World} {i : Nat} {o : Oper} (h : RI ops a0 (fun j v _ => vals[j]? = some v) (fun _ _ W => Fr none_ w0 W) listed a w) (hg : guardB ops = true) (ho : ops[i]? = some o) (hi : i ∈ Region.ready .any ops listed) : Region.wanted o (yielded ops a.tmps) = wantB ops vals i := by
  obtain ⟨h0, o', ho', hd⟩ := mem_ready.1 hi
  rw [ho] at ho'
  obtain rfl := Option.some.inj ho'
  have h1 := List.all_eq_true.1 hg i (List.mem_range.2 (Array.getElem?_eq_some_iff.1 ho).1)
  rw [ho] at h1
  unfold wantB Region.wanted
  rw [ho]
  simp only [Option.bind_some]
  cases hgd : o.guard with
  | none => rfl
  | some p =>
    obtain ⟨j, b⟩ := p
    simp only [hgd, Bool.and_eq_true] at h1 ⊢
    obtain ⟨h2, h3⟩ := h1
    rw [Array.any_eq_true] at h2
    obtain ⟨x, hx, he⟩ := h2
    simp only [Bool.and_eq_true, decide_eq_true_eq] at he
    have hl := hd _ (Array.getElem_mem hx) he.2
    rw [he.1] at hl
    obtain ⟨t, ht⟩ := Option.isSome_iff_exists.1 h3
    cases hoj : ops[j]? with
    | none => rw [hoj] at ht; cases ht
    | some oj =>
      rw [hoj] at ht
      have ht : oj.dst = some t := ht
      have hv := h.done j oj t hoj hl ht
      rw [hv]
      unfold yielded
      rw [hoj]
      simp only [Option.bind_some, ht]
      have hlt : ∃ v, a.tmps[t]? = some v ∨ a.tmps[t]? = none := by
        cases a.tmps[t]? with
        | none => exact ⟨undef, .inr rfl⟩
        | some v => exact ⟨v, .inl rfl⟩
      have hev : a.eval (.tmp t) = a.tmps[t]?.getD undef := by simp [Act.eval]
      rw [hev]
      cases a.tmps[t]? with
      | none => rfl
      | some v => cases v <;> simp
theorem foldl_zip (a1 : Array Value) : ∀ (l : List (Option Nat × Value)) (acc : Array Value) (t : Nat), (∀ p, p ∈ l → ∀ u, p.1 = some u → a1.getD u undef = p.2) → (l.foldl (fun acc p => match p.1 with | none => acc | some u => acc.setIfInBounds u p.2) acc).size = acc.size ∧ ((l.foldl (fun acc p => match p.1 with | none => acc | some u => acc.setIfInBounds u p.2) acc)[t]? = if (∃ p, p ∈ l ∧ p.1 = some t) ∧ t < acc.size then some (a1.getD t undef) else acc[t]?)
  | [], acc, t, _ => by simp
  | p :: l, acc, t, h => by
    have ih := foldl_zip a1 l (match p.1 with | none => acc | some u => acc.setIfInBounds u p.2) t (fun q hq => h q (List.mem_cons_of_mem _ hq))
    simp only [List.foldl_cons]
    have hsz : (match p.1 with | none => acc | some u => acc.setIfInBounds u p.2).size = acc.size := by split <;> simp
    refine ⟨ih.1.trans hsz, ?_⟩
    rw [ih.2, hsz]
    by_cases hE : ∃ q, q ∈ l ∧ q.1 = some t
    · by_cases hlt : t < acc.size
      · rw [if_pos ⟨hE, hlt⟩, if_pos ⟨by obtain ⟨q, h1, h2⟩ := hE; exact ⟨q, List.mem_cons_of_mem _ h1, h2⟩, hlt⟩]
      · rw [if_neg (fun h => hlt h.2), if_neg (fun h => hlt h.2)]
        rw [Array.getElem?_eq_none (by rw [hsz]; omega), Array.getElem?_eq_none (by omega)]
    · rw [if_neg (fun h => hE h.1)]
      cases hp : p.1 with
      | none =>
        simp only
        rw [if_neg]
        rintro ⟨⟨q, h1, h2⟩, _⟩
        rcases List.mem_cons.1 h1 with rfl | h1
        · rw [hp] at h2; cases h2
        · exact hE ⟨q, h1, h2⟩
      | some u =>
        simp only
        by_cases hut : u = t
        · subst hut
          by_cases hlt : u < acc.size
          · rw [if_pos ⟨⟨p, List.mem_cons_self .., hp⟩, hlt⟩]
            simp [hlt, h p (List.mem_cons_self ..) u hp]
          · rw [if_neg (fun h => hlt h.2)]
            simp [Array.getElem?_setIfInBounds, hlt]
        · rw [if_neg]
          · simp [Array.getElem?_setIfInBounds, hut]
          · rintro ⟨⟨q, h1, h2⟩, _⟩
            rcases List.mem_cons.1 h1 with rfl | h1
            · rw [hp] at h2; injection h2 with h2; exact hut h2
            · exact hE ⟨q, h1, h2⟩
/-- The frame behind the region. -/
def backF (ds : List (Option Nat)) (vals : List Value) (t0 : Array Value) : Array Value := (ds.zip vals).foldl (fun acc p => match p.1 with | none => acc | some u => acc.setIfInBounds u p.2) t0
theorem wp_region_fix {P : Program} {ops : Array Oper} {Q : Exit → Act → World → Prop} {id : Nat} {a0 : Act} {w : World} (vals : List Value) (hm : P.follows .mixedOrders = true) (hdn : downR ops = true) (hb : dstB ops a0.tmps.size = true) (hg : guardB ops = true) (hl : vals.length = ops.size) (ds : List (Option Nat)) (hds : ops.toList.map (·.dst) = ds)
    (hskip : ∀ i, i < ops.size → wantB ops vals i = false → vals[i]? = some undef)
    (hstep : ∀ i, i < ops.size → wantB ops vals i = true → ∀ a W, Then ops vals a0 w i a W → ∀ o v, ops[i]? = some o → vals[i]? = some v → ∀ K : Act → World → Prop, (∀ W', Fr none_ W W' → K (a.put o.dst v) W') → Oper.wp P o a W K Q)
    (hQ : ∀ W, Fr none_ w W → Q .normal ⟨backF ds vals a0.tmps, a0.defers⟩ W) : (Code.region id ops true).wp P Q a0 w := by
  refine wp_region_ri hm hdn hb (fun j v _ => vals[j]? = some v) (fun _ _ W => Fr none_ w W) (Fr.refl _ _).drew ?_ ?_
  · intro listed a W i h hi
    obtain ⟨h0, o, ho, hd⟩ := mem_ready.1 hi
    have hlt : i < ops.size := (Array.getElem?_eq_some_iff.1 ho).1
    have hw := wanted_of h hg ho hi
    refine wpOp_step ho fun K hK => ?_
    rw [hw]
    cases hwb : wantB ops vals i with
    | false =>
      rw [if_neg (by decide)]
      exact hK _ _ (h.step hb ho hi (fun _ _ h => h) (fun _ _ => hskip i hlt hwb) h.g)
    | true =>
      rw [if_pos rfl]
      have hv : vals[i]? = some vals[i] := List.getElem?_eq_getElem (by omega)
      refine hstep i hlt hwb a W ⟨h.g, fun j t v hb' ht hvj => ?_, fun t v hy hv' => ?_⟩ o _ ho hv K fun W' hf => hK _ _ (h.step hb ho hi (fun _ _ h => h) (fun _ _ => hv) (h.g.trans hf))
      · rw [ho] at hb'
        simp only [Option.map_some, Option.some.injEq] at hb'
        rw [Array.any_eq_true] at hb'
        obtain ⟨x, hx, he⟩ := hb'
        simp only [Bool.and_eq_true, decide_eq_true_eq] at he
        have hlj := hd _ (Array.getElem_mem hx) he.2
        rw [he.1] at hlj
        have := h.val j t hlj ht
        rw [hvj] at this
        have e := Option.some.inj this
        rw [e]
        simp [Act.eval]
      · have h1 := h.old t fun k ok hok hlk hdk => by
          obtain ⟨hkl, rfl⟩ := Array.getElem?_eq_some_iff.1 hok
          have h2 := (Array.all_eq_true.1 hy) k hkl
          simp only [Bool.or_eq_true, decide_eq_true_eq] at h2
          rcases h2 with h2 | h2
          · exact h2 hdk
          · rw [Array.any_eq_true] at h2
            obtain ⟨x, hx, he⟩ := h2
            simp only [Bool.and_eq_true, decide_eq_true_eq] at he
            have := h.cl k _ _ hok hlk (Array.getElem_mem hx) he.2
            rw [he.1] at this
            rw [Array.getD_eq_getD_getElem?] at this h0
            cases hli : listed[i]? with
            | none => rw [hli] at this; cases this
            | some b => rw [hli] at this h0; simp only [Option.getD_some] at this h0; rw [this] at h0; cases h0
        rw [h1, hv']
        rfl
  · intro listed a W h hall
    have hz : ∀ p, p ∈ ds.zip vals → ∀ u, p.1 = some u → a.tmps.getD u undef = p.2 := by
      intro p hp u hu
      obtain ⟨i, hi, rfl⟩ := List.mem_iff_getElem.1 hp
      subst hds
      simp only [List.length_zip, List.length_map, Array.length_toList] at hi
      simp only [List.getElem_zip, List.getElem_map, Array.getElem_toList] at hu ⊢
      have := h.done i _ u (Array.getElem?_eq_getElem (by omega)) (hall i (by omega)) hu
      rw [List.getElem?_eq_getElem (by omega)] at this
      have e := Option.some.inj this
      rw [e]
      simp [Act.eval]
    have he : a = ⟨backF ds vals a0.tmps, a0.defers⟩ := by
      have h2 : a.defers = a0.defers := h.df
      have h3 : a.tmps = backF ds vals a0.tmps := by
        apply Array.ext_getElem?
        intro t
        have := foldl_zip a.tmps (ds.zip vals) a0.tmps t hz
        unfold backF
        rw [this.2]
        by_cases hE : ∃ p, p ∈ ds.zip vals ∧ p.1 = some t
        · by_cases hlt : t < a0.tmps.size
          · rw [if_pos ⟨hE, hlt⟩, Array.getD_eq_getD_getElem?, Array.getElem?_eq_getElem (by rw [h.sz]; exact hlt)]
            rfl
          · rw [if_neg (fun h => hlt h.2), Array.getElem?_eq_none (by rw [h.sz]; omega), Array.getElem?_eq_none (by omega)]
        · rw [if_neg (fun h => hE h.1)]
          refine h.old t fun i o ho _ e => hE ?_
          obtain ⟨hi, rfl⟩ := Array.getElem?_eq_some_iff.1 ho
          subst hds
          refine ⟨(ops[i].dst, vals[i]), ?_, e⟩
          rw [List.mem_iff_getElem]
          exact ⟨i, by simp; omega, by simp⟩
      cases a with
      | mk tm df =>
        subst h2
        subst h3
        rfl
    rw [he]
    exact hQ W h.g
/-- An operation that tells its value and leaves the world alone. -/
theorem fix_value {P : Program} {o : Oper} {a : Act} {W : World} {K : Act → World → Prop} {Q : Exit → Act → World → Prop} {v : Value} (hr : (execOp a.eval o).run P W = .ok (.value v) W) (hK : ∀ W', Fr none_ W W' → K (a.put o.dst v) W') : Oper.wp P o a W K Q := by
  unfold Oper.wp
  rw [hr]
  exact hK W (Fr.refl _ _)
theorem fix_call {P : Program} {o : Oper} {a : Act} {W : World} {K : Act → World → Prop} {Q : Exit → Act → World → Prop} {v : Value} (f : FuncId) (fn : Func) (xs : Array Operand) (ats : Array TypeId) (args : Array Value) {R : Ending → World → Prop} (hc : o.op = .call { callee := .value (.func f), args := xs, argTypes := ats }) (hf : P.funcs[f]? = some fn) (hn : (fn.name == "runtime.NumGoroutine") = false) (hbd : fn.body.isNone = false) (hx : xs.map a.eval = args)
    (hC : Calls P f args W R) (hR : ∀ e w', R e w' → e = .returned v ∧ Fr none_ W w') (hK : ∀ W', Fr none_ W W' → K (a.put o.dst v) W') : Oper.wp P o a W K Q := by
  unfold Oper.wp
  rw [run_call (.func f) xs ats f fn #[] hc rfl hf hn hbd args (by simpa using hx)]
  exact hC.mono fun e w' h => by
    obtain ⟨rfl, hf⟩ := hR e w' h
    exact hK w' hf
theorem Fr.cellN {w W : World} (h : Fr none_ w W) {b i : Nat} {v : Value} (hc : w.cell? ⟨b, i, none⟩ = some v) : W.cell? ⟨b, i, none⟩ = some v := (World.cell?_of_block (w := w) (a := ⟨b, i, none⟩) (h.block b (World.block_lt_of_cell? w ⟨b, i, none⟩ hc) (fun h => h))).trans hc
end Go.Proofs.Ytpgjbbefgacjkaa

/- A region that draws its order, with one call that changes the world; every operation tells a value that is known ahead. -/
namespace Go.Proofs.Ytpgjbbefgacjkaa
open Go.RowKit
set_option linter.unusedSimpArgs false
set_option linter.unusedVariables false
/-- Operation c waits for operation i. -/
def waitB (ops : Array Oper) (c i : Nat) : Bool := ((ops[c]?).map fun o => o.after.any fun e => decide (e.on = i) && Region.binds .any e).getD false
structure ThenO (ops : Array Oper) (vals : List Value) (a0 : Act) (w0 : World) (c i : Nat) (a : Act) (W : World) : Prop where
  fr : i = c ∨ waitB ops c i = true → Fr none_ w0 W
  dep : ∀ j t v, ((ops[i]?).map fun o => o.after.any fun e => decide (e.on = j) && Region.binds .any e) = some true → (ops[j]?).bind (·.dst) = some t → vals[j]? = some v → a.tmps[t]?.getD undef = v
  old : ∀ t v, yetB ops i t = true → a0.tmps[t]? = some v → a.tmps[t]?.getD undef = v
def GOne (w0 : World) (c : Nat) (R : World → Prop) (listed : Array Bool) (W : World) : Prop := (listed.getD c false = false → Fr none_ w0 W) ∧ (listed.getD c false = true → R W)
theorem wanted_of' {ops : Array Oper} {vals : List Value} {a0 : Act} {G : Array Bool → Act → World → Prop} {listed : Array Bool} {a : Act} {w : World} {i : Nat} {o : Oper} (h : RI ops a0 (fun j v _ => vals[j]? = some v) G listed a w) (hg : guardB ops = true) (ho : ops[i]? = some o) (hi : i ∈ Region.ready .any ops listed) : Region.wanted o (yielded ops a.tmps) = wantB ops vals i :=
  wanted_of (w0 := w) ⟨h.len, h.sz, h.df, h.old, h.done, h.cl, Fr.refl _ _⟩ hg ho hi
theorem rep_false1 (k i : Nat) : (Array.replicate k false).getD i false = false := by
  rw [Array.getD_eq_getD_getElem?, Array.getElem?_replicate]
  split <;> rfl
theorem wp_region_one {P : Program} {ops : Array Oper} {Q : Exit → Act → World → Prop} {id : Nat} {a0 : Act} {w : World} (vals : List Value) (c : Nat) (R : World → Prop) (hm : P.follows .mixedOrders = true) (hdn : downR ops = true) (hb : dstB ops a0.tmps.size = true) (hg : guardB ops = true) (hl : vals.length = ops.size) (ds : List (Option Nat)) (hds : ops.toList.map (·.dst) = ds)
    (hskip : ∀ i, i < ops.size → wantB ops vals i = false → vals[i]? = some undef)
    (hc : c < ops.size) (hcw : wantB ops vals c = true) (hstep : ∀ i, i < ops.size → wantB ops vals i = true → ∀ a W, ThenO ops vals a0 w c i a W → ∀ o v, ops[i]? = some o → vals[i]? = some v → ∀ K : Act → World → Prop, (∀ W', (i ≠ c → W' = W) → (i = c → R W') → K (a.put o.dst v) W') → Oper.wp P o a W K Q)
    (hQ : ∀ W, R W → Q .normal ⟨backF ds vals a0.tmps, a0.defers⟩ W) : (Code.region id ops true).wp P Q a0 w := by
  refine wp_region_ri hm hdn hb (fun j v _ => vals[j]? = some v) (fun l _ W => GOne w c R l W) ⟨fun _ => (Fr.refl _ _).drew, fun h => (by rw [rep_false1] at h; cases h)⟩ ?_ ?_
  · intro listed a W i h hi
    obtain ⟨h0, o, ho, hd⟩ := mem_ready.1 hi
    have hlt : i < ops.size := (Array.getElem?_eq_some_iff.1 ho).1
    have hw := wanted_of' h hg ho hi
    have hnl : listed.getD i false = false := by
      rw [Array.getD_eq_getD_getElem?] at h0 ⊢
      cases hli : listed[i]? with
      | none => rw [hli] at h0; cases h0
      | some b => rw [hli] at h0; exact h0
    refine wpOp_step ho fun K hK => ?_
    rw [hw]
    cases hwb : wantB ops vals i with
    | false =>
      rw [if_neg (by decide)]
      have hic : i ≠ c := fun e => by rw [e, hcw] at hwb; cases hwb
      refine hK _ _ (h.step hb ho hi (fun _ _ h => h) (fun _ _ => hskip i hlt hwb) ?_)
      unfold GOne
      rw [getD_set_ne false hic]
      exact h.g
    | true =>
      rw [if_pos rfl]
      have hv : vals[i]? = some vals[i] := List.getElem?_eq_getElem (by omega)
      refine hstep i hlt hwb a W ⟨fun hic => h.g.1 ?_, fun j t v hb' ht hvj => ?_, fun t v hy hv' => ?_⟩ o _ ho hv K fun W' hW1 hW2 => hK _ _ (h.step hb ho hi (fun _ _ h => h) (fun _ _ => hv) ?_)
      · rcases hic with rfl | hic
        · exact hnl
        · unfold waitB at hic
          rw [Array.getElem?_eq_getElem hc] at hic
          simp only [Option.map_some, Option.getD_some] at hic
          rw [Array.any_eq_true] at hic
          obtain ⟨x, hx, he⟩ := hic
          simp only [Bool.and_eq_true, decide_eq_true_eq] at he
          cases hcl : listed.getD c false with
          | false => rfl
          | true =>
            have := h.cl c _ _ (Array.getElem?_eq_getElem hc) hcl (Array.getElem_mem hx) he.2
            rw [he.1, hnl] at this
            cases this
      · rw [ho] at hb'
        simp only [Option.map_some, Option.some.injEq] at hb'
        rw [Array.any_eq_true] at hb'
        obtain ⟨x, hx, he⟩ := hb'
        simp only [Bool.and_eq_true, decide_eq_true_eq] at he
        have hlj := hd _ (Array.getElem_mem hx) he.2
        rw [he.1] at hlj
        have := h.val j t hlj ht
        rw [hvj] at this
        have e := Option.some.inj this
        rw [e]
        simp [Act.eval]
      · have h1 := h.old t fun k ok hok hlk hdk => by
          obtain ⟨hkl, rfl⟩ := Array.getElem?_eq_some_iff.1 hok
          have h2 := (Array.all_eq_true.1 hy) k hkl
          simp only [Bool.or_eq_true, decide_eq_true_eq] at h2
          rcases h2 with h2 | h2
          · exact h2 hdk
          · rw [Array.any_eq_true] at h2
            obtain ⟨x, hx, he⟩ := h2
            simp only [Bool.and_eq_true, decide_eq_true_eq] at he
            have := h.cl k _ _ hok hlk (Array.getElem_mem hx) he.2
            rw [he.1] at this
            rw [Array.getD_eq_getD_getElem?] at this h0
            cases hli : listed[i]? with
            | none => rw [hli] at this; cases this
            | some b => rw [hli] at this h0; simp only [Option.getD_some] at this h0; rw [this] at h0; cases h0
        rw [h1, hv']
        rfl
      · unfold GOne
        by_cases e : i = c
        · subst e
          have hset : (listed.setIfInBounds i true).getD i false = true := by simp [h.len, hlt]
          rw [hset]
          exact ⟨(fun h => by cases h), fun _ => hW2 rfl⟩
        · rw [getD_set_ne false e, hW1 e]
          exact h.g
  · intro listed a W h hall
    have hz : ∀ p, p ∈ ds.zip vals → ∀ u, p.1 = some u → a.tmps.getD u undef = p.2 := by
      intro p hp u hu
      obtain ⟨i, hi, rfl⟩ := List.mem_iff_getElem.1 hp
      subst hds
      simp only [List.length_zip, List.length_map, Array.length_toList] at hi
      simp only [List.getElem_zip, List.getElem_map, Array.getElem_toList] at hu ⊢
      have := h.done i _ u (Array.getElem?_eq_getElem (by omega)) (hall i (by omega)) hu
      rw [List.getElem?_eq_getElem (by omega)] at this
      have e := Option.some.inj this
      rw [e]
      simp [Act.eval]
    have he : a = ⟨backF ds vals a0.tmps, a0.defers⟩ := by
      have h2 : a.defers = a0.defers := h.df
      have h3 : a.tmps = backF ds vals a0.tmps := by
        apply Array.ext_getElem?
        intro t
        have := foldl_zip a.tmps (ds.zip vals) a0.tmps t hz
        unfold backF
        rw [this.2]
        by_cases hE : ∃ p, p ∈ ds.zip vals ∧ p.1 = some t
        · by_cases hlt : t < a0.tmps.size
          · rw [if_pos ⟨hE, hlt⟩, Array.getD_eq_getD_getElem?, Array.getElem?_eq_getElem (by rw [h.sz]; exact hlt)]
            rfl
          · rw [if_neg (fun h => hlt h.2), Array.getElem?_eq_none (by rw [h.sz]; omega), Array.getElem?_eq_none (by omega)]
        · rw [if_neg (fun h => hE h.1)]
          refine h.old t fun i o ho _ e => hE ?_
          obtain ⟨hi, rfl⟩ := Array.getElem?_eq_some_iff.1 ho
          subst hds
          refine ⟨(ops[i].dst, vals[i]), ?_, e⟩
          rw [List.mem_iff_getElem]
          exact ⟨i, by simp; omega, by simp⟩
      cases a with
      | mk tm df =>
        subst h2
        subst h3
        rfl
    rw [he]
    exact hQ W (h.g.2 (hall c hc))
/-- An operation that tells its value and leaves the world alone. -/
theorem one_value {P : Program} {o : Oper} {a : Act} {W : World} {K : Act → World → Prop} {Q : Exit → Act → World → Prop} {v : Value} {i c : Nat} {R : World → Prop} (hr : (execOp a.eval o).run P W = .ok (.value v) W) (hic : i ≠ c) (hK : ∀ W', (i ≠ c → W' = W) → (i = c → R W') → K (a.put o.dst v) W') : Oper.wp P o a W K Q := by
  unfold Oper.wp
  rw [hr]
  exact hK W (fun _ => rfl) (fun e => absurd e hic)
theorem one_call {P : Program} {o : Oper} {a : Act} {W : World} {K : Act → World → Prop} {Q : Exit → Act → World → Prop} {v : Value} {i c : Nat} {R' : World → Prop} (f : FuncId) (fn : Func) (xs : Array Operand) (ats : Array TypeId) (args : Array Value) {R : Ending → World → Prop} (hc : o.op = .call { callee := .value (.func f), args := xs, argTypes := ats }) (hf : P.funcs[f]? = some fn) (hn : (fn.name == "runtime.NumGoroutine") = false) (hbd : fn.body.isNone = false) (hx : xs.map a.eval = args)
    (hC : Calls P f args W R) (hR : ∀ e w', R e w' → e = .returned v ∧ R' w') (hic : i = c) (hK : ∀ W', (i ≠ c → W' = W) → (i = c → R' W') → K (a.put o.dst v) W') : Oper.wp P o a W K Q := by
  unfold Oper.wp
  rw [run_call (.func f) xs ats f fn #[] hc rfl hf hn hbd args (by simpa using hx)]
  exact hC.mono fun e w' h => by
    obtain ⟨rfl, hf⟩ := hR e w' h
    exact hK w' (fun e => absurd hic e) (fun _ => hf)
end Go.Proofs.Ytpgjbbefgacjkaa
