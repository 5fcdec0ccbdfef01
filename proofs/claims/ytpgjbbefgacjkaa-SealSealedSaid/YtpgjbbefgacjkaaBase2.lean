/- More plain words: calls inside regions that draw their order. -/
import Derived.Test.YtpgjbbefgacjkaaBase
namespace Go.Proofs.Ytpgjbbefgacjkaa
open Go.RowKit
set_option linter.unusedSimpArgs false
set_option linter.unusedVariables false

theorem run_call {P : Program} {ρ : Operand → Value} {o : Oper} {w : World} (x : Operand) (xs : Array Operand) (ats : Array TypeId) (f : FuncId) (fn : Func) (cap : Array Value) (ho : o.op = .call { callee := .value x, args := xs, argTypes := ats })
    (hx : ρ x = .func (.func f) #[] cap) (hf : P.funcs[f]? = some fn) (hn : (fn.name == "runtime.NumGoroutine") = false) (hb : fn.body.isNone = false) (args : Array Value) (ha : xs.map ρ ++ cap = args) :
    (execOp ρ o).run P w = .ok (.enter f args) w := by
  subst ha
  unfold execOp
  simp only [ho, resolve, hx, Deferred.ofValue, Sem.run_bind, Sem.run_pure, Result.andThen_ok, invoke, callFunc]
  have hp : (program : Sem Program).run P w = .ok P w := rfl
  rw [hp]
  simp only [Result.andThen_ok, hf, hn, hb, Bool.false_eq_true, if_false]
  simp
/-- A call of a Go function as one step of a region that draws. -/
theorem step_call' {P : Program} {ops : Array Oper} {o : Oper} {a : Act} {w : World} {K : Act → World → Prop} {Q : Exit → Act → World → Prop} {E : Prop} (hg : o.guard = none) (x : Operand) (xs : Array Operand) (ats : Array TypeId) (f : FuncId) (fn : Func) (cap args : Array Value) {R : Ending → World → Prop}
    (ho : o.op = .call { callee := .value x, args := xs, argTypes := ats }) (hx : a.eval x = .func (.func f) #[] cap) (hf : P.funcs[f]? = some fn) (hn : (fn.name == "runtime.NumGoroutine") = false) (hb : fn.body.isNone = false) (ha : xs.map a.eval ++ cap = args)
    (hc : Calls P f args w R) (hK : ∀ e w', R e w' → ∃ v, e = .returned v ∧ K (a.put o.dst v) w') :
    if Region.wanted o (yielded ops a.tmps) = true then Oper.wp P o a w K Q else E :=
  step_call hg (run_call x xs ats f fn cap ho hx hf hn hb args ha) hc hK
theorem single_get {x u : Value} {i : Nat} (h : [x][i]? = some u) : i = 0 ∧ u = x := by
  cases i with
  | zero => exact ⟨rfl, by simpa using h.symm⟩
  | succ i => simp at h
theorem ownsRow_base {w : World} {B B' : Nat} {e : TypeId} {s n : Nat} {v : Value} {xs : List Value} (h : w.ownsRow B e s v n xs) (hb : B' ≤ B) : w.ownsRow B' e s v n xs := by
  refine ⟨h.1, ?_⟩
  rcases h.2 with h2 | ⟨g, cap, cur, rfl, hb', r⟩
  · exact .inl h2
  · exact .inr ⟨g, cap, cur, rfl, Nat.le_trans hb hb', r⟩
theorem Fr.grownNone {S : Nat → Prop} {a w w' : World} (h : Fr S a w) (hg : w.grownBy w' none) : Fr S a w' :=
  h.trans' (grownBy_fr hg) (fun i _ e => by cases e)
end Go.Proofs.Ytpgjbbefgacjkaa
