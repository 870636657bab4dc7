/-
  Operations of drawing regions that only read, and whose callees leave all that was there: guards, picks, comparisons. No condition.
-/
import Derived.Test.YtlbalepcjamhcaaRd
namespace Go.Proofs.Ytlbalepcjamhcaa
open Go.RowKit
set_option linter.unusedVariables false
set_option linter.unusedSimpArgs false
theorem wanted_of {o : Oper} {ops : Array Oper} {a : Act} {j t : Nat} {b c : Bool} {v : Value} (hg : o.guard = some (j, b)) (hd : (ops[j]?).bind (·.dst) = some t) (he : a.eval (.tmp t) = v) (hv : v = .bool c) :
    Region.wanted o (yielded ops a.tmps) = (c == b) := by
  subst hv
  have h : a.tmps[t]? = some (.bool c) := by
    simp only [Act.eval] at he
    cases h : a.tmps[t]? with
    | none => simp [Array.getD_eq_getD_getElem?, h, undef] at he
    | some u => simp [Array.getD_eq_getD_getElem?, h] at he; rw [he]
  simp only [Region.wanted, hg, yielded, hd, Option.bind_some, h]
  cases c <;> cases b <;> rfl
section
variable {P : Program} {o : Oper} {a : Act} {w : World} {K : Act → World → Prop} {Q : Exit → Act → World → Prop}
theorem ob_guarded {ops : Array Oper} {X Y : Prop} {j t : Nat} {b : Bool} {v : Value} (hg : o.guard = some (j, b)) (hd : (ops[j]?).bind (·.dst) = some t) (he : a.eval (.tmp t) = v) (hv : v = .bool b) (h : X) : if Region.wanted o (yielded ops a.tmps) then X else Y := by
  rw [if_pos (by rw [wanted_of hg hd he hv]; simp)]; exact h
theorem ob_guardoff {ops : Array Oper} {X Y : Prop} {j t : Nat} {b c : Bool} {v : Value} (hg : o.guard = some (j, b)) (hd : (ops[j]?).bind (·.dst) = some t) (he : a.eval (.tmp t) = v) (hv : v = .bool c) (hne : c ≠ b) (h : Y) : if Region.wanted o (yielded ops a.tmps) then X else Y := by
  rw [if_neg (by rw [wanted_of hg hd he hv]; simpa using hne)]; exact h
theorem ob_pickT (c x y : Operand) {v : Value} (ho : o.op = .pick c x y) (hc : a.eval c = .bool true) (hx : a.eval x = v) (h : K (a.put o.dst v) w) : o.wp Try.prog a w K Q := by
  unfold Oper.wp execOp
  simp only [ho, hc, hx, Sem.run_pure]
  exact h
theorem ob_pickF (c x y : Operand) {v : Value} (ho : o.op = .pick c x y) (hc : a.eval c = .bool false) (hx : a.eval y = v) (h : K (a.put o.dst v) w) : o.wp Try.prog a w K Q := by
  unfold Oper.wp execOp
  simp only [ho, hc, hx, Sem.run_pure]
  exact h
end
end Go.Proofs.Ytlbalepcjamhcaa
