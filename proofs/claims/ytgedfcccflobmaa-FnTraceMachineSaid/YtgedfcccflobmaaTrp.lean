/-
  Traces in plain words. No program is walked here.
-/
import Derived.Test.YtgedfcccflobmaaStp
namespace Go.Proofs.Ytgedfcccflobmaa
open Go.RowKit
set_option linter.unusedVariables false
set_option linter.unusedSimpArgs false
def runP (p : PM) : Nat → PM
  | 0 => p
  | k + 1 => stepP (runP p k)
/-- The addresses of the first k steps. -/
def pcsP (p : PM) : Nat → List Int
  | 0 => []
  | k + 1 => pcsP p k ++ [(runP p k).pc]
/-- The addresses until the machine stops. -/
def traceP (p : PM) : Nat → List Int
  | 0 => []
  | k + 1 => if (runP p k).st then traceP p k else traceP p k ++ [(runP p k).pc]
theorem runP_form {p : PM} (h : FormP p) : ∀ k, FormP (runP p k)
  | 0 => h
  | k + 1 => form_step (runP_form h k)
theorem runP_cyc {p : PM} (h : FormP p) : ∀ k : Nat, p.cyc ≤ (runP p k).cyc ∧ (runP p k).cyc ≤ p.cyc + 3 * k
  | 0 => ⟨Int.le_refl _, by show p.cyc ≤ p.cyc + 3 * ((0 : Nat) : Int); omega⟩
  | k + 1 => by
    have h1 := runP_cyc h k
    have h2 := step_cyc (runP_form h k)
    show p.cyc ≤ (stepP (runP p k)).cyc ∧ (stepP (runP p k)).cyc ≤ p.cyc + 3 * ((k + 1 : Nat) : Int)
    omega
theorem runP_st {p : PM} {k : Nat} (h : (runP p k).st = true) : ∀ d, runP p (k + d) = runP p k
  | 0 => rfl
  | d + 1 => by
    show stepP (runP p (k + d)) = _
    rw [runP_st h d]
    unfold stepP
    rw [if_pos h]
theorem pcsP_len (p : PM) : ∀ k, (pcsP p k).length = k
  | 0 => rfl
  | k + 1 => by simp [pcsP, pcsP_len p k]
theorem traceP_run {p : PM} : ∀ k : Nat, (∀ i, i < k → (runP p i).st = false) → traceP p k = pcsP p k
  | 0, _ => rfl
  | k + 1, h => by
    unfold traceP pcsP
    rw [if_neg (by rw [h k (by omega)]; simp), traceP_run k fun i hi => h i (by omega)]
theorem traceP_st {p : PM} {k : Nat} (h : (runP p k).st = true) : ∀ d, traceP p (k + d) = traceP p k
  | 0 => rfl
  | d + 1 => by
    show (if (runP p (k + d)).st then traceP p (k + d) else traceP p (k + d) ++ [(runP p (k + d)).pc]) = _
    rw [runP_st h d, if_pos h, traceP_st h d]
end Go.Proofs.Ytgedfcccflobmaa
