/-
  The same for channels: comparisons of structs, contracts in the words of a drawing region. No condition.
-/
import Derived.Test.YtmenehgbhgehjaaTypedB
import Derived.Test.YtmenehgbhgehjaaDrwV
namespace Go.Proofs.Ytmenehgbhgehjaa
open Go.RowKit
set_option linter.unusedVariables false
set_option linter.unusedSimpArgs false
section
variable {o : Oper} {a : Act} {w : World} {K : Act → World → Prop} {Q : Exit → Act → World → Prop}
theorem ob_eqlV (x y : Operand) {u : Vo} (ho : o.op = .binOp .eql 24 x y 24) (hx : a.eval x = u.val) (hy : a.eval y = u.val) (h : K (a.put o.dst (.bool true)) w) : o.wp Try.prog a w K Q := by
  have hr : (binOp .eql 24 u.val u.val).run Try.prog w = .ok (.bool true) w := by simp [go_sem]
  have hg : Try.prog.eqGuardType Try.prog.depth 24 = false := by kernel_rfl
  have hq : (eqGuard .eql 24 x y u.val u.val).run Try.prog w = .ok () w := by simp [eqGuard, go_sem, hg]
  unfold Oper.wp execOp
  simp only [ho, hx, hy, hr, hq, Sem.run_bind, Sem.run_pure, Result.andThen_ok]
  exact h
end
def Leaves (f : FuncId) (args : Array Value) (r : Value) (w : World) : Prop := Calls Try.prog f args w fun e w2 => ∃ v, e = .returned v ∧ IsVal r w2 v ∧ Below w.heap.size w w2
theorem pc1 {f : FuncId} {x r : Value} (h : ∀ W, Calls Try.prog f #[x] W fun e w' => e = .returned r ∧ Below W.heap.size W w') {w' : World} {a : Value} (ha : IsVal x w' a) :
    Calls Try.prog f #[a] w' fun e w2 => ∃ v, e = .returned v ∧ IsVal r w2 v ∧ Below w'.heap.size w' w2 := by
  cases ha
  exact (h w').mono fun e w2 ⟨h1, h2⟩ => ⟨r, h1, rfl, h2⟩
theorem pc2 {f : FuncId} {x r : Value} {E : Int} (h : ∀ W, Calls Try.prog f #[x, .int .i64 E] W fun e w' => e = .returned r ∧ Below W.heap.size W w') {w' : World} {a b : Value} (ha : IsVal x w' a) (hb : IntIn E E w' b) :
    Calls Try.prog f #[a, b] w' fun e w2 => ∃ v, e = .returned v ∧ IsVal r w2 v ∧ Below w'.heap.size w' w2 := by
  cases ha
  obtain ⟨y, rfl, y0, y1⟩ := hb
  obtain rfl : y = E := by omega
  exact (h w').mono fun e w2 ⟨h1, h2⟩ => ⟨r, h1, rfl, h2⟩
end Go.Proofs.Ytmenehgbhgehjaa
