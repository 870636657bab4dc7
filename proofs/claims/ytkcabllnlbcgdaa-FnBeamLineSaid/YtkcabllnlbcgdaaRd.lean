/-
  The statements' drawing of inputs: the reader of a code ('l20Rd'), single operations of a drawing region, and the predicates that their results meet. No condition.
-/
import Derived.Test.YtkcabllnlbcgdaaMem
import Derived.Test.YtkcabllnlbcgdaaTyped
import Derived.Test.YtkcabllnlbcgdaaBits
namespace Go.Proofs.Ytkcabllnlbcgdaa
open Go.RowKit
set_option linter.unusedVariables false
set_option linter.unusedSimpArgs false
/-- The code's bytes lie outside block g. -/
def CodeR (w : World) (g : Nat) (A : Option Addr) (len : Nat) : Prop :=
  0 < len → ∃ b off, A = some ⟨b, off, none⟩ ∧ b ≠ g ∧ b < w.heap.size ∧ ∀ k, k < len → ∃ x : Int, w.cell? ⟨b, off + k, none⟩ = some (.int .u8 x) ∧ 0 ≤ x ∧ x ≤ 255
theorem CodeR.grown {w w' : World} {g len : Nat} {A : Option Addr} (h : CodeR w g A len) (hg : w.grownBy w' (some g)) : CodeR w' g A len := by
  intro hl
  obtain ⟨b, off, e, hne, hb, hc⟩ := h hl
  refine ⟨b, off, e, hne, Nat.lt_of_lt_of_le hb hg.size, fun k hk => ?_⟩
  obtain ⟨x, hx, h0⟩ := hc k hk
  exact ⟨x, (World.cell?_of_block (hg.block b hb (by intro e; injection e with e; exact hne e))).trans hx, h0⟩
/-- The reader lies in block g: over a code of len bytes, p of which are read. -/
def Rd (w : World) (g : Nat) (A : Option Addr) (len cap p : Nat) : Prop :=
  Blk w g 110 #[.slice A len cap, .int .i64 p] ∧ CodeR w g A len ∧ len ≤ 2000 ∧ len ≤ cap
theorem Rd.drew {w : World} {g len cap p : Nat} {A : Option Addr} (h : Rd w g A len cap p) : Rd w.drew g A len cap p := h
theorem Rd.lt {w : World} {g len cap p : Nat} {A : Option Addr} (h : Rd w g A len cap p) : g < w.heap.size := h.1.lt
theorem Rd.alloc {w : World} {g len cap p : Nat} {A : Option Addr} (h : Rd w g A len cap p) (o : Obj) : Rd (w.alloc o) g A len cap p :=
  ⟨h.1.alloc o, h.2.1.grown (World.grownBy_alloc w o _), h.2.2⟩
theorem Rd.below {w w' : World} {g len cap p : Nat} {A : Option Addr} (h : Rd w g A len cap p) (hb : Below w.heap.size w w') : Rd w' g A len cap p :=
  ⟨h.1.below hb h.1.lt, h.2.1.grown (grown_of_below hb _), h.2.2⟩
theorem grown_drew (w : World) (row : Option Nat) : w.grownBy w.drew row := ⟨rfl, rfl, rfl, Nat.le_refl _, fun _ _ _ => rfl⟩

/-! predicates -/
def IsPtr (g : Nat) (_ : World) (v : Value) : Prop := v = .pointer (some ⟨g, 0, none⟩)
def IsFld (g f : Nat) (_ : World) (v : Value) : Prop := v = .pointer (some ⟨g, f, none⟩)
def IsVal (u : Value) (_ : World) (v : Value) : Prop := v = u
def IntIn (lo hi : Int) (_ : World) (v : Value) : Prop := ∃ x : Int, v = .int .i64 x ∧ lo ≤ x ∧ x ≤ hi
def U8In (_ : World) (v : Value) : Prop := ∃ x : Int, v = .int .u8 x ∧ 0 ≤ x ∧ x ≤ 255
def U8At (g : Nat) (w : World) (v : Value) : Prop := ∃ b j, v = .pointer (some ⟨b, j, none⟩) ∧ b ≠ g ∧ b < w.heap.size ∧ ∃ x : Int, w.cell? ⟨b, j, none⟩ = some (.int .u8 x) ∧ 0 ≤ x ∧ x ≤ 255
def ArrIn (g n : Nat) (lo hi : Int) (w : World) (v : Value) : Prop :=
  ∃ b, v = .slice (some ⟨b, 0, none⟩) n n ∧ b ≠ g ∧ b < w.heap.size ∧ ∀ k, k < n → ∃ x : Int, w.cell? ⟨b, k, none⟩ = some (.int .i64 x) ∧ lo ≤ x ∧ x ≤ hi
def ElAt (g : Nat) (lo hi : Int) (w : World) (v : Value) : Prop := ∃ b j, v = .pointer (some ⟨b, j, none⟩) ∧ b ≠ g ∧ b < w.heap.size ∧ ∃ x : Int, w.cell? ⟨b, j, none⟩ = some (.int .i64 x) ∧ lo ≤ x ∧ x ≤ hi
theorem st_ptr (g g' : Nat) : Stable (some g) (IsPtr g') := fun _ _ _ _ h => h
theorem st_fld (g g' f : Nat) : Stable (some g) (IsFld g' f) := fun _ _ _ _ h => h
theorem st_val (g : Nat) (u : Value) : Stable (some g) (IsVal u) := fun _ _ _ _ h => h
theorem st_int (g : Nat) (lo hi : Int) : Stable (some g) (IntIn lo hi) := fun _ _ _ _ h => h
theorem st_u8 (g : Nat) : Stable (some g) U8In := fun _ _ _ _ h => h
theorem st_u8at (g : Nat) : Stable (some g) (U8At g) := by
  rintro w w' v hg ⟨b, j, rfl, hne, hb, x, hx, h0⟩
  exact ⟨b, j, rfl, hne, Nat.lt_of_lt_of_le hb hg.size, x, (World.cell?_of_block (hg.block b hb (by intro e; injection e with e; exact hne e))).trans hx, h0⟩
theorem st_arr (g n : Nat) (lo hi : Int) : Stable (some g) (ArrIn g n lo hi) := by
  rintro w w' v hg ⟨b, rfl, hne, hb, hc⟩
  refine ⟨b, rfl, hne, Nat.lt_of_lt_of_le hb hg.size, fun k hk => ?_⟩
  obtain ⟨x, hx, h0⟩ := hc k hk
  exact ⟨x, (World.cell?_of_block (hg.block b hb (by intro e; injection e with e; exact hne e))).trans hx, h0⟩
theorem st_el (g : Nat) (lo hi : Int) : Stable (some g) (ElAt g lo hi) := by
  rintro w w' v hg ⟨b, j, rfl, hne, hb, x, hx, h0⟩
  exact ⟨b, j, rfl, hne, Nat.lt_of_lt_of_le hb hg.size, x, (World.cell?_of_block (hg.block b hb (by intro e; injection e with e; exact hne e))).trans hx, h0⟩

/-! single operations -/
section
variable {o : Oper} {a : Act} {w : World} {K : Act → World → Prop} {Q : Exit → Act → World → Prop}
theorem ob_move (x : Operand) {v : Value} (ho : o.op = .move x) (hx : a.eval x = v) (h : K (a.put o.dst v) w) : o.wp Try.prog a w K Q := by
  unfold Oper.wp execOp
  simp only [ho, hx, Sem.run_pure]
  exact h
theorem ob_assign (x : Operand) {v : Value} (ho : o.op = .assign x) (hx : a.eval x = v) (h : K (a.put o.dst v) w) : o.wp Try.prog a w K Q := by
  unfold Oper.wp execOp
  simp only [ho, hx, Sem.run_pure]
  exact h
theorem ob_nil (x : Operand) {ad : Addr} (ho : o.op = .nilCheck x) (hx : a.eval x = .pointer (some ad)) (h : K (a.put o.dst (.pointer (some ad))) w) : o.wp Try.prog a w K Q := by
  unfold Oper.wp execOp
  simp only [ho, hx, Sem.run_pure]
  exact h
theorem ob_fld (x : Operand) (f : Nat) {g : Nat} (ho : o.op = .fieldAddr 110 x f) (hf : f = 0 ∨ f = 1) (hx : a.eval x = .pointer (some ⟨g, 0, none⟩)) (h : K (a.put o.dst (.pointer (some ⟨g, f, none⟩))) w) : o.wp Try.prog a w K Q := by
  have hr : (Instr.fieldAt 110 (.pointer (some ⟨g, 0, none⟩)) f).run Try.prog w = .ok (.pointer (some ⟨g, f, none⟩)) w := by rcases hf with rfl | rfl <;> simp [go_sem]
  unfold Oper.wp execOp
  simp only [ho, hx, hr, Sem.run_bind, Sem.run_pure, Result.andThen_ok]
  exact h
theorem ob_load (x : Operand) (t : TypeId) (ht : t = 3 ∨ t = 5 ∨ t = 22) {b j : Nat} {v : Value} (ho : o.op = .load t x) (hx : a.eval x = .pointer (some ⟨b, j, none⟩)) (hc : w.cell? ⟨b, j, none⟩ = some v)
    (h : K (a.put o.dst v) w) : o.wp Try.prog a w K Q := by
  have hr : (Instr.loadAt t (.pointer (some ⟨b, j, none⟩))).run Try.prog w = .ok v w := by rcases ht with rfl | rfl | rfl <;> simp [go_sem, hc]
  unfold Oper.wp execOp
  simp only [ho, hx, hr, Sem.run_bind, Sem.run_pure, Result.andThen_ok]
  exact h
theorem ob_len (x : Operand) (t : TypeId) (ht : t = 22 ∨ t = 23) {A : Option Addr} {n c : Nat} (ho : o.op = .call { callee := .builtin .len, args := #[x], argTypes := #[t] }) (hx : a.eval x = .slice A n c) (h : K (a.put o.dst (.int .i64 n)) w) : o.wp Try.prog a w K Q := by
  have hr : ∀ ty, (Builtin.len_ #[t] ty #[.slice A n c]).run Try.prog w = .ok (.int .i64 n) w := by intro ty; rcases ht with rfl | rfl <;> simp [go_sem]
  unfold Oper.wp execOp
  simp only [ho, resolve, invoke, builtin, Sem.run_bind, Sem.run_pure, Result.andThen_ok, List.map_toArray, List.map_cons, List.map_nil, hx, hr]
  exact h
theorem ob_call (f : FuncId) (xs : Array Operand) (ts : Array TypeId) (vs : Array Value) (ho : o.op = .call { callee := .value (.func f), args := xs, argTypes := ts }) (hx : xs.map a.eval = vs)
    (hf : ∀ (args : Array Value) (w : World), (callFunc f args).run Try.prog w = .ok (.enter f args) w)
    (h : Calls Try.prog f vs w fun e w' => ∃ r, e = .returned r ∧ K (a.put o.dst r) w') : o.wp Try.prog a w K Q := by
  obtain ⟨dst, op, ty, po, af, gd⟩ := o
  simp only at ho
  subst ho
  unfold Oper.wp
  rw [execOp_call_go, hf, hx]
  simp only [Array.empty_append, Array.append_empty]
  refine h.mono ?_
  rintro e w' ⟨r, rfl, hk⟩
  exact hk
theorem ob_add (x y : Operand) {u v : Int} (ho : o.op = .binOp .add 3 x y 3) (hx : a.eval x = .int .i64 u) (hy : a.eval y = .int .i64 v) (hb : -1000000000000000 ≤ u + v ∧ u + v ≤ 1000000000000000)
    (h : K (a.put o.dst (.int .i64 (u + v))) w) : o.wp Try.prog a w K Q := by
  have hw : IntKind.i64.wrap (u + v) = u + v := IntWalk.i64_in _ (by omega)
  unfold Oper.wp execOp
  simp only [ho, hx, hy, Sem.run_bind, Sem.run_pure, Result.andThen_ok, eqGuard_add, binOp_add, Op.intArith, hw]
  exact h
theorem ob_sub (x y : Operand) {u v : Int} (ho : o.op = .binOp .sub 3 x y 3) (hx : a.eval x = .int .i64 u) (hy : a.eval y = .int .i64 v) (hb : -1000000000000000 ≤ u - v ∧ u - v ≤ 1000000000000000)
    (h : K (a.put o.dst (.int .i64 (u - v))) w) : o.wp Try.prog a w K Q := by
  have hw : IntKind.i64.wrap (u - v) = u - v := IntWalk.i64_in _ (by omega)
  unfold Oper.wp execOp
  simp only [ho, hx, hy, Sem.run_bind, Sem.run_pure, Result.andThen_ok, eqGuard_sub, binOp_sub, Op.intArith, hw]
  exact h
theorem ob_mul (x y : Operand) {u v : Int} (ho : o.op = .binOp .mul 3 x y 3) (hx : a.eval x = .int .i64 u) (hy : a.eval y = .int .i64 v) (hb : -1000000000000000 ≤ u * v ∧ u * v ≤ 1000000000000000)
    (h : K (a.put o.dst (.int .i64 (u * v))) w) : o.wp Try.prog a w K Q := by
  have hw : IntKind.i64.wrap (u * v) = u * v := IntWalk.i64_in _ (by omega)
  unfold Oper.wp execOp
  simp only [ho, hx, hy, Sem.run_bind, Sem.run_pure, Result.andThen_ok, eqGuard_mul, binOp_mul, Op.intArith, hw]
  exact h
theorem ob_rem (x y : Operand) {u v : Int} (ho : o.op = .binOp .rem 3 x y 3) (hx : a.eval x = .int .i64 u) (hy : a.eval y = .int .i64 v) (h0 : 0 ≤ u) (h1 : 1 ≤ v)
    (h : K (a.put o.dst (.int .i64 (u % v))) w) : o.wp Try.prog a w K Q := by
  have hr : (binOp .rem 3 (.int .i64 u) (.int .i64 v)).run Try.prog w = .ok (.int .i64 (u % v)) w := by
    have hv : ¬ v = 0 := by omega
    have e : u.tmod v = u % v := Int.tmod_eq_emod_of_nonneg h0
    simp [go_sem, hv, e]
  unfold Oper.wp execOp
  simp only [ho, hx, hy, Sem.run_bind, Sem.run_pure, Result.andThen_ok, eqGuard_rem, hr]
  exact h
theorem ob_quo (x y : Operand) {u v : Int} (ho : o.op = .binOp .quo 3 x y 3) (hx : a.eval x = .int .i64 u) (hy : a.eval y = .int .i64 v) (h0 : 0 ≤ u) (h1 : 1 ≤ v) (h2 : u ≤ 1000000000000000)
    (h : K (a.put o.dst (.int .i64 (u / v))) w) : o.wp Try.prog a w K Q := by
  have hr : (binOp .quo 3 (.int .i64 u) (.int .i64 v)).run Try.prog w = .ok (.int .i64 (u / v)) w := by
    have hv : ¬ v = 0 := by omega
    have e : u.tdiv v = u / v := Int.tdiv_eq_ediv_of_nonneg h0
    have b1 : 0 ≤ u / v := Int.ediv_nonneg h0 (by omega)
    have b2 : u / v ≤ u := Int.ediv_le_self _ h0
    have hw : IntKind.i64.wrap (u / v) = u / v := IntWalk.i64_in _ (by omega)
    simp [go_sem, hv, e, hw]
  unfold Oper.wp execOp
  simp only [ho, hx, hy, Sem.run_bind, Sem.run_pure, Result.andThen_ok, eqGuard_quo, hr]
  exact h
theorem ob_conv (x : Operand) {u : Int} (ho : o.op = .convert 5 3 x) (hx : a.eval x = .int .u8 u) (h0 : 0 ≤ u ∧ u ≤ 255) (h : K (a.put o.dst (.int .i64 u)) w) : o.wp Try.prog a w K Q := by
  have hr : (convert 5 3 (.int .u8 u)).run Try.prog w = .ok (.int .i64 u) w := by
    have hw : IntKind.i64.wrap u = u := IntWalk.i64_in _ (by omega)
    simp [go_sem, hw]
  unfold Oper.wp execOp
  simp only [ho, hx, Sem.run_bind, Sem.run_pure, Result.andThen_ok, hr]
  exact h
theorem ob_index (x y : Operand) (t : TypeId) (ht : t = 22 ∨ t = 23) {b off n c : Nat} {u : Int} (ho : o.op = .indexAddr t x y) (hx : a.eval x = .slice (some ⟨b, off, none⟩) n c) (hy : a.eval y = .int .i64 u) (h0 : 0 ≤ u) (h1 : u < n)
    (h : K (a.put o.dst (.pointer (some ⟨b, off + u.toNat, none⟩))) w) : o.wp Try.prog a w K Q := by
  have hr : (Instr.indexAt t (.slice (some ⟨b, off, none⟩) n c) (.int .i64 u)).run Try.prog w = .ok (.pointer (some ⟨b, off + u.toNat, none⟩)) w := by rcases ht with rfl | rfl <;> simp [go_sem, h0, h1]
  unfold Oper.wp execOp
  simp only [ho, hx, hy, Sem.run_bind, Sem.run_pure, Result.andThen_ok, hr]
  exact h
theorem ob_build2 (x0 x1 : Operand) {u0 u1 : Int} (ho : o.op = .buildSlice 23 2 #[(0, x0), (1, x1)]) (h0 : a.eval x0 = .int .i64 u0) (h1 : a.eval x1 = .int .i64 u1)
    (h : K (a.put o.dst (.slice (some ⟨w.heap.size, 0, none⟩) 2 2)) (w.alloc (.cells #[.int .i64 u0, .int .i64 u1] 3))) : o.wp Try.prog a w K Q := by
  have hr : (Instr.buildSlice 23 2 #[(0, .int .i64 u0), (1, .int .i64 u1)]).run Try.prog w = .ok (.slice (some ⟨w.heap.size, 0, none⟩) 2 2) (w.alloc (.cells #[.int .i64 u0, .int .i64 u1] 3)) := by simp [go_sem]
  unfold Oper.wp execOp
  simp only [ho, Sem.run_bind, Sem.run_pure, Result.andThen_ok, List.map_toArray, List.map_cons, List.map_nil, h0, h1, hr]
  exact h
theorem ob_build3 (x0 x1 x2 : Operand) {u0 u1 u2 : Int} (ho : o.op = .buildSlice 23 3 #[(0, x0), (1, x1), (2, x2)]) (h0 : a.eval x0 = .int .i64 u0) (h1 : a.eval x1 = .int .i64 u1) (h2 : a.eval x2 = .int .i64 u2)
    (h : K (a.put o.dst (.slice (some ⟨w.heap.size, 0, none⟩) 3 3)) (w.alloc (.cells #[.int .i64 u0, .int .i64 u1, .int .i64 u2] 3))) : o.wp Try.prog a w K Q := by
  have hr : (Instr.buildSlice 23 3 #[(0, .int .i64 u0), (1, .int .i64 u1), (2, .int .i64 u2)]).run Try.prog w = .ok (.slice (some ⟨w.heap.size, 0, none⟩) 3 3) (w.alloc (.cells #[.int .i64 u0, .int .i64 u1, .int .i64 u2] 3)) := by simp [go_sem]
  unfold Oper.wp execOp
  simp only [ho, Sem.run_bind, Sem.run_pure, Result.andThen_ok, List.map_toArray, List.map_cons, List.map_nil, h0, h1, h2, hr]
  exact h
theorem ob_build4 (x0 x1 x2 x3 : Operand) {u0 u1 u2 u3 : Int} (ho : o.op = .buildSlice 23 4 #[(0, x0), (1, x1), (2, x2), (3, x3)]) (h0 : a.eval x0 = .int .i64 u0) (h1 : a.eval x1 = .int .i64 u1) (h2 : a.eval x2 = .int .i64 u2) (h3 : a.eval x3 = .int .i64 u3)
    (h : K (a.put o.dst (.slice (some ⟨w.heap.size, 0, none⟩) 4 4)) (w.alloc (.cells #[.int .i64 u0, .int .i64 u1, .int .i64 u2, .int .i64 u3] 3))) : o.wp Try.prog a w K Q := by
  have hr : (Instr.buildSlice 23 4 #[(0, .int .i64 u0), (1, .int .i64 u1), (2, .int .i64 u2), (3, .int .i64 u3)]).run Try.prog w = .ok (.slice (some ⟨w.heap.size, 0, none⟩) 4 4) (w.alloc (.cells #[.int .i64 u0, .int .i64 u1, .int .i64 u2, .int .i64 u3] 3)) := by simp [go_sem]
  unfold Oper.wp execOp
  simp only [ho, Sem.run_bind, Sem.run_pure, Result.andThen_ok, List.map_toArray, List.map_cons, List.map_nil, h0, h1, h2, h3, hr]
  exact h
theorem ob_build5 (x0 x1 x2 x3 x4 : Operand) {u0 u1 u2 u3 u4 : Int} (ho : o.op = .buildSlice 23 5 #[(0, x0), (1, x1), (2, x2), (3, x3), (4, x4)]) (h0 : a.eval x0 = .int .i64 u0) (h1 : a.eval x1 = .int .i64 u1) (h2 : a.eval x2 = .int .i64 u2) (h3 : a.eval x3 = .int .i64 u3) (h4 : a.eval x4 = .int .i64 u4)
    (h : K (a.put o.dst (.slice (some ⟨w.heap.size, 0, none⟩) 5 5)) (w.alloc (.cells #[.int .i64 u0, .int .i64 u1, .int .i64 u2, .int .i64 u3, .int .i64 u4] 3))) : o.wp Try.prog a w K Q := by
  have hr : (Instr.buildSlice 23 5 #[(0, .int .i64 u0), (1, .int .i64 u1), (2, .int .i64 u2), (3, .int .i64 u3), (4, .int .i64 u4)]).run Try.prog w = .ok (.slice (some ⟨w.heap.size, 0, none⟩) 5 5) (w.alloc (.cells #[.int .i64 u0, .int .i64 u1, .int .i64 u2, .int .i64 u3, .int .i64 u4] 3)) := by simp [go_sem]
  unfold Oper.wp execOp
  simp only [ho, Sem.run_bind, Sem.run_pure, Result.andThen_ok, List.map_toArray, List.map_cons, List.map_nil, h0, h1, h2, h3, h4, hr]
  exact h
theorem ob_build6 (x0 x1 x2 x3 x4 x5 : Operand) {u0 u1 u2 u3 u4 u5 : Int} (ho : o.op = .buildSlice 23 6 #[(0, x0), (1, x1), (2, x2), (3, x3), (4, x4), (5, x5)]) (h0 : a.eval x0 = .int .i64 u0) (h1 : a.eval x1 = .int .i64 u1) (h2 : a.eval x2 = .int .i64 u2) (h3 : a.eval x3 = .int .i64 u3) (h4 : a.eval x4 = .int .i64 u4) (h5 : a.eval x5 = .int .i64 u5)
    (h : K (a.put o.dst (.slice (some ⟨w.heap.size, 0, none⟩) 6 6)) (w.alloc (.cells #[.int .i64 u0, .int .i64 u1, .int .i64 u2, .int .i64 u3, .int .i64 u4, .int .i64 u5] 3))) : o.wp Try.prog a w K Q := by
  have hr : (Instr.buildSlice 23 6 #[(0, .int .i64 u0), (1, .int .i64 u1), (2, .int .i64 u2), (3, .int .i64 u3), (4, .int .i64 u4), (5, .int .i64 u5)]).run Try.prog w = .ok (.slice (some ⟨w.heap.size, 0, none⟩) 6 6) (w.alloc (.cells #[.int .i64 u0, .int .i64 u1, .int .i64 u2, .int .i64 u3, .int .i64 u4, .int .i64 u5] 3)) := by simp [go_sem]
  unfold Oper.wp execOp
  simp only [ho, Sem.run_bind, Sem.run_pure, Result.andThen_ok, List.map_toArray, List.map_cons, List.map_nil, h0, h1, h2, h3, h4, h5, hr]
  exact h
theorem ob_build7 (x0 x1 x2 x3 x4 x5 x6 : Operand) {u0 u1 u2 u3 u4 u5 u6 : Int} (ho : o.op = .buildSlice 23 7 #[(0, x0), (1, x1), (2, x2), (3, x3), (4, x4), (5, x5), (6, x6)]) (h0 : a.eval x0 = .int .i64 u0) (h1 : a.eval x1 = .int .i64 u1) (h2 : a.eval x2 = .int .i64 u2) (h3 : a.eval x3 = .int .i64 u3) (h4 : a.eval x4 = .int .i64 u4) (h5 : a.eval x5 = .int .i64 u5) (h6 : a.eval x6 = .int .i64 u6)
    (h : K (a.put o.dst (.slice (some ⟨w.heap.size, 0, none⟩) 7 7)) (w.alloc (.cells #[.int .i64 u0, .int .i64 u1, .int .i64 u2, .int .i64 u3, .int .i64 u4, .int .i64 u5, .int .i64 u6] 3))) : o.wp Try.prog a w K Q := by
  have hr : (Instr.buildSlice 23 7 #[(0, .int .i64 u0), (1, .int .i64 u1), (2, .int .i64 u2), (3, .int .i64 u3), (4, .int .i64 u4), (5, .int .i64 u5), (6, .int .i64 u6)]).run Try.prog w = .ok (.slice (some ⟨w.heap.size, 0, none⟩) 7 7) (w.alloc (.cells #[.int .i64 u0, .int .i64 u1, .int .i64 u2, .int .i64 u3, .int .i64 u4, .int .i64 u5, .int .i64 u6] 3)) := by simp [go_sem]
  unfold Oper.wp execOp
  simp only [ho, Sem.run_bind, Sem.run_pure, Result.andThen_ok, List.map_toArray, List.map_cons, List.map_nil, h0, h1, h2, h3, h4, h5, h6, hr]
  exact h
theorem ob_build8 (x0 x1 x2 x3 x4 x5 x6 x7 : Operand) {u0 u1 u2 u3 u4 u5 u6 u7 : Int} (ho : o.op = .buildSlice 23 8 #[(0, x0), (1, x1), (2, x2), (3, x3), (4, x4), (5, x5), (6, x6), (7, x7)]) (h0 : a.eval x0 = .int .i64 u0) (h1 : a.eval x1 = .int .i64 u1) (h2 : a.eval x2 = .int .i64 u2) (h3 : a.eval x3 = .int .i64 u3) (h4 : a.eval x4 = .int .i64 u4) (h5 : a.eval x5 = .int .i64 u5) (h6 : a.eval x6 = .int .i64 u6) (h7 : a.eval x7 = .int .i64 u7)
    (h : K (a.put o.dst (.slice (some ⟨w.heap.size, 0, none⟩) 8 8)) (w.alloc (.cells #[.int .i64 u0, .int .i64 u1, .int .i64 u2, .int .i64 u3, .int .i64 u4, .int .i64 u5, .int .i64 u6, .int .i64 u7] 3))) : o.wp Try.prog a w K Q := by
  have hr : (Instr.buildSlice 23 8 #[(0, .int .i64 u0), (1, .int .i64 u1), (2, .int .i64 u2), (3, .int .i64 u3), (4, .int .i64 u4), (5, .int .i64 u5), (6, .int .i64 u6), (7, .int .i64 u7)]).run Try.prog w = .ok (.slice (some ⟨w.heap.size, 0, none⟩) 8 8) (w.alloc (.cells #[.int .i64 u0, .int .i64 u1, .int .i64 u2, .int .i64 u3, .int .i64 u4, .int .i64 u5, .int .i64 u6, .int .i64 u7] 3)) := by simp [go_sem]
  unfold Oper.wp execOp
  simp only [ho, Sem.run_bind, Sem.run_pure, Result.andThen_ok, List.map_toArray, List.map_cons, List.map_nil, h0, h1, h2, h3, h4, h5, h6, h7, hr]
  exact h
theorem ob_build9 (x0 x1 x2 x3 x4 x5 x6 x7 x8 : Operand) {u0 u1 u2 u3 u4 u5 u6 u7 u8 : Int} (ho : o.op = .buildSlice 23 9 #[(0, x0), (1, x1), (2, x2), (3, x3), (4, x4), (5, x5), (6, x6), (7, x7), (8, x8)]) (h0 : a.eval x0 = .int .i64 u0) (h1 : a.eval x1 = .int .i64 u1) (h2 : a.eval x2 = .int .i64 u2) (h3 : a.eval x3 = .int .i64 u3) (h4 : a.eval x4 = .int .i64 u4) (h5 : a.eval x5 = .int .i64 u5) (h6 : a.eval x6 = .int .i64 u6) (h7 : a.eval x7 = .int .i64 u7) (h8 : a.eval x8 = .int .i64 u8)
    (h : K (a.put o.dst (.slice (some ⟨w.heap.size, 0, none⟩) 9 9)) (w.alloc (.cells #[.int .i64 u0, .int .i64 u1, .int .i64 u2, .int .i64 u3, .int .i64 u4, .int .i64 u5, .int .i64 u6, .int .i64 u7, .int .i64 u8] 3))) : o.wp Try.prog a w K Q := by
  have hr : (Instr.buildSlice 23 9 #[(0, .int .i64 u0), (1, .int .i64 u1), (2, .int .i64 u2), (3, .int .i64 u3), (4, .int .i64 u4), (5, .int .i64 u5), (6, .int .i64 u6), (7, .int .i64 u7), (8, .int .i64 u8)]).run Try.prog w = .ok (.slice (some ⟨w.heap.size, 0, none⟩) 9 9) (w.alloc (.cells #[.int .i64 u0, .int .i64 u1, .int .i64 u2, .int .i64 u3, .int .i64 u4, .int .i64 u5, .int .i64 u6, .int .i64 u7, .int .i64 u8] 3)) := by simp [go_sem]
  unfold Oper.wp execOp
  simp only [ho, Sem.run_bind, Sem.run_pure, Result.andThen_ok, List.map_toArray, List.map_cons, List.map_nil, h0, h1, h2, h3, h4, h5, h6, h7, h8, hr]
  exact h
end
end Go.Proofs.Ytkcabllnlbcgdaa
