/-
  Instructions: their lengths, their reading, by both packages. No program's law is walked here.
-/
import Derived.Test.YtgedfcccflobmaaBytes
import Derived.Deep.WholeRow
import Derived.Laws.Rows
namespace Go.Proofs.Ytgedfcccflobmaa
open Go.RowKit
set_option linter.unusedVariables false
set_option linter.unusedSimpArgs false
/-- The length of an instruction with an operation. -/
def olen (op : Int) : Int := if inB op 0 15 then (if op = 1 then 2 else if op = 0 ∨ op = 8 ∨ op = 9 ∨ op = 14 ∨ op = 15 then 1 else 3) else 0
theorem wpList_store_newO {ops : Array Oper} {rest : List Oper} {op : Oper} {a : Act} {Q : Exit → Act → World → Prop} (hgd : op.guard = none) (ty : TypeId) (x y : Operand) (ho : op.op = .store ty x y)
    (w : World) (c c' : Array Value) (hx : a.eval x = .pointer (some ⟨w.heap.size, 0, none⟩)) (hy : a.eval y = .agg c') (hi : (Try.prog.info? ty).map (·.size) = some c'.size) (hz : c.size = c'.size) (h1 : c'.all (·.oneCell') = true)
    (h : wpList Try.prog ops Q rest (a.put op.dst undef) (w.alloc (.cells c' ty))) : wpList Try.prog ops Q (op :: rest) a (w.alloc (.cells c ty)) := by
  refine wpList_plain hgd fun K hK => ?_
  unfold Oper.wp execOp
  simp only [ho, hx, hy, Sem.run_bind, Sem.run_pure, Result.andThen_ok, run_storeAt_new w ty c c' hi hz h1]
  exact hK _ _ h
theorem at_storeO {P : Program} {ops : Array Oper} {rest : List Oper} {op : Oper} {a : Act} {w : World} {Q : Exit → Act → World → Prop} {ty : TypeId} {x y : Operand} (ho : op.op = .store ty x y) (h : wpList P ops Q (op :: rest) a w) : wpList P ops Q (op :: rest) a w := h
theorem wpList_buildO {ops : Array Oper} {rest : List Oper} {op : Oper} {a : Act} {w : World} {Q : Exit → Act → World → Prop} (hgd : op.guard = none) (ty : TypeId) (fs : Array (Nat × Operand)) (ho : op.op = .build ty fs) (v : Value)
    (hr : (Instr.build ty (fs.map fun p => (p.1, a.eval p.2))).run Try.prog w = .ok v w) (h : wpList Try.prog ops Q rest (a.put op.dst v) w) : wpList Try.prog ops Q (op :: rest) a w := by
  refine wpList_plain hgd fun K hK => ?_
  unfold Oper.wp execOp
  simp only [ho, Sem.run_bind, Sem.run_pure]
  rw [hr]
  simp only [Result.andThen_ok]
  exact hK _ _ h
def tabA : Array Value := #[.string ⟨#[119, 97, 105, 116]⟩, .int .i64 1, .string ⟨#[115, 101, 116]⟩, .int .i64 2, .string ⟨#[108, 111, 97, 100]⟩, .int .i64 3, .string ⟨#[115, 116, 111, 114, 101]⟩, .int .i64 3, .string ⟨#[97, 100, 100]⟩, .int .i64 3, .string ⟨#[115, 117, 98]⟩, .int .i64 3, .string ⟨#[97, 110, 100]⟩, .int .i64 3, .string ⟨#[120, 111, 114]⟩, .int .i64 3, .string ⟨#[108, 101, 102, 116]⟩, .int .i64 1, .string ⟨#[114, 105, 103, 104, 116]⟩, .int .i64 1, .string ⟨#[106, 117, 109, 112]⟩, .int .i64 3, .string ⟨#[122, 101, 114, 111]⟩, .int .i64 3, .string ⟨#[99, 97, 114, 114, 121]⟩, .int .i64 3, .string ⟨#[99, 97, 108, 108]⟩, .int .i64 3, .string ⟨#[114, 101, 116, 117, 114, 110]⟩, .int .i64 1, .string ⟨#[115, 116, 111, 112]⟩, .int .i64 1]
set_option maxRecDepth 20000 in
theorem tab_build (w : World) : (Instr.build 118 #[(0, .agg #[.string ⟨#[119, 97, 105, 116]⟩, .int .i64 1]), (1, .agg #[.string ⟨#[115, 101, 116]⟩, .int .i64 2]), (2, .agg #[.string ⟨#[108, 111, 97, 100]⟩, .int .i64 3]), (3, .agg #[.string ⟨#[115, 116, 111, 114, 101]⟩, .int .i64 3]), (4, .agg #[.string ⟨#[97, 100, 100]⟩, .int .i64 3]), (5, .agg #[.string ⟨#[115, 117, 98]⟩, .int .i64 3]), (6, .agg #[.string ⟨#[97, 110, 100]⟩, .int .i64 3]), (7, .agg #[.string ⟨#[120, 111, 114]⟩, .int .i64 3]), (8, .agg #[.string ⟨#[108, 101, 102, 116]⟩, .int .i64 1]), (9, .agg #[.string ⟨#[114, 105, 103, 104, 116]⟩, .int .i64 1]), (10, .agg #[.string ⟨#[106, 117, 109, 112]⟩, .int .i64 3]), (11, .agg #[.string ⟨#[122, 101, 114, 111]⟩, .int .i64 3]), (12, .agg #[.string ⟨#[99, 97, 114, 114, 121]⟩, .int .i64 3]), (13, .agg #[.string ⟨#[99, 97, 108, 108]⟩, .int .i64 3]), (14, .agg #[.string ⟨#[114, 101, 116, 117, 114, 110]⟩, .int .i64 1]), (15, .agg #[.string ⟨#[115, 116, 111, 112]⟩, .int .i64 1])]).run Try.prog w = .ok (.agg tabA) w := by kernel_rfl
set_option maxRecDepth 20000 in
theorem tab_at0 (w : World) : (Instr.index 118 (.agg tabA) (.int .i64 0)).run Try.prog w = .ok (.agg #[.string ⟨#[119, 97, 105, 116]⟩, .int .i64 1]) w := by kernel_rfl
set_option maxRecDepth 20000 in
theorem tab_at1 (w : World) : (Instr.index 118 (.agg tabA) (.int .i64 1)).run Try.prog w = .ok (.agg #[.string ⟨#[115, 101, 116]⟩, .int .i64 2]) w := by kernel_rfl
set_option maxRecDepth 20000 in
theorem tab_at2 (w : World) : (Instr.index 118 (.agg tabA) (.int .i64 2)).run Try.prog w = .ok (.agg #[.string ⟨#[108, 111, 97, 100]⟩, .int .i64 3]) w := by kernel_rfl
set_option maxRecDepth 20000 in
theorem tab_at3 (w : World) : (Instr.index 118 (.agg tabA) (.int .i64 3)).run Try.prog w = .ok (.agg #[.string ⟨#[115, 116, 111, 114, 101]⟩, .int .i64 3]) w := by kernel_rfl
set_option maxRecDepth 20000 in
theorem tab_at4 (w : World) : (Instr.index 118 (.agg tabA) (.int .i64 4)).run Try.prog w = .ok (.agg #[.string ⟨#[97, 100, 100]⟩, .int .i64 3]) w := by kernel_rfl
set_option maxRecDepth 20000 in
theorem tab_at5 (w : World) : (Instr.index 118 (.agg tabA) (.int .i64 5)).run Try.prog w = .ok (.agg #[.string ⟨#[115, 117, 98]⟩, .int .i64 3]) w := by kernel_rfl
set_option maxRecDepth 20000 in
theorem tab_at6 (w : World) : (Instr.index 118 (.agg tabA) (.int .i64 6)).run Try.prog w = .ok (.agg #[.string ⟨#[97, 110, 100]⟩, .int .i64 3]) w := by kernel_rfl
set_option maxRecDepth 20000 in
theorem tab_at7 (w : World) : (Instr.index 118 (.agg tabA) (.int .i64 7)).run Try.prog w = .ok (.agg #[.string ⟨#[120, 111, 114]⟩, .int .i64 3]) w := by kernel_rfl
set_option maxRecDepth 20000 in
theorem tab_at8 (w : World) : (Instr.index 118 (.agg tabA) (.int .i64 8)).run Try.prog w = .ok (.agg #[.string ⟨#[108, 101, 102, 116]⟩, .int .i64 1]) w := by kernel_rfl
set_option maxRecDepth 20000 in
theorem tab_at9 (w : World) : (Instr.index 118 (.agg tabA) (.int .i64 9)).run Try.prog w = .ok (.agg #[.string ⟨#[114, 105, 103, 104, 116]⟩, .int .i64 1]) w := by kernel_rfl
set_option maxRecDepth 20000 in
theorem tab_at10 (w : World) : (Instr.index 118 (.agg tabA) (.int .i64 10)).run Try.prog w = .ok (.agg #[.string ⟨#[106, 117, 109, 112]⟩, .int .i64 3]) w := by kernel_rfl
set_option maxRecDepth 20000 in
theorem tab_at11 (w : World) : (Instr.index 118 (.agg tabA) (.int .i64 11)).run Try.prog w = .ok (.agg #[.string ⟨#[122, 101, 114, 111]⟩, .int .i64 3]) w := by kernel_rfl
set_option maxRecDepth 20000 in
theorem tab_at12 (w : World) : (Instr.index 118 (.agg tabA) (.int .i64 12)).run Try.prog w = .ok (.agg #[.string ⟨#[99, 97, 114, 114, 121]⟩, .int .i64 3]) w := by kernel_rfl
set_option maxRecDepth 20000 in
theorem tab_at13 (w : World) : (Instr.index 118 (.agg tabA) (.int .i64 13)).run Try.prog w = .ok (.agg #[.string ⟨#[99, 97, 108, 108]⟩, .int .i64 3]) w := by kernel_rfl
set_option maxRecDepth 20000 in
theorem tab_at14 (w : World) : (Instr.index 118 (.agg tabA) (.int .i64 14)).run Try.prog w = .ok (.agg #[.string ⟨#[114, 101, 116, 117, 114, 110]⟩, .int .i64 1]) w := by kernel_rfl
set_option maxRecDepth 20000 in
theorem tab_at15 (w : World) : (Instr.index 118 (.agg tabA) (.int .i64 15)).run Try.prog w = .ok (.agg #[.string ⟨#[115, 116, 111, 112]⟩, .int .i64 1]) w := by kernel_rfl
set_option maxRecDepth 20000 in
set_option maxHeartbeats 1000000 in
theorem orderTable_any (w : World) : Calls Try.prog 96 #[] w fun e w' => e = .returned (.agg tabA) ∧ Below w.heap.size w w' := by
  have hb := Lib.hid tab_build
  go_enter Try.func96, Try.ntmps96
  go_wp2_with (first | (refine wpList_buildO rfl 118 _ rfl (.agg tabA) (hb.out _) ?_) | (refine at_storeO (ty := 118) rfl ?_; refine wpList_store_newO rfl 118 _ _ rfl w _ tabA rfl rfl (by kernel_rfl) (by kernel_rfl) (by kernel_rfl) ?_))
  refine bodyPost_ret (v := .agg tabA) ?_ rfl ⟨rfl, (Below.refl _ _).alloc (Nat.le_refl _) _⟩
  exact results_cell_row Try.results96 _ _ w.heap.size 118 tabA (0, 0) _ rfl (heap_alloc_new w _) Try.underlying118 rfl (by kernel_rfl)
theorem op16 {op : Int} (h : inB op 0 15 = true) : op = 0 ∨ op = 1 ∨ op = 2 ∨ op = 3 ∨ op = 4 ∨ op = 5 ∨ op = 6 ∨ op = 7 ∨ op = 8 ∨ op = 9 ∨ op = 10 ∨ op = 11 ∨ op = 12 ∨ op = 13 ∨ op = 14 ∨ op = 15 := by
  have := inB_iff.1 h; omega
theorem olen_in (op : Int) : olen op = 0 ∨ olen op = 1 ∨ olen op = 2 ∨ olen op = 3 := by
  unfold olen
  split
  · split
    · simp
    · split <;> simp
  · simp
theorem row_len (s : ByteArray) (l : Int) (W : World) : (Instr.field 117 (.agg #[.string s, .int .i64 l]) 1).run Try.prog W = .ok (.int .i64 l) W := by kernel_rfl
set_option maxRecDepth 20000 in
set_option maxHeartbeats 4000000 in
theorem orderLength_impl (op : Int) (w : World) : Calls Try.prog 76 #[.int .i64 op] w fun e w' => e = .returned (.int .i64 (olen op)) ∧ Below w.heap.size w w' := by
  cases h : inB op 0 15
  · rw [show olen op = 0 by unfold olen; rw [h]; rfl]
    go_enter Try.func76, Try.ntmps76
    go_wp2_with (go_at_call 30; refine (within_any _ _ _ _).mono ?_; rintro e w' ⟨rfl, rfl⟩; rw [h])
    go_ret
    exact ⟨rfl, Below.refl _ _⟩
  rcases op16 h with rfl | rfl | rfl | rfl | rfl | rfl | rfl | rfl | rfl | rfl | rfl | rfl | rfl | rfl | rfl | rfl
  · have hix := tab_at0
    have hfl := row_len
    go_enter Try.func76, Try.ntmps76
    go_wp2_with (first | (go_at_call 30; refine (within_any _ _ _ _).mono ?_; rintro e w' ⟨rfl, rfl⟩; rw [h]) | (go_at_call 96; refine (orderTable_any _).mono ?_; rintro e w5 ⟨rfl, b5⟩))
    go_ret
    exact ⟨rfl, b5⟩
  · have hix := tab_at1
    have hfl := row_len
    go_enter Try.func76, Try.ntmps76
    go_wp2_with (first | (go_at_call 30; refine (within_any _ _ _ _).mono ?_; rintro e w' ⟨rfl, rfl⟩; rw [h]) | (go_at_call 96; refine (orderTable_any _).mono ?_; rintro e w5 ⟨rfl, b5⟩))
    go_ret
    exact ⟨rfl, b5⟩
  · have hix := tab_at2
    have hfl := row_len
    go_enter Try.func76, Try.ntmps76
    go_wp2_with (first | (go_at_call 30; refine (within_any _ _ _ _).mono ?_; rintro e w' ⟨rfl, rfl⟩; rw [h]) | (go_at_call 96; refine (orderTable_any _).mono ?_; rintro e w5 ⟨rfl, b5⟩))
    go_ret
    exact ⟨rfl, b5⟩
  · have hix := tab_at3
    have hfl := row_len
    go_enter Try.func76, Try.ntmps76
    go_wp2_with (first | (go_at_call 30; refine (within_any _ _ _ _).mono ?_; rintro e w' ⟨rfl, rfl⟩; rw [h]) | (go_at_call 96; refine (orderTable_any _).mono ?_; rintro e w5 ⟨rfl, b5⟩))
    go_ret
    exact ⟨rfl, b5⟩
  · have hix := tab_at4
    have hfl := row_len
    go_enter Try.func76, Try.ntmps76
    go_wp2_with (first | (go_at_call 30; refine (within_any _ _ _ _).mono ?_; rintro e w' ⟨rfl, rfl⟩; rw [h]) | (go_at_call 96; refine (orderTable_any _).mono ?_; rintro e w5 ⟨rfl, b5⟩))
    go_ret
    exact ⟨rfl, b5⟩
  · have hix := tab_at5
    have hfl := row_len
    go_enter Try.func76, Try.ntmps76
    go_wp2_with (first | (go_at_call 30; refine (within_any _ _ _ _).mono ?_; rintro e w' ⟨rfl, rfl⟩; rw [h]) | (go_at_call 96; refine (orderTable_any _).mono ?_; rintro e w5 ⟨rfl, b5⟩))
    go_ret
    exact ⟨rfl, b5⟩
  · have hix := tab_at6
    have hfl := row_len
    go_enter Try.func76, Try.ntmps76
    go_wp2_with (first | (go_at_call 30; refine (within_any _ _ _ _).mono ?_; rintro e w' ⟨rfl, rfl⟩; rw [h]) | (go_at_call 96; refine (orderTable_any _).mono ?_; rintro e w5 ⟨rfl, b5⟩))
    go_ret
    exact ⟨rfl, b5⟩
  · have hix := tab_at7
    have hfl := row_len
    go_enter Try.func76, Try.ntmps76
    go_wp2_with (first | (go_at_call 30; refine (within_any _ _ _ _).mono ?_; rintro e w' ⟨rfl, rfl⟩; rw [h]) | (go_at_call 96; refine (orderTable_any _).mono ?_; rintro e w5 ⟨rfl, b5⟩))
    go_ret
    exact ⟨rfl, b5⟩
  · have hix := tab_at8
    have hfl := row_len
    go_enter Try.func76, Try.ntmps76
    go_wp2_with (first | (go_at_call 30; refine (within_any _ _ _ _).mono ?_; rintro e w' ⟨rfl, rfl⟩; rw [h]) | (go_at_call 96; refine (orderTable_any _).mono ?_; rintro e w5 ⟨rfl, b5⟩))
    go_ret
    exact ⟨rfl, b5⟩
  · have hix := tab_at9
    have hfl := row_len
    go_enter Try.func76, Try.ntmps76
    go_wp2_with (first | (go_at_call 30; refine (within_any _ _ _ _).mono ?_; rintro e w' ⟨rfl, rfl⟩; rw [h]) | (go_at_call 96; refine (orderTable_any _).mono ?_; rintro e w5 ⟨rfl, b5⟩))
    go_ret
    exact ⟨rfl, b5⟩
  · have hix := tab_at10
    have hfl := row_len
    go_enter Try.func76, Try.ntmps76
    go_wp2_with (first | (go_at_call 30; refine (within_any _ _ _ _).mono ?_; rintro e w' ⟨rfl, rfl⟩; rw [h]) | (go_at_call 96; refine (orderTable_any _).mono ?_; rintro e w5 ⟨rfl, b5⟩))
    go_ret
    exact ⟨rfl, b5⟩
  · have hix := tab_at11
    have hfl := row_len
    go_enter Try.func76, Try.ntmps76
    go_wp2_with (first | (go_at_call 30; refine (within_any _ _ _ _).mono ?_; rintro e w' ⟨rfl, rfl⟩; rw [h]) | (go_at_call 96; refine (orderTable_any _).mono ?_; rintro e w5 ⟨rfl, b5⟩))
    go_ret
    exact ⟨rfl, b5⟩
  · have hix := tab_at12
    have hfl := row_len
    go_enter Try.func76, Try.ntmps76
    go_wp2_with (first | (go_at_call 30; refine (within_any _ _ _ _).mono ?_; rintro e w' ⟨rfl, rfl⟩; rw [h]) | (go_at_call 96; refine (orderTable_any _).mono ?_; rintro e w5 ⟨rfl, b5⟩))
    go_ret
    exact ⟨rfl, b5⟩
  · have hix := tab_at13
    have hfl := row_len
    go_enter Try.func76, Try.ntmps76
    go_wp2_with (first | (go_at_call 30; refine (within_any _ _ _ _).mono ?_; rintro e w' ⟨rfl, rfl⟩; rw [h]) | (go_at_call 96; refine (orderTable_any _).mono ?_; rintro e w5 ⟨rfl, b5⟩))
    go_ret
    exact ⟨rfl, b5⟩
  · have hix := tab_at14
    have hfl := row_len
    go_enter Try.func76, Try.ntmps76
    go_wp2_with (first | (go_at_call 30; refine (within_any _ _ _ _).mono ?_; rintro e w' ⟨rfl, rfl⟩; rw [h]) | (go_at_call 96; refine (orderTable_any _).mono ?_; rintro e w5 ⟨rfl, b5⟩))
    go_ret
    exact ⟨rfl, b5⟩
  · have hix := tab_at15
    have hfl := row_len
    go_enter Try.func76, Try.ntmps76
    go_wp2_with (first | (go_at_call 30; refine (within_any _ _ _ _).mono ?_; rintro e w' ⟨rfl, rfl⟩; rw [h]) | (go_at_call 96; refine (orderTable_any _).mono ?_; rintro e w5 ⟨rfl, b5⟩))
    go_ret
    exact ⟨rfl, b5⟩
set_option maxRecDepth 20000 in
set_option maxHeartbeats 4000000 in
theorem orderLength_spec (op : Int) (w : World) : Calls Try.prog 84 #[.int .i64 op] w fun e w' => e = .returned (.int .i64 (olen op)) ∧ Below w.heap.size w w' := by
  cases h : inB op 0 15
  · rw [show olen op = 0 by unfold olen; rw [h]; rfl]
    go_enter Try.func84, Try.ntmps84
    go_wp2_with (go_at_call 33; refine (l1In_any _ _ _ _).mono ?_; rintro e w' ⟨rfl, rfl⟩; rw [h])
    go_ret
    exact ⟨rfl, Below.refl _ _⟩
  rcases op16 h with rfl | rfl | rfl | rfl | rfl | rfl | rfl | rfl | rfl | rfl | rfl | rfl | rfl | rfl | rfl | rfl
  all_goals (
    go_enter Try.func84, Try.ntmps84
    go_wp2_with (go_at_call 33; refine (l1In_any _ _ _ _).mono ?_; rintro e w' ⟨rfl, rfl⟩; rw [h])
    go_ret
    exact ⟨rfl, (Below.refl _ _).alloc (Nat.le_refl _) _⟩)
end Go.Proofs.Ytgedfcccflobmaa
