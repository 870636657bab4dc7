/-
  append of one number to a row of the call's own, as one step of a walk; make([]int, 0, n). No condition but that lengths stay in range.
-/
import Derived.Test.YtkcabllnlbcgdaaMem
namespace Go.Proofs.Ytkcabllnlbcgdaa
open Go.RowKit
set_option linter.unusedVariables false
theorem int_info : (Try.prog.info? 3).map (fun i => (i.zero, i.size, i.bytes)) = some (some (.int .i64 0), 1, 8) := by kernel_rfl
theorem push_own {ops : Array Oper} {rest : List Oper} {o : Oper} {a : Act} {Q : Exit → Act → World → Prop} (w : World) (hgd : o.guard = none) (s x : Operand)
    (ho : o.op = .call { callee := .builtin .append, args := #[s, x], argTypes := #[23, 23] })
    (base n c H d : Nat) (A : Option Addr) (xs : List Int) (y : Int) (hs : a.eval s = .slice A n c) (hx : a.eval x = .slice (some ⟨H, 0, none⟩) 1 d)
    (hown : w.ownsRow base 3 1 (.slice A n c) n (iv xs)) (hc : w.cell? ⟨H, 0, none⟩ = some (.int .i64 y)) (hn : n ≤ 1000000000) (hb : base ≤ w.heap.size)
    (h : ∀ A' c' w', w'.ownsRow base 3 1 (.slice A' (n + 1) c') (n + 1) (iv (xs ++ [y])) → Below base w w' → wpList Try.prog ops Q rest (a.put o.dst (.slice A' (n + 1) c')) w') :
    wpList Try.prog ops Q (o :: rest) a w := by
  obtain ⟨i0, hi0, hz0, hz1, hz2⟩ := info_parts int_info
  refine wpList_append_own_at w hgd s x 23 ho base 3 i0 (.int .i64 0) 1 8 Try.underlying23 hi0 hz0 hz1 hz2 rfl (by omega) _ n (iv xs) hs hown ⟨H, 0, none⟩ 1 d [.int .i64 y] hx rfl ?_ ?_ (by simp only [maxLen]; omega) (by omega) hb ?_
  · intro j u hj
    match j, hj with
    | 0, hj => simp at hj; subst hj; simpa [Addr.add] using hc
  · intro u hu; simp at hu; subst hu; rfl
  · intro v' w' ho' hg' _ hat
    obtain ⟨A', c', rfl⟩ := own_form ho'
    rw [← iv_snoc] at ho'
    refine h A' c' w' ho' (below_of_grown hg' hb ?_)
    intro k hk
    rcases own_block hown with ⟨rfl, _, _⟩ | ⟨g, rfl, hbg, _⟩
    · simp [Value.ownBlock] at hk
    · simp [Value.ownBlock] at hk; omega
theorem make_own0 {ops : Array Oper} {rest : List Oper} {o : Oper} {a : Act} {Q : Exit → Act → World → Prop} (w : World) (hgd : o.guard = none) (l c : Operand)
    (ho : o.op = Op.makeSlice 23 l c) (n : Nat) (hl : a.eval l = .int .i64 0) (hc : a.eval c = .int .i64 (n : Int)) (hn : n ≤ 1000000000) (base : Nat) (hb : base ≤ w.heap.size)
    (h : ∀ w', w'.ownsRow base 3 1 (.slice (some ⟨w.heap.size, 0, none⟩) 0 n) 0 (iv []) → Below w.heap.size w w' → wpList Try.prog ops Q rest (a.put o.dst (.slice (some ⟨w.heap.size, 0, none⟩) 0 n)) w') :
    wpList Try.prog ops Q (o :: rest) a w := by
  obtain ⟨i0, hi0, hz0, hz1, hz2⟩ := info_parts int_info
  exact wpList_make_own w hgd l c 23 ho base 3 i0 (.int .i64 0) 1 Try.underlying23 hi0 hz0 hz1 .i64 .i64 _ n hl hc rfl (by rw [hz2]; omega) (by simp only [maxLen]; omega) hb
    (fun w' h1 h2 => h w' h1 (below_of_grown h2 (Nat.le_refl _) (by intro k hk; cases hk)))
theorem make_full {ops : Array Oper} {rest : List Oper} {o : Oper} {a : Act} {Q : Exit → Act → World → Prop} (w : World) (hgd : o.guard = none) (l c : Operand)
    (ho : o.op = Op.makeSlice 23 l c) (n : Nat) (hl : a.eval l = .int .i64 (n : Int)) (hc : a.eval c = .int .i64 (n : Int)) (hn : n ≤ 1000000000) (base : Nat) (hb : base ≤ w.heap.size)
    (h : ∀ w', w'.ownsRow base 3 1 (.slice (some ⟨w.heap.size, 0, none⟩) n n) n (iv (List.replicate n 0)) → Below w.heap.size w w' → wpList Try.prog ops Q rest (a.put o.dst (.slice (some ⟨w.heap.size, 0, none⟩) n n)) w') :
    wpList Try.prog ops Q (o :: rest) a w := by
  obtain ⟨i0, hi0, hz0, hz1, hz2⟩ := info_parts int_info
  refine wpList_make_full w hgd l c 23 ho base 3 i0 (.int .i64 0) 1 Try.underlying23 hi0 hz0 hz1 .i64 .i64 _ _ n hl hc rfl rfl (by rw [hz2]; omega) (by simp only [maxLen]; omega) hb ?_
  intro w' h1 h2
  refine h w' ?_ (below_of_grown h2 (Nat.le_refl _) (by intro k hk; cases hk))
  have e : (madeCells (Value.int .i64 0).cells (n * 1)).toList = iv (List.replicate n 0) := by
    rw [Nat.mul_one]
    show (madeCells #[Value.int .i64 0] n).toList = _
    rw [toList_madeCells_one]
    simp [iv]
  rwa [e] at h1
end Go.Proofs.Ytkcabllnlbcgdaa
