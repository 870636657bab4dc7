/-
  What stays behind an append, a store, an alloc; append of one number with what grows told. No program's law is walked here.
-/
import Derived.Test.YtkcabllnlbcgdaaEnv
import Derived.Test.YtkcabllnlbcgdaaPush
namespace Go.Proofs.Ytkcabllnlbcgdaa
open Go.RowKit
set_option linter.unusedVariables false
set_option linter.unusedSimpArgs false
theorem grown_cell {w w' : World} {row : Option Nat} {b o : Nat} {v : Value} (hg : w.grownBy w' row) (hb : b < w.heap.size) (hne : some b ≠ row) (h : w.cell? ⟨b, o, none⟩ = some v) : w'.cell? ⟨b, o, none⟩ = some v :=
  (World.cell?_of_block (hg.block b hb hne)).trans h
/-- append of one number, what grows told. -/
theorem push_own_g {ops : Array Oper} {rest : List Oper} {o : Oper} {a : Act} {Q : Exit → Act → World → Prop} (w : World) (hgd : o.guard = none) (s x : Operand)
    (ho : o.op = .call { callee := .builtin .append, args := #[s, x], argTypes := #[23, 23] })
    (base n c H d : Nat) (A : Option Addr) (xs : List Int) (y : Int) (hs : a.eval s = .slice A n c) (hx : a.eval x = .slice (some ⟨H, 0, none⟩) 1 d)
    (hown : w.ownsRow base 3 1 (.slice A n c) n (iv xs)) (hc : w.cell? ⟨H, 0, none⟩ = some (.int .i64 y)) (hn : n ≤ 1000000000) (hb : base ≤ w.heap.size)
    (h : ∀ A' c' w', w'.ownsRow base 3 1 (.slice A' (n + 1) c') (n + 1) (iv (xs ++ [y])) → w.grownBy w' (Value.slice A n c).ownBlock → wpList Try.prog ops Q rest (a.put o.dst (.slice A' (n + 1) c')) w') :
    wpList Try.prog ops Q (o :: rest) a w := by
  obtain ⟨i0, hi0, hz0, hz1, hz2⟩ := info_parts int_info
  refine wpList_append_own_at w hgd s x 23 ho base 3 i0 (.int .i64 0) 1 8 Try.underlying23 hi0 hz0 hz1 hz2 rfl (by omega) _ n (iv xs) hs hown ⟨H, 0, none⟩ 1 d [.int .i64 y] hx rfl ?_ ?_ (by simp only [maxLen]; omega) (by omega) hb ?_
  · intro j u hj
    match j, hj with
    | 0, hj => simp at hj; subst hj; simpa [Addr.add] using hc
  · intro u hu; simp at hu; subst hu; rfl
  · intro v' w' ho' hg' _ hat
    obtain ⟨A', c', rfl⟩ := own_form ho'
    rw [← iv_snoc] at ho'
    exact h A' c' w' ho' hg'
theorem wpList_unguard {P : Program} {ops : Array Oper} {rest : List Oper} {o : Oper} {a : Act} {w : World} {Q : Exit → Act → World → Prop} (hw : Region.wanted o (yielded ops a.tmps) = true) (h : wpList P ops Q ({ o with guard := none } :: rest) a w) : wpList P ops Q (o :: rest) a w := by
  unfold wpList at h ⊢
  rw [if_pos hw]
  rw [if_pos (by simp [Region.wanted])] at h
  exact h
theorem Reads.step {w w' : World} {B n size : Nat} {A : Option Addr} {xs : List Value} (h : Reads w B size A n xs) (hB : B ≤ w.heap.size) (hb : Below w.heap.size w w') : Reads w' w'.heap.size size A n xs :=
  (Reads.below h (hb.mono hB)).more (Nat.le_trans hB hb.size)
theorem size_alloc_le (w : World) (o : Obj) : w.heap.size ≤ (w.alloc o).heap.size := by simp
theorem drewN_heap (w : World) (k : Nat) : (w.drewN k).heap = w.heap := rfl
theorem cell_new (w : World) (cs : Array Value) (t : TypeId) (i : Nat) : (w.alloc (.cells cs t)).cell? ⟨w.heap.size, i, none⟩ = cs[i]? := (Blk.new w t cs).cell i
theorem own_drewN {w : World} {base e size n : Nat} {v : Value} {xs : List Value} (h : w.ownsRow base e size v n xs) (k : Nat) : (w.drewN k).ownsRow base e size v n xs := h
theorem iv_set (xs : List Int) (i : Nat) (y : Int) : (iv xs).set i (.int .i64 y) = iv (xs.set i y) := by simp [iv, List.map_set]
theorem iv_getD {xs : List Int} {k : Nat} (h : k < xs.length) : (iv xs)[k]? = some (.int .i64 (xs.getD k 0)) := by
  rw [iv_at h, List.getD_eq_getElem?_getD, List.getElem?_eq_getElem h]; rfl
theorem own_under {w w' : World} {B base e size n : Nat} {v : Value} {xs : List Value} (h : w.ownsRow base e size v n xs) (hb : Below B w w') (hlt : ∀ g, v.ownBlock = some g → g < B) : w'.ownsRow base e size v n xs := by
  obtain ⟨h1, h2⟩ := h
  refine ⟨h1, ?_⟩
  rcases h2 with h2 | ⟨g, cap, cur, rfl, e2, e3⟩
  · exact .inl h2
  · exact .inr ⟨g, cap, cur, rfl, e2, by rw [hb.block g (hlt g rfl)]; exact e3⟩
theorem own_sep {w : World} {b b' e e' s s' n n' : Nat} {v v' : Value} {xs ys : List Value} (h : w.ownsRow b e s v n xs) (h' : w.ownsRow b' e' s' v' n' ys) (hne : e ≠ e') {g : Nat} (hg : v.ownBlock = some g) : v'.ownBlock ≠ some g := by
  intro hg'
  rcases h.2 with ⟨e1, _⟩ | ⟨g1, cap1, cur1, e1, _, c1, _⟩
  · subst e1; cases hg
  rcases h'.2 with ⟨e2, _⟩ | ⟨g2, cap2, cur2, e2, _, c2, _⟩
  · subst e2; cases hg'
  subst e1 e2
  simp only [Value.ownBlock, Option.some.injEq] at hg hg'
  subst hg hg'
  rw [c1] at c2
  injection c2 with c2
  injection c2 with _ c4
  exact hne c4
theorem getD_app {α : Type _} (us : List α) (t d : α) (i : Nat) (hi : i < us.length + 1) : (us ++ [t]).getD i d = if i < us.length then us.getD i d else t := by
  by_cases h : i < us.length
  · rw [if_pos h, List.getD_eq_getElem?_getD, List.getElem?_append_left h, List.getD_eq_getElem?_getD]
  · obtain rfl : i = us.length := by omega
    rw [if_neg h]
    simp [List.getD_eq_getElem?_getD]
theorem getD_set {α : Type _} (xs : List α) (k i : Nat) (y d : α) (hk : k < xs.length) : (xs.set k y).getD i d = if i = k then y else xs.getD i d := by
  simp only [List.getD_eq_getElem?_getD, List.getElem?_set]
  by_cases h : k = i
  · subst h; simp [hk]
  · simp [h, show ¬ i = k by omega]
theorem own_nilc {w : World} {base e size n c : Nat} {A : Option Addr} {xs : List Value} (o : w.ownsRow base e size (.slice A n c) n xs) : A = none → c = 0 := by
  rintro rfl
  rcases own_block o with ⟨_, _, h⟩ | ⟨g, e, _⟩
  · exact h
  · cases e
end Go.Proofs.Ytkcabllnlbcgdaa
