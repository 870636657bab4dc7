/-
  Rows of structs of a given number of cells, as lists of lists of cells: made, stored into, grown. Over any type. No condition but that lengths stay in range.
-/
import Derived.Test.YtkcabllnlbcgdaaSce
import Derived.Laws.CopyOwn
namespace Go.Proofs.Ytkcabllnlbcgdaa
open Go.RowKit
set_option linter.unusedVariables false
set_option linter.unusedSimpArgs false
theorem flat_len : ∀ (L : List (List Value)) (s : Nat), (∀ t ∈ L, t.length = s) → L.flatten.length = L.length * s
  | [], s, _ => by simp
  | t :: L, s, h => by
    have h1 := h t (List.mem_cons_self ..)
    have h2 := flat_len L s fun x hx => h x (List.mem_cons_of_mem _ hx)
    simp only [List.flatten_cons, List.length_append, List.length_cons, h1, h2, Nat.succ_mul]; omega
theorem flat_get : ∀ (L : List (List Value)) (s k j : Nat), (∀ t ∈ L, t.length = s) → k < L.length → j < s → L.flatten[k * s + j]? = (L.getD k [])[j]?
  | [], s, k, j, _, hk, _ => by simp at hk
  | t :: L, s, 0, j, h, _, hj => by
    have h1 := h t (List.mem_cons_self ..)
    simp only [List.flatten_cons, List.getD_cons_zero, Nat.zero_mul, Nat.zero_add]
    rw [List.getElem?_append_left (by omega)]
  | t :: L, s, k + 1, j, h, hk, hj => by
    have h1 := h t (List.mem_cons_self ..)
    have ih := flat_get L s k j (fun x hx => h x (List.mem_cons_of_mem _ hx)) (by simpa using hk) hj
    simp only [List.flatten_cons, List.getD_cons_succ] at ih ⊢
    rw [List.getElem?_append_right (by rw [h1, Nat.succ_mul]; omega), h1, show (k + 1) * s + j - s = k * s + j by rw [Nat.succ_mul]; omega]
    exact ih
/-- Some cells of a list, set one after the other. -/
def setL (xs : List Value) : Nat → List Value → List Value
  | _, [] => xs
  | o, v :: r => setL (xs.set o v) (o + 1) r
theorem setL_mid : ∀ (vs a t r : List Value), t.length = vs.length → setL (a ++ (t ++ r)) a.length vs = a ++ (vs ++ r)
  | [], a, t, r, h => by
    have : t = [] := List.length_eq_zero_iff.1 (by simpa using h)
    subst this
    rfl
  | v :: vs, a, [], r, h => by simp at h
  | v :: vs, a, x :: t, r, h => by
    have ih := setL_mid vs (a ++ [v]) t r (by simpa using h)
    simp only [List.append_assoc, List.singleton_append, List.length_append, List.length_cons, List.length_nil, List.cons_append, List.nil_append] at ih
    simp only [setL, List.cons_append]
    rw [List.set_append_right _ _ (Nat.le_refl _), Nat.sub_self, List.set_cons_zero]
    simpa using ih
theorem setL_flat {L : List (List Value)} {s k : Nat} {vs : List Value} (h : ∀ t ∈ L, t.length = s) (hk : k < L.length) (hv : vs.length = s) : setL L.flatten (k * s) vs = (L.set k vs).flatten := by
  have e1 : L = L.take k ++ L[k] :: L.drop (k + 1) := by rw [← List.drop_eq_getElem_cons hk, List.take_append_drop]
  have e2 : L.set k vs = L.take k ++ vs :: L.drop (k + 1) := by rw [List.set_eq_take_append_cons_drop, if_pos hk]
  have e3 : (L.take k).flatten.length = k * s := by rw [flat_len _ s fun t ht => h t (List.mem_of_mem_take ht), List.length_take]; congr 1; omega
  rw [e2]
  conv => lhs; rw [e1]
  simp only [List.flatten_append, List.flatten_cons]
  rw [← e3]
  exact setL_mid vs _ _ _ (by rw [hv]; exact h _ (List.getElem_mem hk))
theorem rows_grow {α : Type _} (z : α) (n k : Nat) (ts : List α) (hl : ts.length = n) (hk : k < n) : (ts.take k ++ List.replicate (n - k) z).set k (ts.getD k z) = ts.take (k + 1) ++ List.replicate (n - (k + 1)) z := by
  apply List.ext_getElem?
  intro j
  simp only [List.getElem?_set, List.length_append, List.length_take, List.length_replicate, List.getElem?_append, List.getElem?_take, List.getElem?_replicate]
  by_cases hj : k = j
  · subst hj
    have h1 : k < min k ts.length + (n - k) := by omega
    have h2 : k < min (k + 1) ts.length := by omega
    have h3 : k < ts.length := by omega
    simp [h1, h2, List.getD_eq_getElem?_getD, List.getElem?_eq_getElem h3]
  · by_cases hlt : j < k
    · have h1 : j < min k ts.length := by omega
      have h2 : j < min (k + 1) ts.length := by omega
      have h3 : j < k + 1 := by omega
      simp [hj, h1, h2, hlt, h3]
    · have h1 : ¬ j < min k ts.length := by omega
      have h2 : ¬ j < min (k + 1) ts.length := by omega
      simp only [hj, h1, h2, if_false]
      have e1 : min k ts.length = k := by omega
      have e2 : min (k + 1) ts.length = k + 1 := by omega
      rw [e1, e2]
      by_cases h4 : j < n
      · rw [if_pos (by omega), if_pos (by omega)]
      · rw [if_neg (by omega), if_neg (by omega)]
theorem made_flat (z : List Value) (n : Nat) (hz : 0 < z.length) : (madeCells z.toArray (n * z.length)).toList = (List.replicate n z).flatten := by
  have hf : ∀ t ∈ List.replicate n z, t.length = z.length := fun t ht => by rw [List.eq_of_mem_replicate ht]
  apply List.ext_getElem?
  intro i
  rcases Nat.lt_or_ge i (n * z.length) with h | h
  · have hi : i = i / z.length * z.length + i % z.length := by rw [Nat.mul_comm]; exact (Nat.div_add_mod i z.length).symm
    have hd : i / z.length < n := Nat.div_lt_of_lt_mul (by rw [Nat.mul_comm]; exact h)
    have hm : i % z.length < z.length := Nat.mod_lt _ hz
    have hg := flat_get (List.replicate n z) z.length (i / z.length) (i % z.length) hf (by simpa using hd) hm
    rw [← hi] at hg
    rw [hg]
    simp [madeCells, h, List.getD_eq_getElem?_getD, hd, hm]
  · rw [List.getElem?_eq_none (by simp [size_madeCells]; exact h), List.getElem?_eq_none (by rw [flat_len _ _ hf]; simpa using h)]
section
variable {w : World} {base e s n c g : Nat} {xs : List Value}
theorem own_setCells : ∀ (vs : List Value) (o : Nat) (w : World) (xs : List Value), w.ownsRow base e s (.slice (some ⟨g, 0, none⟩) n c) n xs →
    (w.setCells g o vs).ownsRow base e s (.slice (some ⟨g, 0, none⟩) n c) n (setL xs o vs) ∧ w.grownBy (w.setCells g o vs) (some g)
  | [], o, w, xs, h => ⟨h, World.grownBy.refl _ _⟩
  | v :: r, o, w, xs, h => by
    obtain ⟨h1, g1⟩ := h.stored o v
    obtain ⟨h2, g2⟩ := own_setCells r (o + 1) _ _ h1
    exact ⟨h2, g1.trans g2⟩
theorem own_there (h : w.ownsRow base e s (.slice (some ⟨g, 0, none⟩) n c) n xs) {o m : Nat} (hm : o + m ≤ n * s) : w.there g o m := fun j hj => by
  have h1 := h.cellAt (o + j) (by omega)
  have h2 := h.1
  refine ⟨?_, h.frozenAt _⟩
  rw [h1, List.getElem?_eq_getElem (by omega)]; rfl
end
theorem make_rows {ops : Array Oper} {rest : List Oper} {o : Oper} {a : Act} {Q : Exit → Act → World → Prop} (w : World) (hgd : o.guard = none) (l c : Operand) (S E : TypeId) (z : List Value) (b : Nat)
    (ho : o.op = Op.makeSlice S l c) (hS : Try.prog.underlying S = some (.slice E)) (hinfo : (Try.prog.info? E).map (fun i => (i.zero, i.size, i.bytes)) = some (some (.agg z.toArray), z.length, b)) (hz : 0 < z.length) (hbz : b ≤ 1000)
    (n : Nat) (hl : a.eval l = .int .i64 (n : Int)) (hc : a.eval c = .int .i64 (n : Int)) (hn : n ≤ 1000000000)
    (h : ∀ w', w'.ownsRow w.heap.size E z.length (.slice (some ⟨w.heap.size, 0, none⟩) n n) n (List.replicate n z).flatten → Below w.heap.size w w' → wpList Try.prog ops Q rest (a.put o.dst (.slice (some ⟨w.heap.size, 0, none⟩) n n)) w') :
    wpList Try.prog ops Q (o :: rest) a w := by
  obtain ⟨i0, hi0, hz0, hz1, hz2⟩ := info_parts hinfo
  refine wpList_make_full w hgd l c S ho w.heap.size E i0 (.agg z.toArray) z.length hS hi0 hz0 hz1 .i64 .i64 _ _ n hl hc rfl rfl (by rw [hz2]; exact Nat.le_trans (Nat.mul_le_mul hbz hn) (by omega)) (by simp only [maxLen]; omega) (Nat.le_refl _) ?_
  intro w' h1 h2
  refine h w' ?_ (below_of_grown h2 (Nat.le_refl _) (by intro k hk; cases hk))
  have e : (madeCells (Value.agg z.toArray).cells (n * z.length)).toList = (List.replicate n z).flatten := by
    rw [← made_flat z n hz]; rfl
  rwa [e] at h1
/-- Guards: the next operation is a load, a store of that type. -/
theorem at_load {P : Program} {ops : Array Oper} {rest : List Oper} {op : Oper} {a : Act} {w : World} {Q : Exit → Act → World → Prop} {ty : TypeId} {x : Operand} (ho : op.op = .load ty x) (h : wpList P ops Q (op :: rest) a w) : wpList P ops Q (op :: rest) a w := h
theorem at_store {P : Program} {ops : Array Oper} {rest : List Oper} {op : Oper} {a : Act} {w : World} {Q : Exit → Act → World → Prop} {ty : TypeId} {x y : Operand} (ho : op.op = .store ty x y) (h : wpList P ops Q (op :: rest) a w) : wpList P ops Q (op :: rest) a w := h
end Go.Proofs.Ytkcabllnlbcgdaa
