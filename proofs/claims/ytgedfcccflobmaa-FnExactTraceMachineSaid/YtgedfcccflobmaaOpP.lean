/-
  A slice of patches that came in, opened to what it reads as.
-/
import Derived.Test.YtgedfcccflobmaaOpenS
import Derived.Test.YtgedfcccflobmaaPat
import Derived.ChangeSlices
namespace Go.Proofs.Ytgedfcccflobmaa
open Go.ChangeShapes Go.WideShapes Go.Deep Go.RowKit
set_option linter.unusedVariables false
theorem list_of2 {α : Type _} (d : α) (n : Nat) (P : Nat → α → Prop) (h : ∀ i, i < n → ∃ t, P i t) : ∃ ts : List α, ts.length = n ∧ ∀ i, i < n → P i (ts.getD i d) := by
  have h' : ∀ i, ∃ t, i < n → P i t := fun i => by
    by_cases hi : i < n
    · obtain ⟨t, ht⟩ := h i hi
      exact ⟨t, fun _ => ht⟩
    · exact ⟨d, fun h => absurd h hi⟩
  refine ⟨(List.range n).map fun i => Classical.choose (h' i), by simp, fun i hi => ?_⟩
  have : ((List.range n).map fun i => Classical.choose (h' i)).getD i d = Classical.choose (h' i) := by
    simp [List.getD_eq_getElem?_getD, hi]
  rw [this]
  exact Classical.choose_spec (h' i) hi
theorem cell_lt {w : World} {a : Addr} {v : Value} (h : w.cell? a = some v) : a.block < w.heap.size := by
  rcases Nat.lt_or_ge a.block w.heap.size with hlt | hge
  · exact hlt
  · simp [World.cell?, Array.getElem?_eq_none hge] at h
section
variable {H : Type} {enc : TypeId × Value → H} {P : Program} {w : World} {base : Nat} {spare : Nat → Bool} {held : Bool}
theorem slc_of {tl ti : TypeId} {fuel : Nat} {v : Value} {x : DataW H × List MemPlace} (htl : P.underlying tl = some (.slice ti)) (hti : P.underlying ti = some (.int .i64)) (hc : P.cellsOf ti = 1)
    (h : DataW.trod enc P w base spare held fuel tl [v] = some x) : ∃ xs, Slc w 0 v xs ∧ xs.length ≤ 9223372036854775807 := by
  rcases open_ints htl hti hc h with ⟨hcs, _⟩ | ⟨a, l, c, zs, hcs, hb, hl, hm, hz, _, hcell, hwz⟩
  · simp only [List.cons.injEq, and_true] at hcs
    subst hcs
    exact ⟨[], ⟨none, 0, rfl, Nat.le_refl _, fun _ => rfl, ⟨by simp [iv], fun h => absurd h (by simp)⟩, fun ad h => by cases h⟩, by simp⟩
  · simp only [List.cons.injEq, and_true] at hcs
    subst hcs
    have hlz : l ≤ zs.length := by rw [hz]; split <;> omega
    have hxl : (zs.take l).length = l := by rw [List.length_take]; omega
    refine ⟨zs.take l, ⟨some a, c, by rw [hxl], by rw [hxl]; exact hl, (fun h => by cases h), ?_, fun _ _ => Nat.zero_le _⟩, by rw [hxl]; unfold maxLen at hm; omega⟩
    refine ⟨by simp [iv], fun h0 => ⟨a, rfl, ?_, fun j u hu => ?_⟩⟩
    · have := cell_lt (hcell 0 (by omega))
      rwa [block_of_add] at this
    · obtain ⟨hj, rfl⟩ := iv_get hu
      rw [hxl] at hj
      rw [hcell j (by omega)]
      simp [List.getD_eq_getElem?_getD, List.getElem?_eq_getElem (show j < zs.length by omega)]
theorem open_patch {t e ti tl : TypeId} {f0 f1 : Field} {A : Option Addr} {n c : Nat} {d : DataW H} {p : List MemPlace} (ht : P.underlying t = some (.slice e)) (he : P.underlying e = some (.struct #[f0, f1]))
    (hone : oneCellFields P #[f0, f1] = true) (hC : P.cellsOf e = 2) (hti : P.underlying ti = some (.int .i64)) (hci : P.cellsOf ti = 1) (htl : P.underlying tl = some (.slice ti)) (h0 : f0.type = ti) (h1 : f1.type = tl)
    (h : DataW.Trod enc P w base spare held t (.slice A n c) d p) : ∃ ts, PRd w A n ts ∧ n ≤ 9223372036854775807 ∧ ∀ k, k < n → (ts.getD k (0, [])).2.length ≤ 9223372036854775807 := by
  obtain ⟨fuel, hf⟩ := h
  rcases open_slice_fields ht he hone hC hf with ⟨hcs, _⟩ | ⟨x, len, cap, m, D, Pl, hcs, hb, hl, hm, hmm, hx, hi⟩
  · simp [Value.cells] at hcs
    obtain ⟨rfl, rfl, rfl⟩ := hcs
    exact ⟨[], ⟨rfl, [], rfl, ⟨rfl, fun h => absurd h (by omega)⟩, fun i hi => by omega⟩, by omega, fun k hk => by omega⟩
  · simp [Value.cells] at hcs
    obtain ⟨rfl, rfl, rfl⟩ := hcs
    have hnm : n ≤ m := by rw [hmm]; split <;> omega
    obtain ⟨ps, hps, hall⟩ := list_of2 (((0, []), nilV) : TP × Value) n (fun i q => w.cell? (x.add (i * 2 + 0)) = some (.int .i64 q.1.1) ∧ w.cell? (x.add (i * 2 + 1)) = some q.2 ∧ Slc w 0 q.2 q.1.2 ∧ q.1.2.length ≤ 9223372036854775807) (fun i hin => by
      obtain ⟨ys, k, _, _, _, hf⟩ := hi i (by omega)
      obtain ⟨v0, y0, c0, _, t0⟩ := hf 0 f0 rfl
      obtain ⟨v1, y1, c1, _, t1⟩ := hf 1 f1 rfl
      rw [h0] at t0
      rw [h1] at t1
      obtain ⟨z0, e0, -, -⟩ := DataW.trod_int hti t0
      simp only [List.cons.injEq, and_true] at e0
      subst e0
      obtain ⟨xs, hs, hsl⟩ := slc_of htl hti hci t1
      exact ⟨((z0, xs), v1), c0, c1, hs, hsl⟩)
    have hg1 : ∀ i, i < n → (ps.map (·.1)).getD i (0, []) = (ps.getD i ((0, []), nilV)).1 := fun i hi => by
      simp [List.getD_eq_getElem?_getD, List.getElem?_eq_getElem (show i < ps.length by omega)]
    have hg2 : ∀ i, i < n → (ps.map (·.2)).getD i nilV = (ps.getD i ((0, []), nilV)).2 := fun i hi => by
      simp [List.getD_eq_getElem?_getD, List.getElem?_eq_getElem (show i < ps.length by omega)]
    refine ⟨ps.map (·.1), ⟨by simp [hps], ps.map (·.2), by simp [hps], ⟨?_, fun hn => ⟨x, rfl, ?_, fun j u hu => ?_⟩⟩, fun i hi => ?_⟩, by unfold maxLen at hm; omega, fun k hk => ?_⟩
    · rw [pv_len _ _ (by simp), List.length_map, hps]
    · have := cell_lt (hall 0 hn).1
      rwa [block_of_add] at this
    · have hj : j < (pv (ps.map (·.1)) (ps.map (·.2))).length := by
        rcases Nat.lt_or_ge j (pv (ps.map (·.1)) (ps.map (·.2))).length with h | h
        · exact h
        · rw [List.getElem?_eq_none h] at hu; cases hu
      rw [pv_len _ _ (by simp), List.length_map, hps] at hj
      have hk : j / 2 < n := by omega
      obtain ⟨a, b⟩ := pv_get (ps.map (·.1)) (ps.map (·.2)) (j / 2) (by simp) (by rw [List.length_map]; omega)
      rw [hg1 _ hk] at a
      rw [hg2 _ hk] at b
      obtain ⟨k0, k1, -, -⟩ := hall (j / 2) hk
      have hr : j = j / 2 * 2 + 0 ∨ j = j / 2 * 2 + 1 := by omega
      rcases hr with h | h
      · rw [h] at hu ⊢
        exact k0.trans (a.symm.trans hu)
      · rw [h] at hu ⊢
        exact k1.trans (b.symm.trans hu)
    · rw [hg1 _ hi, hg2 _ hi]
      exact (hall i hi).2.2.1
    · rw [hg1 _ hk]
      exact (hall k hk).2.2.2
end
end Go.Proofs.Ytgedfcccflobmaa
