/-
  A slice of slices of numbers that came in, opened to what it reads as.
-/
import Derived.Test.YtgedfcccflobmaaOpP
import Derived.Test.YtgedfcccflobmaaGri
namespace Go.Proofs.Ytgedfcccflobmaa
open Go.ChangeShapes Go.WideShapes Go.Deep Go.RowKit
set_option linter.unusedVariables false
section
variable {H : Type} {enc : TypeId × Value → H} {P : Program} {w : World} {base : Nat} {spare : Nat → Bool} {held : Bool}
theorem open_rows {t e ti : TypeId} {A : Option Addr} {n c : Nat} {d : DataW H} {p : List MemPlace} (ht : P.underlying t = some (.slice e)) (he : P.underlying e = some (.slice ti))
    (hC : P.cellsOf e = 1) (hti : P.underlying ti = some (.int .i64)) (hci : P.cellsOf ti = 1)
    (h : DataW.Trod enc P w base spare held t (.slice A n c) d p) : ∃ os, GRd w A n os ∧ n ≤ 9223372036854775807 ∧ ∀ k, k < n → (os.getD k []).length ≤ 9223372036854775807 := by
  obtain ⟨fuel, hf⟩ := h
  rcases open_slice ht hf with ⟨hcs, _⟩ | ⟨x, len, cap, m, n', D, Pl, hcs, hb, hl, hm, hmm, hx, hi⟩
  · simp [Value.cells] at hcs
    obtain ⟨rfl, rfl, rfl⟩ := hcs
    exact ⟨[], grd_nil w, by omega, fun k hk => by omega⟩
  · simp [Value.cells] at hcs
    obtain ⟨rfl, rfl, rfl⟩ := hcs
    have hnm : n ≤ m := by rw [hmm]; split <;> omega
    obtain ⟨ps, hps, hall⟩ := list_of2 (([], nilV) : List Int × Value) n (fun i q => w.cell? (x.add i) = some q.2 ∧ Slc w 0 q.2 q.1 ∧ q.1.length ≤ 9223372036854775807) (fun i hin => by
      obtain ⟨cs', hc, ht'⟩ := hi i (by omega)
      rw [hC] at hc
      obtain ⟨_, hcl, hat⟩ := World.cells?_some hc
      have h0 := hat 0 (by omega)
      obtain ⟨v, rfl⟩ : ∃ v, cs' = [v] := by
        match cs', hcl with
        | [v], _ => exact ⟨v, rfl⟩
      obtain ⟨xs, hs, hsl⟩ := slc_of he hti hci ht'
      refine ⟨(xs, v), ?_, hs, hsl⟩
      simpa [Addr.add] using h0)
    have hg1 : ∀ i, i < n → (ps.map (·.1)).getD i [] = (ps.getD i ([], nilV)).1 := fun i hi => by
      simp [List.getD_eq_getElem?_getD, List.getElem?_eq_getElem (show i < ps.length by omega)]
    have hg2 : ∀ i, i < n → (ps.map (·.2)).getD i nilV = (ps.getD i ([], nilV)).2 := fun i hi => by
      simp [List.getD_eq_getElem?_getD, List.getElem?_eq_getElem (show i < ps.length by omega)]
    refine ⟨ps.map (·.1), ⟨by simp [hps], ps.map (·.2), by simp [hps], ⟨by simp [hps], fun hn => ⟨x, rfl, ?_, fun j u hu => ?_⟩⟩, fun i hi => ?_⟩, by unfold maxLen at hm; omega, fun k hk => ?_⟩
    · have := cell_lt (hall 0 hn).1
      rwa [block_of_add] at this
    · have hj : j < n := by
        rcases Nat.lt_or_ge j n with h | h
        · exact h
        · rw [List.getElem?_eq_none (by simp [hps]; omega)] at hu; cases hu
      have hu2 : u = (ps.map (·.2)).getD j nilV := by rw [List.getD_eq_getElem?_getD, hu]; rfl
      rw [hu2, hg2 j hj]
      exact (hall j hj).1
    · rw [hg1 _ hi, hg2 _ hi]
      exact (hall i hi).2.1
    · rw [hg1 _ hk]
      exact (hall k hk).2.2
end
end Go.Proofs.Ytgedfcccflobmaa
