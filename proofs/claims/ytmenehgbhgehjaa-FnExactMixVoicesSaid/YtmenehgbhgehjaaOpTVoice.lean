/-
  Structs of 5 numbers (impl.Voice) as a row of numbers: an argument opened.
-/
import Derived.Test.YtmenehgbhgehjaaOpenS
import Derived.Test.YtmenehgbhgehjaaTupVoice
namespace Go.Proofs.Ytmenehgbhgehjaa
open Go.ChangeShapes Go.WideShapes Go.Deep Go.RowKit
set_option linter.unusedVariables false
section
variable {H : Type} {enc : TypeId × Value → H} {P : Program} {w : World} {base : Nat} {spare : Nat → Bool} {held : Bool}
theorem open_voice {t e ti : TypeId} {f0 f1 f2 f3 f4 : Field} {A : Option Addr} {n c : Nat} {d : DataW H} {p : List MemPlace} (ht : P.underlying t = some (.slice e)) (he : P.underlying e = some (.struct #[f0, f1, f2, f3, f4]))
    (hone : oneCellFields P #[f0, f1, f2, f3, f4] = true) (hC : P.cellsOf e = 5) (hti : P.underlying ti = some (.int .i64)) (h0 : f0.type = ti) (h1 : f1.type = ti) (h2 : f2.type = ti) (h3 : f3.type = ti) (h4 : f4.type = ti)
    (h : DataW.Trod enc P w base spare held t (.slice A n c) d p) : ∃ ts, Reads w w.heap.size 5 A n (iv (flVoice ts)) ∧ n ≤ 9223372036854775807 := by
  obtain ⟨fuel, hf⟩ := h
  rcases open_slice_fields ht he hone hC hf with ⟨hcs, _⟩ | ⟨x, len, cap, m, D, Pl, hcs, hb, hl, hm, hmm, hx, hi⟩
  · simp [Value.cells] at hcs
    obtain ⟨rfl, rfl, rfl⟩ := hcs
    exact ⟨[], ⟨rfl, fun h => absurd h (by omega)⟩, by omega⟩
  · simp [Value.cells] at hcs
    obtain ⟨rfl, rfl, rfl⟩ := hcs
    have hnm : n ≤ m := by rw [hmm]; split <;> omega
    obtain ⟨ts, hts, hall⟩ := voice_list n (fun i t => w.cell? (x.add (i * 5 + 0)) = some (.int .i64 t.1) ∧ w.cell? (x.add (i * 5 + 1)) = some (.int .i64 t.2.1) ∧ w.cell? (x.add (i * 5 + 2)) = some (.int .i64 t.2.2.1) ∧ w.cell? (x.add (i * 5 + 3)) = some (.int .i64 t.2.2.2.1) ∧ w.cell? (x.add (i * 5 + 4)) = some (.int .i64 t.2.2.2.2)) (fun i hin => by
      obtain ⟨ys, k, _, _, _, hf⟩ := hi i (by omega)
      obtain ⟨v0, y0, c0, _, t0⟩ := hf 0 f0 rfl
      obtain ⟨v1, y1, c1, _, t1⟩ := hf 1 f1 rfl
      obtain ⟨v2, y2, c2, _, t2⟩ := hf 2 f2 rfl
      obtain ⟨v3, y3, c3, _, t3⟩ := hf 3 f3 rfl
      obtain ⟨v4, y4, c4, _, t4⟩ := hf 4 f4 rfl
      rw [h0] at t0
      rw [h1] at t1
      rw [h2] at t2
      rw [h3] at t3
      rw [h4] at t4
      obtain ⟨z0, e0, -, -⟩ := DataW.trod_int hti t0
      obtain ⟨z1, e1, -, -⟩ := DataW.trod_int hti t1
      obtain ⟨z2, e2, -, -⟩ := DataW.trod_int hti t2
      obtain ⟨z3, e3, -, -⟩ := DataW.trod_int hti t3
      obtain ⟨z4, e4, -, -⟩ := DataW.trod_int hti t4
      simp only [List.cons.injEq, and_true] at e0 e1 e2 e3 e4
      subst e0 e1 e2 e3 e4
      exact ⟨(z0, z1, z2, z3, z4), c0, c1, c2, c3, c4⟩)
    exact ⟨ts, voice_reads hts hall, by unfold maxLen at hm; omega⟩
end
end Go.Proofs.Ytmenehgbhgehjaa
