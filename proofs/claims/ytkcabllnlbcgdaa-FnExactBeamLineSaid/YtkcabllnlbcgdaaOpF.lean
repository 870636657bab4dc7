/-
  Backgrounds and scenes that came in, opened to what they read as.
-/
import Derived.Deep.Slices
import Derived.Deep.Fields
import Derived.ChangeSame
import Derived.ChangeSlices
import Derived.OpenShut
import Derived.Test.YtkcabllnlbcgdaaRows
import Derived.Test.YtkcabllnlbcgdaaOpenS
import Derived.Test.YtkcabllnlbcgdaaSpp
namespace Go.Proofs.Ytkcabllnlbcgdaa
open Go.ChangeShapes Go.WideShapes Go.Deep Go.RowKit
set_option linter.unusedVariables false
theorem list_ofF {α : Type _} (d : α) (n : Nat) (P : Nat → α → Prop) (h : ∀ i, i < n → ∃ t, P i t) : ∃ ts : List α, ts.length = n ∧ ∀ i, i < n → P i (ts.getD i d) := by
  have h' : ∀ i, ∃ t, i < n → P i t := fun i => by
    by_cases hi : i < n
    · obtain ⟨t, ht⟩ := h i hi
      exact ⟨t, fun _ => ht⟩
    · exact ⟨d, fun h => absurd h hi⟩
  refine ⟨(List.range n).map fun i => Classical.choose (h' i), by simp, fun i hi => ?_⟩
  have : ((List.range n).map fun i => Classical.choose (h' i)).getD i d = Classical.choose (h' i) := by
    simp [List.getD_eq_getElem?_getD, hi]
  rw [this]
  exact Classical.choose_spec (h' i) hi
theorem cell_ltF {w : World} {a : Addr} {v : Value} (h : w.cell? a = some v) : a.block < w.heap.size := by
  rcases Nat.lt_or_ge a.block w.heap.size with hlt | hge
  · exact hlt
  · simp [World.cell?, Array.getElem?_eq_none hge] at h
/-- A background as it came in: lengths below the largest. -/
structure FRd0 (w : World) (f : Fld) : Prop where
  map : Ints w w.heap.size f.A f.n f.ms
  tiles : TiRd w w.heap.size f.T f.tn f.ts
  hn : f.n ≤ 9223372036854775807
  ht : f.tn ≤ 9223372036854775807
section
variable {H : Type} {enc : TypeId × Value → H} {P : Program} {w : World} {base : Nat} {spare : Nat → Bool} {held : Bool}
theorem intsF {tl ti : TypeId} {fuel : Nat} {cs : List Value} {x : DataW H × List MemPlace} (htl : P.underlying tl = some (.slice ti)) (hti : P.underlying ti = some (.int .i64)) (hc : P.cellsOf ti = 1)
    (h : DataW.trod enc P w base spare held fuel tl cs = some x) : ∃ A n c xs, cs = [.slice A n c] ∧ Ints w w.heap.size A n xs ∧ n ≤ 9223372036854775807 := by
  rcases open_ints htl hti hc h with ⟨hcs, _⟩ | ⟨a, l, c, zs, hcs, hb, hl, hm, hz, _, hcell, hwz⟩
  · exact ⟨_, _, _, [], hcs, ⟨by simp [iv], fun h => absurd h (by simp)⟩, by omega⟩
  · have hlz : l ≤ zs.length := by rw [hz]; split <;> omega
    have hxl : (zs.take l).length = l := by rw [List.length_take]; omega
    refine ⟨_, _, _, zs.take l, hcs, ⟨by rw [iv_len, hxl, Nat.mul_one], fun h0 => ⟨a, rfl, ?_, fun j u hu => ?_⟩⟩, by unfold maxLen at hm; omega⟩
    · have := cell_ltF (hcell 0 (by omega))
      rwa [block_of_add] at this
    · obtain ⟨hj, rfl⟩ := iv_get hu
      rw [hxl] at hj
      rw [hcell j (by omega)]
      simp [List.getD_eq_getElem?_getD, List.getElem?_eq_getElem (show j < zs.length by omega)]
theorem tilesF {tt te ar ti : TypeId} {g0 : Field} {fuel : Nat} {cs : List Value} {x : DataW H × List MemPlace} (htt : P.underlying tt = some (.slice te)) (hte : P.underlying te = some (.struct #[g0])) (hgo : g0.offset = 0) (hgt : g0.type = ar)
    (har : P.underlying ar = some (.array 64 ti)) (hti : P.underlying ti = some (.int .i64)) (hci : P.cellsOf ti = 1) (hca : P.cellsOf ar = 64) (hce : P.cellsOf te = 64)
    (h : DataW.trod enc P w base spare held fuel tt cs = some x) : ∃ A n c ts, cs = [.slice A n c] ∧ TiRd w w.heap.size A n ts ∧ n ≤ 9223372036854775807 := by
  rcases open_slice htt h with ⟨hcs, _⟩ | ⟨a, l, c, m, n', D, Pl, hcs, hb, hl, hm, hmm, hx, hi⟩
  · exact ⟨_, _, _, [], hcs, ⟨rfl, fun t ht => (by cases ht), rfl, fun h => absurd h (by omega)⟩, by omega⟩
  · have hlm : l ≤ m := by rw [hmm]; split <;> omega
    obtain ⟨ts, hts, hall⟩ := list_ofF ([] : List Int) l (fun i t => t.length = 64 ∧ ∀ j, j < 64 → w.cell? (a.add (i * 64 + j)) = some (.int .i64 (t.getD j 0))) (fun i hil => by
      obtain ⟨cs', hc', ht'⟩ := hi i (by omega)
      rw [hce] at hc'
      obtain ⟨_, hcl, hat⟩ := World.cells?_some hc'
      obtain ⟨ys, k, _, _, _, hyl, hf⟩ := DataW.trod_struct hte ht'
      have h1 := hf 0 g0 rfl
      rw [hgo, hgt, hca, List.drop_zero, List.take_of_length_le (by omega)] at h1
      have h2 : ys[0]? = some (ys[0]'(by rw [hyl]; exact Nat.one_pos)) := List.getElem?_eq_getElem _
      rw [h2] at h1
      obtain ⟨zs, k', _, _, _, hzl, hz⟩ := DataW.trod_array har h1
      obtain ⟨t, htl, htg⟩ := list_ofF (0 : Int) 64 (fun j z => cs'[j]? = some (.int .i64 z)) (fun j hj => by
        have h3 := hz j hj
        rw [hci, Nat.mul_one, List.getElem?_eq_getElem (show j < zs.length by omega)] at h3
        obtain ⟨z, hz0, -, -⟩ := DataW.trod_int hti h3
        refine ⟨z, ?_⟩
        rw [List.drop_eq_getElem_cons (show j < cs'.length by omega)] at hz0
        simp only [List.take_succ_cons, List.take_zero, List.cons.injEq, and_true] at hz0
        rw [List.getElem?_eq_getElem (show j < cs'.length by omega), hz0])
      refine ⟨t, htl, fun j hj => ?_⟩
      rw [← Go.Deep.add_add, hat j hj, htg j hj])
    refine ⟨_, _, _, ts, hcs, ⟨hts, fun t ht => ?_, ?_, fun h0 => ⟨a, rfl, ?_, fun j u hu => ?_⟩⟩, by unfold maxLen at hm; omega⟩
    · obtain ⟨i, hi, rfl⟩ := List.mem_iff_getElem.1 ht
      have := (hall i (by omega)).1
      rwa [List.getD_eq_getElem?_getD, List.getElem?_eq_getElem hi, Option.getD_some] at this
    · rw [fl64_len, hts]
      intro t ht
      obtain ⟨i, hi, rfl⟩ := List.mem_iff_getElem.1 ht
      have := (hall i (by omega)).1
      rwa [List.getD_eq_getElem?_getD, List.getElem?_eq_getElem hi, Option.getD_some] at this
    · have := cell_ltF ((hall 0 h0).2 0 (by omega))
      rwa [block_of_add] at this
    · have hlen : ∀ t ∈ ts, t.length = 64 := fun t ht => by
        obtain ⟨i, hi, rfl⟩ := List.mem_iff_getElem.1 ht
        have := (hall i (by omega)).1
        rwa [List.getD_eq_getElem?_getD, List.getElem?_eq_getElem hi, Option.getD_some] at this
      have hj : j < l * 64 := by
        have h1 := (List.getElem?_eq_some_iff.1 hu).1
        rw [fl64_len ts hlen, hts] at h1; exact h1
      have hk : j / 64 < l := by omega
      have hg := fl64_get ts (j / 64) (j % 64) hlen (by omega) (by omega)
      have hj2 : j = j / 64 * 64 + j % 64 := by omega
      rw [hj2] at hu ⊢
      rw [(hall _ hk).2 _ (by omega), ← hu, hg, iv_getD (by rw [(hall _ hk).1]; omega)]
theorem spritesF {tS te ti tb : TypeId} {g0 g1 g2 g3 g4 g5 : Field} {fuel : Nat} {cs : List Value} {x : DataW H × List MemPlace} (htS : P.underlying tS = some (.slice te)) (hte : P.underlying te = some (.struct #[g0, g1, g2, g3, g4, g5]))
    (hone : oneCellFields P #[g0, g1, g2, g3, g4, g5] = true) (hce : P.cellsOf te = 6) (hti : P.underlying ti = some (.int .i64)) (htb : P.underlying tb = some .bool) (h0 : g0.type = ti) (h1 : g1.type = ti) (h2 : g2.type = ti) (h3 : g3.type = tb) (h4 : g4.type = tb) (h5 : g5.type = tb)
    (h : DataW.trod enc P w base spare held fuel tS cs = some x) : ∃ A n c ss, cs = [.slice A n c] ∧ SpRd w w.heap.size A n ss ∧ n ≤ 9223372036854775807 := by
  rcases open_slice_fields htS hte hone hce h with ⟨hcs, _⟩ | ⟨a, l, c, m, D, Pl, hcs, hb, hl, hm, hmm, hx, hi⟩
  · exact ⟨_, _, _, [], hcs, ⟨rfl, rfl, fun h => absurd h (by omega)⟩, by omega⟩
  · have hlm : l ≤ m := by rw [hmm]; split <;> omega
    obtain ⟨ss, hss, hall⟩ := list_ofF Spr.z l (fun i s => ∀ j u, s.cs[j]? = some u → w.cell? (a.add (i * 6 + j)) = some u) (fun i hil => by
      obtain ⟨ys, k, _, _, _, hf⟩ := hi i (by omega)
      obtain ⟨v0, y0, c0, _, t0⟩ := hf 0 g0 rfl
      obtain ⟨v1, y1, c1, _, t1⟩ := hf 1 g1 rfl
      obtain ⟨v2, y2, c2, _, t2⟩ := hf 2 g2 rfl
      obtain ⟨v3, y3, c3, _, t3⟩ := hf 3 g3 rfl
      obtain ⟨v4, y4, c4, _, t4⟩ := hf 4 g4 rfl
      obtain ⟨v5, y5, c5, _, t5⟩ := hf 5 g5 rfl
      rw [h0] at t0
      rw [h1] at t1
      rw [h2] at t2
      rw [h3] at t3
      rw [h4] at t4
      rw [h5] at t5
      obtain ⟨z0, e0, -, -⟩ := DataW.trod_int hti t0
      obtain ⟨z1, e1, -, -⟩ := DataW.trod_int hti t1
      obtain ⟨z2, e2, -, -⟩ := DataW.trod_int hti t2
      obtain ⟨b3, e3, -⟩ := DataW.trod_bool htb t3
      obtain ⟨b4, e4, -⟩ := DataW.trod_bool htb t4
      obtain ⟨b5, e5, -⟩ := DataW.trod_bool htb t5
      simp only [List.cons.injEq, and_true] at e0 e1 e2 e3 e4 e5
      subst e0 e1 e2 e3 e4 e5
      refine ⟨⟨z0, z1, z2, b3, b4, b5⟩, fun j u hj => ?_⟩
      have hj6 : j < 6 := (List.getElem?_eq_some_iff.1 hj).1
      match j, hj6 with
      | 0, _ => injection hj with hj; subst hj; exact c0
      | 1, _ => injection hj with hj; subst hj; exact c1
      | 2, _ => injection hj with hj; subst hj; exact c2
      | 3, _ => injection hj with hj; subst hj; exact c3
      | 4, _ => injection hj with hj; subst hj; exact c4
      | 5, _ => injection hj with hj; subst hj; exact c5)
    refine ⟨_, _, _, ss, hcs, ⟨hss, by rw [fl6_len, hss], fun h0 => ⟨a, rfl, ?_, fun j u hu => ?_⟩⟩, by unfold maxLen at hm; omega⟩
    · have := cell_ltF ((hall 0 h0) 0 _ rfl)
      rwa [block_of_add] at this
    · have hj : j < l * 6 := by
        have h1 := (List.getElem?_eq_some_iff.1 hu).1
        rw [fl6_len, hss] at h1; exact h1
      have hk : j / 6 < l := by omega
      have hg := fl6_get ss (j / 6) (j % 6) (by omega) (by omega)
      have hj2 : j = j / 6 * 6 + j % 6 := by omega
      rw [hj2] at hu ⊢
      rw [hg] at hu
      exact hall _ hk _ _ hu
theorem fieldF {tF tl tt te ar ti : TypeId} {f0 f1 f2 f3 f4 g0 : Field} {fuel : Nat} {cs : List Value} {x : DataW H × List MemPlace} (htF : P.underlying tF = some (.struct #[f0, f1, f2, f3, f4])) (hone : oneCellFields P #[f0, f1, f2, f3, f4] = true) (hCF : P.cellsOf tF = 5)
    (e0 : f0.type = ti) (e1 : f1.type = tl) (e2 : f2.type = tt) (e3 : f3.type = ti) (e4 : f4.type = ti) (htl : P.underlying tl = some (.slice ti)) (htt : P.underlying tt = some (.slice te)) (hte : P.underlying te = some (.struct #[g0])) (hgo : g0.offset = 0) (hgt : g0.type = ar)
    (har : P.underlying ar = some (.array 64 ti)) (hti : P.underlying ti = some (.int .i64)) (hci : P.cellsOf ti = 1) (hca : P.cellsOf ar = 64) (hce : P.cellsOf te = 64)
    (h : DataW.trod enc P w base spare held fuel tF cs = some x) : ∃ f : Fld, cs = [.int .i64 f.W, .slice f.A f.n f.c, .slice f.T f.tn f.tc, .int .i64 f.sx, .int .i64 f.sy] ∧ FRd0 w f := by
  obtain ⟨xs, n, _, hx, hl, hlen, hg⟩ := DataW.trod_struct htF h
  obtain ⟨o0, k0⟩ := hone_of hone 0 f0 rfl
  obtain ⟨o1, k1⟩ := hone_of hone 1 f1 rfl
  obtain ⟨o2, k2⟩ := hone_of hone 2 f2 rfl
  obtain ⟨o3, k3⟩ := hone_of hone 3 f3 rfl
  obtain ⟨o4, k4⟩ := hone_of hone 4 f4 rfl
  match cs, hl.trans hCF, xs, hlen with
  | [c0, c1, c2, c3, c4], _, [y0, y1, y2, y3, y4], _ =>
    have t0 : DataW.trod enc P w base spare held n f0.type [c0] = some y0 := by simpa [o0, k0] using hg 0 f0 rfl
    have t1 : DataW.trod enc P w base spare held n f1.type [c1] = some y1 := by simpa [o1, k1] using hg 1 f1 rfl
    have t2 : DataW.trod enc P w base spare held n f2.type [c2] = some y2 := by simpa [o2, k2] using hg 2 f2 rfl
    have t3 : DataW.trod enc P w base spare held n f3.type [c3] = some y3 := by simpa [o3, k3] using hg 3 f3 rfl
    have t4 : DataW.trod enc P w base spare held n f4.type [c4] = some y4 := by simpa [o4, k4] using hg 4 f4 rfl
    rw [e0] at t0
    rw [e1] at t1
    rw [e2] at t2
    rw [e3] at t3
    rw [e4] at t4
    obtain ⟨z0, q0, -, -⟩ := DataW.trod_int hti t0
    obtain ⟨z3, q3, -, -⟩ := DataW.trod_int hti t3
    obtain ⟨z4, q4, -, -⟩ := DataW.trod_int hti t4
    obtain ⟨A, n1, c, ms, q1, hm, hn1⟩ := intsF htl hti hci t1
    obtain ⟨T, n2, tc, ts, q2, htr, hn2⟩ := tilesF htt hte hgo hgt har hti hci hca hce t2
    simp only [List.cons.injEq, and_true] at q0 q1 q2 q3 q4
    subst q0 q1 q2 q3 q4
    exact ⟨⟨z0, A, n1, c, ms, T, n2, tc, ts, z3, z4⟩, rfl, hm, htr, hn1, hn2⟩
theorem open_field {r : Reach} {b0 : Nat} {tF tl tt te ar ti : TypeId} {f0 f1 f2 f3 f4 g0 : Field} {v : Value} {d : DataW H} {p : List MemPlace} (htF : P.underlying tF = some (.struct #[f0, f1, f2, f3, f4])) (hone : oneCellFields P #[f0, f1, f2, f3, f4] = true) (hCF : P.cellsOf tF = 5)
    (e0 : f0.type = ti) (e1 : f1.type = tl) (e2 : f2.type = tt) (e3 : f3.type = ti) (e4 : f4.type = ti) (htl : P.underlying tl = some (.slice ti)) (htt : P.underlying tt = some (.slice te)) (hte : P.underlying te = some (.struct #[g0])) (hgo : g0.offset = 0) (hgt : g0.type = ar)
    (har : P.underlying ar = some (.array 64 ti)) (hti : P.underlying ti = some (.int .i64)) (hci : P.cellsOf ti = 1) (hca : P.cellsOf ar = 64) (hce : P.cellsOf te = 64)
    (hv : Value.okWide P w r b0 tF v) (h : DataW.Trod enc P w base spare held tF v d p) : ∃ f : Fld, v = f.val ∧ FRd0 w f := by
  obtain ⟨⟨l⟩, rfl, hsz⟩ := okWide_struct htF hv
  obtain ⟨fuel, hf⟩ := h
  obtain ⟨f, hl, hr⟩ := fieldF htF hone hCF e0 e1 e2 e3 e4 htl htt hte hgo hgt har hti hci hca hce hf
  refine ⟨f, ?_, hr⟩
  simp only [Value.cells] at hl
  subst hl
  rfl
theorem open_scene {r : Reach} {b0 : Nat} {tC tF tl tt te ar ti tS tE tb : TypeId} {s0 s1 f0 f1 f2 f3 f4 g0 p0 p1 p2 p3 p4 p5 : Field} {v : Value} {d : DataW H} {p : List MemPlace} (htC : P.underlying tC = some (.struct #[s0, s1])) (hs0 : s0.offset = 0 ∧ s0.type = tF) (hs1 : s1.offset = 5 ∧ s1.type = tS) (hCC : P.cellsOf tC = 6) (hCS : P.cellsOf tS = 1)
    (htF : P.underlying tF = some (.struct #[f0, f1, f2, f3, f4])) (hone : oneCellFields P #[f0, f1, f2, f3, f4] = true) (hCF : P.cellsOf tF = 5)
    (e0 : f0.type = ti) (e1 : f1.type = tl) (e2 : f2.type = tt) (e3 : f3.type = ti) (e4 : f4.type = ti) (htl : P.underlying tl = some (.slice ti)) (htt : P.underlying tt = some (.slice te)) (hte : P.underlying te = some (.struct #[g0])) (hgo : g0.offset = 0) (hgt : g0.type = ar)
    (har : P.underlying ar = some (.array 64 ti)) (hti : P.underlying ti = some (.int .i64)) (hci : P.cellsOf ti = 1) (hca : P.cellsOf ar = 64) (hce : P.cellsOf te = 64)
    (htS : P.underlying tS = some (.slice tE)) (htE : P.underlying tE = some (.struct #[p0, p1, p2, p3, p4, p5])) (honeE : oneCellFields P #[p0, p1, p2, p3, p4, p5] = true) (hcE : P.cellsOf tE = 6) (htb : P.underlying tb = some .bool) (h0 : p0.type = ti) (h1 : p1.type = ti) (h2 : p2.type = ti) (h3 : p3.type = tb) (h4 : p4.type = tb) (h5 : p5.type = tb)
    (hv : Value.okWide P w r b0 tC v) (h : DataW.Trod enc P w base spare held tC v d p) : ∃ (f : Fld) (A : Option Addr) (n c : Nat) (ss : List Spr), v = .agg #[.int .i64 f.W, .slice f.A f.n f.c, .slice f.T f.tn f.tc, .int .i64 f.sx, .int .i64 f.sy, .slice A n c] ∧ FRd0 w f ∧ SpRd w w.heap.size A n ss ∧ n ≤ 9223372036854775807 := by
  obtain ⟨⟨l⟩, rfl, hsz⟩ := okWide_struct htC hv
  obtain ⟨fuel, hf⟩ := h
  simp only [Value.cells] at hf
  obtain ⟨xs, n, _, hx, hl, hlen, hg⟩ := DataW.trod_struct htC hf
  obtain ⟨o0, rfl⟩ := hs0
  obtain ⟨o1, rfl⟩ := hs1
  match l, hl.trans hCC, xs, hlen with
  | [c0, c1, c2, c3, c4, c5], _, [y0, y1], _ =>
    have t0 : DataW.trod enc P w base spare held n s0.type [c0, c1, c2, c3, c4] = some y0 := by simpa [o0, hCF] using hg 0 s0 rfl
    have t1 : DataW.trod enc P w base spare held n s1.type [c5] = some y1 := by simpa [o1, hCS] using hg 1 s1 rfl
    obtain ⟨f, q0, hr⟩ := fieldF htF hone hCF e0 e1 e2 e3 e4 htl htt hte hgo hgt har hti hci hca hce t0
    obtain ⟨A, m, c, ss, q1, hs, hm⟩ := spritesF htS htE honeE hcE hti htb h0 h1 h2 h3 h4 h5 t1
    simp only [List.cons.injEq, and_true] at q0 q1
    obtain ⟨rfl, rfl, rfl, rfl, rfl⟩ := q0
    subst q1
    exact ⟨f, A, m, c, ss, rfl, hr, hs, hm⟩
end
end Go.Proofs.Ytkcabllnlbcgdaa
