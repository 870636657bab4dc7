/-
  Lists of impl.Voice, structs of 5 numbers, as rows of flat numbers: cells, make, append, copies, comparisons, marks. No program's law is walked here. No condition but that lengths stay in range.
-/
import Derived.Test.YtmenehgbhgehjaaGrow
import Derived.Test.YtmenehgbhgehjaaBase
import Derived.Deep.QuietTactic
import Derived.BigQuiet
import Derived.Deep.RegionHeld3
import Derived.Deep.DrawnRows
import Derived.Laws.AppendOwnNone
namespace Go.Proofs.Ytmenehgbhgehjaa
open Go.RowKit
set_option linter.unusedVariables false
set_option linter.unusedSimpArgs false
attribute [local go_sem ↓] Go.wp_at_zero Go.wp_at_succ
abbrev TVoice := Int × Int × Int × Int × Int
def flVoice : List TVoice → List Int
  | [] => []
  | t :: ts => t.1 :: t.2.1 :: t.2.2.1 :: t.2.2.2.1 :: t.2.2.2.2 :: flVoice ts
theorem flVoice_len : ∀ ts : List TVoice, (flVoice ts).length = ts.length * 5
  | [] => rfl
  | t :: ts => by simp only [flVoice, List.length_cons, flVoice_len ts]; omega
theorem flVoice_get : ∀ (ts : List TVoice) (k : Nat), k < ts.length → (iv (flVoice ts))[k * 5]? = some (.int .i64 (ts.getD k (0, 0, 0, 0, 0)).1) ∧ (iv (flVoice ts))[k * 5 + 1]? = some (.int .i64 (ts.getD k (0, 0, 0, 0, 0)).2.1) ∧ (iv (flVoice ts))[k * 5 + 2]? = some (.int .i64 (ts.getD k (0, 0, 0, 0, 0)).2.2.1) ∧ (iv (flVoice ts))[k * 5 + 3]? = some (.int .i64 (ts.getD k (0, 0, 0, 0, 0)).2.2.2.1) ∧ (iv (flVoice ts))[k * 5 + 4]? = some (.int .i64 (ts.getD k (0, 0, 0, 0, 0)).2.2.2.2)
  | [], k, h => by simp at h
  | t :: ts, 0, h => by simp [flVoice, iv]
  | t :: ts, k + 1, h => by
    obtain ⟨h0, h1, h2, h3, h4⟩ := flVoice_get ts k (by simpa using h)
    refine ⟨?_, ?_, ?_, ?_, ?_⟩
    · rw [show (k + 1) * 5 = k * 5 + 1 + 1 + 1 + 1 + 1 by omega]
      simp only [flVoice, iv, List.map_cons, List.getElem?_cons_succ, List.getD_cons_succ]
      exact h0
    · rw [show (k + 1) * 5 + 1 = k * 5 + 1 + 1 + 1 + 1 + 1 + 1 by omega]
      simp only [flVoice, iv, List.map_cons, List.getElem?_cons_succ, List.getD_cons_succ]
      exact h1
    · rw [show (k + 1) * 5 + 2 = k * 5 + 2 + 1 + 1 + 1 + 1 + 1 by omega]
      simp only [flVoice, iv, List.map_cons, List.getElem?_cons_succ, List.getD_cons_succ]
      exact h2
    · rw [show (k + 1) * 5 + 3 = k * 5 + 3 + 1 + 1 + 1 + 1 + 1 by omega]
      simp only [flVoice, iv, List.map_cons, List.getElem?_cons_succ, List.getD_cons_succ]
      exact h3
    · rw [show (k + 1) * 5 + 4 = k * 5 + 4 + 1 + 1 + 1 + 1 + 1 by omega]
      simp only [flVoice, iv, List.map_cons, List.getElem?_cons_succ, List.getD_cons_succ]
      exact h4
theorem flVoice_set : ∀ (ts : List TVoice) (k : Nat) (x0 x1 x2 x3 x4 : Int), k < ts.length → ((((((iv (flVoice ts)).set (k * 5) (.int .i64 x0)).set (k * 5 + 1) (.int .i64 x1)).set (k * 5 + 2) (.int .i64 x2)).set (k * 5 + 3) (.int .i64 x3)).set (k * 5 + 4) (.int .i64 x4)) = iv (flVoice (ts.set k (x0, x1, x2, x3, x4)))
  | [], k, x0, x1, x2, x3, x4, h => by simp at h
  | t :: ts, 0, x0, x1, x2, x3, x4, h => by simp [flVoice, iv]
  | t :: ts, k + 1, x0, x1, x2, x3, x4, h => by
    have ih := flVoice_set ts k x0 x1 x2 x3 x4 (by simpa using h)
    rw [show (k + 1) * 5 + 4 = k * 5 + 4 + 1 + 1 + 1 + 1 + 1 by omega, show (k + 1) * 5 + 3 = k * 5 + 3 + 1 + 1 + 1 + 1 + 1 by omega, show (k + 1) * 5 + 2 = k * 5 + 2 + 1 + 1 + 1 + 1 + 1 by omega, show (k + 1) * 5 + 1 = k * 5 + 1 + 1 + 1 + 1 + 1 + 1 by omega, show (k + 1) * 5 = k * 5 + 1 + 1 + 1 + 1 + 1 by omega]
    simp only [flVoice, iv, List.map_cons, List.set_cons_succ] at ih ⊢
    rw [ih]
theorem flVoice_app : ∀ ts us : List TVoice, flVoice (ts ++ us) = flVoice ts ++ flVoice us
  | [], us => rfl
  | t :: ts, us => by simp [flVoice, flVoice_app ts us]
theorem flVoice_take : ∀ (ts : List TVoice) (k : Nat), flVoice (ts.take k) = (flVoice ts).take (k * 5)
  | [], k => by simp [flVoice]
  | t :: ts, 0 => by simp [flVoice]
  | t :: ts, k + 1 => by
    rw [show (k + 1) * 5 = k * 5 + 1 + 1 + 1 + 1 + 1 by omega]
    simp only [List.take_succ_cons, flVoice, flVoice_take ts k]
theorem voice_len {w : World} {B n : Nat} {A : Option Addr} {ts : List TVoice} (h : Reads w B 5 A n (iv (flVoice ts))) : ts.length = n := by have := h.1; rw [iv_len, flVoice_len] at this; omega
theorem voice_spot {w : World} {B n k : Nat} {A : Option Addr} {ts : List TVoice} (h : Reads w B 5 A n (iv (flVoice ts))) (hk : k < n) :
    ∃ b off, A = some ⟨b, off, none⟩ ∧ b < B ∧ w.cell? ⟨b, off + k * 5, none⟩ = some (.int .i64 (ts.getD k (0, 0, 0, 0, 0)).1) ∧ w.cell? ⟨b, off + k * 5 + 1, none⟩ = some (.int .i64 (ts.getD k (0, 0, 0, 0, 0)).2.1) ∧ w.cell? ⟨b, off + k * 5 + 2, none⟩ = some (.int .i64 (ts.getD k (0, 0, 0, 0, 0)).2.2.1) ∧ w.cell? ⟨b, off + k * 5 + 3, none⟩ = some (.int .i64 (ts.getD k (0, 0, 0, 0, 0)).2.2.2.1) ∧ w.cell? ⟨b, off + k * 5 + 4, none⟩ = some (.int .i64 (ts.getD k (0, 0, 0, 0, 0)).2.2.2.2) := by
  have hl : ts.length = n := voice_len h
  obtain ⟨⟨b, off, spot⟩, rfl, hb, hc⟩ := h.2 (by omega)
  obtain ⟨g0, g1, g2, g3, g4⟩ := flVoice_get ts k (by omega)
  obtain ⟨f0, _⟩ := flVoice_get ts 0 (by omega)
  have c0 := hc _ _ f0
  have hs : spot = none := by simpa [Addr.add] using World.cell?_spot c0
  subst hs
  have ha : ∀ j, ((⟨b, off, none⟩ : Addr).add j) = ⟨b, off + j, none⟩ := by intro j; unfold Addr.add; split <;> simp_all
  refine ⟨b, off, rfl, hb, ?_, ?_, ?_, ?_, ?_⟩
  · have := hc _ _ g0; rwa [ha] at this
  · have := hc _ _ g1; rwa [ha, ← Nat.add_assoc] at this
  · have := hc _ _ g2; rwa [ha, ← Nat.add_assoc] at this
  · have := hc _ _ g3; rwa [ha, ← Nat.add_assoc] at this
  · have := hc _ _ g4; rwa [ha, ← Nat.add_assoc] at this
theorem voice_cells {w : World} {B n k b off : Nat} {ts : List TVoice} (h : Reads w B 5 (some ⟨b, off, none⟩) n (iv (flVoice ts))) (hk : k < n) :
    b < B ∧ w.cell? ⟨b, off + k * 5, none⟩ = some (.int .i64 (ts.getD k (0, 0, 0, 0, 0)).1) ∧ w.cell? ⟨b, off + k * 5 + 1, none⟩ = some (.int .i64 (ts.getD k (0, 0, 0, 0, 0)).2.1) ∧ w.cell? ⟨b, off + k * 5 + 2, none⟩ = some (.int .i64 (ts.getD k (0, 0, 0, 0, 0)).2.2.1) ∧ w.cell? ⟨b, off + k * 5 + 3, none⟩ = some (.int .i64 (ts.getD k (0, 0, 0, 0, 0)).2.2.2.1) ∧ w.cell? ⟨b, off + k * 5 + 4, none⟩ = some (.int .i64 (ts.getD k (0, 0, 0, 0, 0)).2.2.2.2) := by
  obtain ⟨b', off', e, hb, h'⟩ := voice_spot h hk
  injection e with e
  injection e with e1 e2
  subst e1 e2
  exact ⟨hb, h'⟩
theorem voice_take {w : World} {B n k : Nat} {A : Option Addr} {ts : List TVoice} (h : Reads w B 5 A n (iv (flVoice ts))) (hk : k ≤ n) : Reads w B 5 A k (iv (flVoice (ts.take k))) := by
  have hl := voice_len h
  refine ⟨by rw [iv_len, flVoice_len, List.length_take]; omega, fun h0 => ?_⟩
  obtain ⟨ad, e, hb, hc⟩ := h.2 (by omega)
  refine ⟨ad, e, hb, fun j u hu => hc j u ?_⟩
  rw [flVoice_take, ← iv_take, List.getElem?_take] at hu
  split at hu
  · exact hu
  · cases hu
theorem voice_grow (n k : Nat) (ts : List TVoice) (hl : ts.length = n) (hk : k < n) : (ts.take k ++ List.replicate (n - k) (0, 0, 0, 0, 0)).set k (ts.getD k (0, 0, 0, 0, 0)) = ts.take (k + 1) ++ List.replicate (n - (k + 1)) (0, 0, 0, 0, 0) := by
  apply List.ext_getElem?
  intro j
  simp only [List.getElem?_set, List.length_append, List.length_take, List.length_replicate, List.getElem?_append, List.getElem?_take, List.getElem?_replicate]
  by_cases hj : k = j
  · subst hj
    have h1 : k < min k ts.length + (n - k) := by omega
    have h2 : k < min (k + 1) ts.length := by omega
    have h3 : k < ts.length := by omega
    simp [h1, h2, List.getD_eq_getElem?_getD, List.getElem?_eq_getElem h3]
  · by_cases hlt : j < k
    · have h1 : j < min k ts.length := by omega
      have h2 : j < min (k + 1) ts.length := by omega
      have h3 : j < k + 1 := by omega
      simp [hj, h1, h2, hlt, h3]
    · have h1 : ¬ j < min k ts.length := by omega
      have h2 : ¬ j < min (k + 1) ts.length := by omega
      simp only [hj, h1, h2, if_false]
      have e1 : min k ts.length = k := by omega
      have e2 : min (k + 1) ts.length = k + 1 := by omega
      rw [e1, e2]
      by_cases h4 : j < n
      · rw [if_pos (by omega), if_pos (by omega)]
      · rw [if_neg (by omega), if_neg (by omega)]
/-- A struct as a value. -/
def vVoice (t : TVoice) : Value := .agg #[.int .i64 (t).1, .int .i64 (t).2.1, .int .i64 (t).2.2.1, .int .i64 (t).2.2.2.1, .int .i64 (t).2.2.2.2]
theorem voice_list (n : Nat) (P : Nat → TVoice → Prop) (h : ∀ i, i < n → ∃ t, P i t) : ∃ ts : List TVoice, ts.length = n ∧ ∀ i, i < n → P i (ts.getD i (0, 0, 0, 0, 0)) := by
  have h' : ∀ i, ∃ t, i < n → P i t := fun i => by
    by_cases hi : i < n
    · obtain ⟨t, ht⟩ := h i hi
      exact ⟨t, fun _ => ht⟩
    · exact ⟨(0, 0, 0, 0, 0), fun h => absurd h hi⟩
  refine ⟨(List.range n).map fun i => Classical.choose (h' i), by simp, fun i hi => ?_⟩
  have : ((List.range n).map fun i => Classical.choose (h' i)).getD i (0, 0, 0, 0, 0) = Classical.choose (h' i) := by
    simp [List.getD_eq_getElem?_getD, hi]
  rw [this]
  exact Classical.choose_spec (h' i) hi
theorem voice_reads {w : World} {a : Addr} {n : Nat} {ts : List TVoice} (hl : ts.length = n) (hc : ∀ i, i < n → w.cell? (a.add (i * 5 + 0)) = some (.int .i64 (ts.getD i (0, 0, 0, 0, 0)).1) ∧ w.cell? (a.add (i * 5 + 1)) = some (.int .i64 (ts.getD i (0, 0, 0, 0, 0)).2.1) ∧ w.cell? (a.add (i * 5 + 2)) = some (.int .i64 (ts.getD i (0, 0, 0, 0, 0)).2.2.1) ∧ w.cell? (a.add (i * 5 + 3)) = some (.int .i64 (ts.getD i (0, 0, 0, 0, 0)).2.2.2.1) ∧ w.cell? (a.add (i * 5 + 4)) = some (.int .i64 (ts.getD i (0, 0, 0, 0, 0)).2.2.2.2)) :
    Reads w w.heap.size 5 (some a) n (iv (flVoice ts)) := by
  refine ⟨by rw [iv_len, flVoice_len, hl], fun hn => ⟨a, rfl, ?_, fun j u hu => ?_⟩⟩
  · have := (hc 0 hn).1
    rcases Nat.lt_or_ge a.block w.heap.size with hlt | hge
    · exact hlt
    · rw [show 0 * 5 + 0 = 0 from rfl] at this
      simp [World.cell?, Addr.add, Array.getElem?_eq_none hge] at this
  · have hj : j < ts.length * 5 := by
      obtain ⟨hk, _⟩ := iv_get hu
      rwa [flVoice_len] at hk
    have hi : j / 5 < n := by omega
    obtain ⟨g0, g1, g2, g3, g4⟩ := flVoice_get ts (j / 5) (by omega)
    obtain ⟨c0, c1, c2, c3, c4⟩ := hc (j / 5) hi
    have hr : j = j / 5 * 5 + 0 ∨ j = j / 5 * 5 + 1 ∨ j = j / 5 * 5 + 2 ∨ j = j / 5 * 5 + 3 ∨ j = j / 5 * 5 + 4 := by omega
    rcases hr with h | h | h | h | h
    · rw [h] at hu ⊢
      exact c0.trans (g0.symm.trans hu)
    · rw [h] at hu ⊢
      exact c1.trans (g1.symm.trans hu)
    · rw [h] at hu ⊢
      exact c2.trans (g2.symm.trans hu)
    · rw [h] at hu ⊢
      exact c3.trans (g3.symm.trans hu)
    · rw [h] at hu ⊢
      exact c4.trans (g4.symm.trans hu)
theorem flVoice_zeros : ∀ n : Nat, iv (flVoice (List.replicate n (0, 0, 0, 0, 0))) = List.replicate (n * 5) (.int .i64 0)
  | 0 => rfl
  | n + 1 => by
    rw [show (n + 1) * 5 = n * 5 + 1 + 1 + 1 + 1 + 1 by omega]
    simp only [List.replicate_succ, flVoice]
    have := flVoice_zeros n
    simp only [iv, List.map_cons] at this ⊢
    rw [this]
theorem voice_made (m : Nat) : (madeCells #[.int .i64 0, .int .i64 0, .int .i64 0, .int .i64 0, .int .i64 0] m).toList = List.replicate m (.int .i64 0) := by
  rw [List.eq_replicate_iff]
  refine ⟨by simp [size_madeCells], fun u hu => ?_⟩
  simp only [madeCells, Array.toList_map, List.mem_map] at hu
  obtain ⟨i, _, rfl⟩ := hu
  have : i % 5 = 0 ∨ i % 5 = 1 ∨ i % 5 = 2 ∨ i % 5 = 3 ∨ i % 5 = 4 := by omega
  show (#[Value.int .i64 0, Value.int .i64 0, Value.int .i64 0, Value.int .i64 0, Value.int .i64 0] : Array Value)[i % 5]! = _
  rcases this with h | h | h | h | h <;> rw [h] <;> rfl
theorem voice_store {w : World} {g c n k base E : Nat} {ts : List TVoice} (h : w.ownsRow base E 5 (.slice (some ⟨g, 0, none⟩) n c) n (iv (flVoice ts))) (hk : k < n) :
    (w.cell? ⟨g, k * 5, none⟩ = some (.int .i64 (ts.getD k (0, 0, 0, 0, 0)).1) ∧ w.cell? ⟨g, k * 5 + 1, none⟩ = some (.int .i64 (ts.getD k (0, 0, 0, 0, 0)).2.1) ∧ w.cell? ⟨g, k * 5 + 2, none⟩ = some (.int .i64 (ts.getD k (0, 0, 0, 0, 0)).2.2.1) ∧ w.cell? ⟨g, k * 5 + 3, none⟩ = some (.int .i64 (ts.getD k (0, 0, 0, 0, 0)).2.2.2.1) ∧ w.cell? ⟨g, k * 5 + 4, none⟩ = some (.int .i64 (ts.getD k (0, 0, 0, 0, 0)).2.2.2.2)) ∧
    (w.frozen? ⟨g, k * 5, none⟩ = false ∧ w.frozen? ⟨g, k * 5 + 1, none⟩ = false ∧ w.frozen? ⟨g, k * 5 + 2, none⟩ = false ∧ w.frozen? ⟨g, k * 5 + 3, none⟩ = false ∧ w.frozen? ⟨g, k * 5 + 4, none⟩ = false) ∧
    ∀ x0 x1 x2 x3 x4 : Int, (((((w.setCell ⟨g, k * 5, none⟩ (.int .i64 x0)).setCell ⟨g, k * 5 + 1, none⟩ (.int .i64 x1)).setCell ⟨g, k * 5 + 2, none⟩ (.int .i64 x2)).setCell ⟨g, k * 5 + 3, none⟩ (.int .i64 x3)).setCell ⟨g, k * 5 + 4, none⟩ (.int .i64 x4)).ownsRow base E 5 (.slice (some ⟨g, 0, none⟩) n c) n (iv (flVoice (ts.set k (x0, x1, x2, x3, x4)))) ∧
      w.grownBy (((((w.setCell ⟨g, k * 5, none⟩ (.int .i64 x0)).setCell ⟨g, k * 5 + 1, none⟩ (.int .i64 x1)).setCell ⟨g, k * 5 + 2, none⟩ (.int .i64 x2)).setCell ⟨g, k * 5 + 3, none⟩ (.int .i64 x3)).setCell ⟨g, k * 5 + 4, none⟩ (.int .i64 x4)) (some g) := by
  have hl : ts.length = n := by have := h.1; rw [iv_len, flVoice_len] at this; omega
  obtain ⟨g0, g1, g2, g3, g4⟩ := flVoice_get ts k (by omega)
  refine ⟨⟨(h.cellAt _ (by omega)).trans g0, (h.cellAt _ (by omega)).trans g1, (h.cellAt _ (by omega)).trans g2, (h.cellAt _ (by omega)).trans g3, (h.cellAt _ (by omega)).trans g4⟩, ⟨h.frozenAt _, h.frozenAt _, h.frozenAt _, h.frozenAt _, h.frozenAt _⟩, fun x0 x1 x2 x3 x4 => ?_⟩
  obtain ⟨a0, b0⟩ := h.stored (k * 5) (.int .i64 x0)
  obtain ⟨a1, b1⟩ := a0.stored (k * 5 + 1) (.int .i64 x1)
  obtain ⟨a2, b2⟩ := a1.stored (k * 5 + 2) (.int .i64 x2)
  obtain ⟨a3, b3⟩ := a2.stored (k * 5 + 3) (.int .i64 x3)
  obtain ⟨a4, b4⟩ := a3.stored (k * 5 + 4) (.int .i64 x4)
  rw [flVoice_set ts k x0 x1 x2 x3 x4 (by omega)] at a4
  exact ⟨a4, ((((b0.trans b1).trans b2).trans b3).trans b4)⟩
theorem voice_mark {w : World} {g c n k base E : Nat} {k0 : Int} {xs : List Int} (h : w.ownsRow base E 5 (.slice (some ⟨g, 0, none⟩) n c) n (iv (marked k0 (k * 5) xs))) (hl : xs.length = n * 5) (hk : k < n) :
    ((∃ v, w.cell? ⟨g, k * 5, none⟩ = some v) ∧ (∃ v, w.cell? ⟨g, k * 5 + 1, none⟩ = some v) ∧ (∃ v, w.cell? ⟨g, k * 5 + 2, none⟩ = some v) ∧ (∃ v, w.cell? ⟨g, k * 5 + 3, none⟩ = some v) ∧ (∃ v, w.cell? ⟨g, k * 5 + 4, none⟩ = some v)) ∧
    (w.frozen? ⟨g, k * 5, none⟩ = false ∧ w.frozen? ⟨g, k * 5 + 1, none⟩ = false ∧ w.frozen? ⟨g, k * 5 + 2, none⟩ = false ∧ w.frozen? ⟨g, k * 5 + 3, none⟩ = false ∧ w.frozen? ⟨g, k * 5 + 4, none⟩ = false) ∧
    ∀ x0 x1 x2 x3 x4 : Int, x0 = k0 + ((k * 5 : Nat) : Int) → x1 = k0 + ((k * 5 + 1 : Nat) : Int) → x2 = k0 + ((k * 5 + 2 : Nat) : Int) → x3 = k0 + ((k * 5 + 3 : Nat) : Int) → x4 = k0 + ((k * 5 + 4 : Nat) : Int) → (((((w.setCell ⟨g, k * 5, none⟩ (.int .i64 x0)).setCell ⟨g, k * 5 + 1, none⟩ (.int .i64 x1)).setCell ⟨g, k * 5 + 2, none⟩ (.int .i64 x2)).setCell ⟨g, k * 5 + 3, none⟩ (.int .i64 x3)).setCell ⟨g, k * 5 + 4, none⟩ (.int .i64 x4)).ownsRow base E 5 (.slice (some ⟨g, 0, none⟩) n c) n (iv (marked k0 ((k + 1) * 5) xs)) ∧
      w.grownBy (((((w.setCell ⟨g, k * 5, none⟩ (.int .i64 x0)).setCell ⟨g, k * 5 + 1, none⟩ (.int .i64 x1)).setCell ⟨g, k * 5 + 2, none⟩ (.int .i64 x2)).setCell ⟨g, k * 5 + 3, none⟩ (.int .i64 x3)).setCell ⟨g, k * 5 + 4, none⟩ (.int .i64 x4)) (some g) := by
  have hm : (iv (marked k0 (k * 5) xs)).length = n * 5 := h.1
  have hx : ∀ j, j < n * 5 → ∃ v, w.cell? ⟨g, j, none⟩ = some v := fun j hj =>
    ⟨(iv (marked k0 (k * 5) xs))[j]'(by omega), (h.cellAt j (by omega)).trans (List.getElem?_eq_getElem (by omega))⟩
  refine ⟨⟨hx _ (by omega), hx _ (by omega), hx _ (by omega), hx _ (by omega), hx _ (by omega)⟩, ⟨h.frozenAt _, h.frozenAt _, h.frozenAt _, h.frozenAt _, h.frozenAt _⟩, ?_⟩
  rintro x0 x1 x2 x3 x4 rfl rfl rfl rfl rfl
  obtain ⟨a0, b0⟩ := h.stored (k * 5) (.int .i64 (k0 + ((k * 5 : Nat) : Int)))
  obtain ⟨a1, b1⟩ := a0.stored (k * 5 + 1) (.int .i64 (k0 + ((k * 5 + 1 : Nat) : Int)))
  obtain ⟨a2, b2⟩ := a1.stored (k * 5 + 2) (.int .i64 (k0 + ((k * 5 + 2 : Nat) : Int)))
  obtain ⟨a3, b3⟩ := a2.stored (k * 5 + 3) (.int .i64 (k0 + ((k * 5 + 3 : Nat) : Int)))
  obtain ⟨a4, b4⟩ := a3.stored (k * 5 + 4) (.int .i64 (k0 + ((k * 5 + 4 : Nat) : Int)))
  rw [marked_succ k0 (k * 5) xs (by omega), marked_succ k0 (k * 5 + 1) xs (by omega), marked_succ k0 (k * 5 + 2) xs (by omega), marked_succ k0 (k * 5 + 3) xs (by omega), marked_succ k0 (k * 5 + 4) xs (by omega)] at a4
  rw [show k * 5 + 4 + 1 = (k + 1) * 5 by omega] at a4
  exact ⟨a4, ((((b0.trans b1).trans b2).trans b3).trans b4)⟩
set_option maxHeartbeats 1000000 in
theorem tupVoice_any (t : TVoice) (w : World) :
    Calls Try.prog 23 #[vVoice t] w fun e w' => e = .returned (vVoice t) ∧ Below w.heap.size w w' := by
  obtain ⟨x0, x1, x2, x3, x4⟩ := t
  unfold vVoice
  go_enter Try.func23, Try.ntmps23
  go_wp2
  refine bodyPost_ret (v := .agg #[.int .i64 x0, .int .i64 x1, .int .i64 x2, .int .i64 x3, .int .i64 x4]) (by simp [results, Try.results23, go_sem]) rfl ⟨rfl, ?_⟩
  exact ((((Below.refl _ _).alloc (Nat.le_refl _) _).alloc (by simp) _).alloc (by simp; omega) _)
set_option maxHeartbeats 1000000 in
theorem eqVoice_same' (t : TVoice) (w : World) :
    Calls Try.prog 25 #[vVoice t, vVoice t] w fun e w' => e = .returned (.bool true) ∧ Below w.heap.size w w' := by
  obtain ⟨x0, x1, x2, x3, x4⟩ := t
  unfold vVoice
  have hx0 : (x0 != x0) = false := by simp
  have hx1 : (x1 != x1) = false := by simp
  have hx2 : (x2 != x2) = false := by simp
  have hx3 : (x3 != x3) = false := by simp
  have hx4 : (x4 != x4) = false := by simp
  go_enter Try.func25, Try.ntmps25
  go_wp2
  go_ret
  exact ⟨rfl, ((Below.refl _ _).alloc (Nat.le_refl _) _).alloc (by simp) _⟩
theorem voice_info : (Try.prog.info? 24).map (fun i => (i.zero, i.size, i.bytes)) = some (some (vVoice (0, 0, 0, 0, 0)), 5, 40) := by kernel_rfl
theorem make_voice {ops : Array Oper} {rest : List Oper} {o : Oper} {a : Act} {Q : Exit → Act → World → Prop} (w : World) (hgd : o.guard = none) (l c : Operand)
    (ho : o.op = Op.makeSlice 40 l c) (n : Nat) (hl : a.eval l = .int .i64 (n : Int)) (hc : a.eval c = .int .i64 (n : Int)) (hn : n ≤ 1000000000) (base : Nat) (hb : base ≤ w.heap.size)
    (h : ∀ w', w'.ownsRow base 24 5 (.slice (some ⟨w.heap.size, 0, none⟩) n n) n (iv (flVoice (List.replicate n (0, 0, 0, 0, 0)))) → Below w.heap.size w w' → wpList Try.prog ops Q rest (a.put o.dst (.slice (some ⟨w.heap.size, 0, none⟩) n n)) w') :
    wpList Try.prog ops Q (o :: rest) a w := by
  obtain ⟨i0, hi0, hz0, hz1, hz2⟩ := info_parts voice_info
  refine wpList_make_full w hgd l c 40 ho base 24 i0 (vVoice (0, 0, 0, 0, 0)) 5 Try.underlying40 hi0 hz0 hz1 .i64 .i64 _ _ n hl hc rfl rfl (by rw [hz2]; omega) (by simp only [maxLen]; omega) hb ?_
  intro w' h1 h2
  refine h w' ?_ (below_of_grown h2 (Nat.le_refl _) (by intro k hk; cases hk))
  have e : (madeCells (vVoice (0, 0, 0, 0, 0)).cells (n * 5)).toList = iv (flVoice (List.replicate n (0, 0, 0, 0, 0))) := by
    rw [flVoice_zeros]
    exact voice_made _
  rwa [e] at h1
/-- append of some structs that lie elsewhere. -/
theorem push_voice {ops : Array Oper} {rest : List Oper} {o : Oper} {a : Act} {Q : Exit → Act → World → Prop} (w : World) (hgd : o.guard = none) (s x : Operand)
    (ho : o.op = .call { callee := .builtin .append, args := #[s, x], argTypes := #[40, 40] })
    (base n c m d B : Nat) (A X : Option Addr) (xs ys : List Int) (hs : a.eval s = .slice A n c) (hx : a.eval x = .slice X m d)
    (hown : w.ownsRow base 24 5 (.slice A n c) n (iv xs)) (hy : Reads w B 5 X m (iv ys)) (hd : X = none → d = 0) (hn : n + m ≤ 10000000) (hb : base ≤ w.heap.size)
    (h : ∀ A' c' w', w'.ownsRow base 24 5 (.slice A' (n + m) c') (n + m) (iv (xs ++ ys)) → w.grownBy w' (Value.slice A n c).ownBlock → wpList Try.prog ops Q rest (a.put o.dst (.slice A' (n + m) c')) w') :
    wpList Try.prog ops Q (o :: rest) a w := by
  obtain ⟨i0, hi0, hz0, hz1, hz2⟩ := info_parts voice_info
  cases X with
  | none =>
    have hm : m = 0 := by
      rcases Nat.eq_zero_or_pos m with h0 | h0
      · exact h0
      · obtain ⟨ad, e, _⟩ := hy.2 h0; cases e
    subst hm
    have hd := hd rfl
    subst hd
    have hl : ys = [] := by have := hy.1; simp [iv_len] at this; exact this
    subst hl
    refine wpList_append_own_none hgd s x 40 ho base 24 i0 5 Try.underlying40 hi0 _ n (iv xs) hs hown hx ?_
    have := h A c w (by simpa using hown) (World.grownBy.refl _ _)
    simpa using this
  | some ad =>
    refine wpList_append_own_at w hgd s x 40 ho base 24 i0 (vVoice (0, 0, 0, 0, 0)) 5 40 Try.underlying40 hi0 hz0 hz1 hz2 rfl (by omega) _ n (iv xs) hs hown ad m d (iv ys) hx hy.1 ?_ ?_ (by simp only [maxLen]; omega) (by omega) hb ?_
    · intro j u hj
      have hm : 0 < m := by
        obtain ⟨hk, _⟩ := iv_get hj
        have := hy.1; rw [iv_len] at this
        rcases Nat.eq_zero_or_pos m with h0 | h0
        · subst h0; omega
        · exact h0
      obtain ⟨ad', e, _, hc⟩ := hy.2 hm
      injection e with e
      subst e
      exact hc j u hj
    · intro u hu
      simp only [iv, List.mem_map] at hu
      obtain ⟨z, _, rfl⟩ := hu
      rfl
    · intro v' w' ho' hg' _ hat
      obtain ⟨A', c', rfl⟩ := own_form ho'
      rw [← iv_append] at ho'
      exact h A' c' w' ho' hg'
/-- A literal of some structs. -/
theorem voice_lit {w : World} {E : TypeId} (ts : List TVoice) (cs : Array Value) (h : cs.toList = iv (flVoice ts)) (hm : ts.length ≤ 1000) : Reads (w.alloc (.cells cs E)) (w.heap.size + 1) 5 (some ⟨w.heap.size, 0, none⟩) ts.length (iv (flVoice ts)) := by
  have hs : cs.size = ts.length * 5 := by rw [← Array.length_toList, h, iv_len, flVoice_len]
  have o : (w.alloc (.cells cs E)).ownsRow w.heap.size E 5 (.slice (some ⟨w.heap.size, 0, none⟩) ts.length ts.length) ts.length cs.toList := World.ownsRow_lit w cs ts.length (Nat.le_refl _) (by simp only [maxLen]; omega) hs
  rw [h] at o
  have := Reads.of_own o
  simpa using this
set_option maxHeartbeats 2000000 in
theorem toVoiceS_any (A : Option Addr) (n c : Nat) (ts : List TVoice) (w : World) (h : Reads w w.heap.size 5 A n (iv (flVoice ts))) (hn : n ≤ 1000000000) :
    Calls Try.prog 34 #[.slice A n c] w fun e w' => ∃ A' c', e = .returned (.slice A' n c') ∧ w'.ownsRow w.heap.size 24 5 (.slice A' n c') n (iv (flVoice ts)) ∧ Below w.heap.size w w' := by
  have hl := voice_len h
  have H := Lib.hid h
  clear h
  go_enter Try.func34, Try.ntmps34
  go_wp2_with (at_make; refine make_voice _ rfl _ _ rfl n rfl rfl hn w.heap.size (Nat.le_refl _) ?_; intro w1 ho1 hb1; replace ho1 := Lib.hid ho1)
  go_loopw [4] (fun i wr => ∃ k : Nat, k ≤ n ∧ i = .int .i64 k ∧ wr.ownsRow w.heap.size 24 5 (.slice (some ⟨w.heap.size, 0, none⟩) n n) n (iv (flVoice (ts.take k ++ List.replicate (n - k) (0, 0, 0, 0, 0)))) ∧ Below w.heap.size w wr) (fun i _ => n - (intOf i).toNat)
  case atStart => exact ⟨0, Nat.zero_le _, rfl, by simpa using ho1.out, hb1⟩
  case round =>
    obtain ⟨k, hk, rfl, hown, hb⟩ := hrel
    by_cases hlt : k < n
    · obtain ⟨b, off, e1, _, h0, h1, h2, h3, h4⟩ := voice_spot (H.out.below hb) hlt
      have e1 := Lib.hid e1
      have hgs := voice_grow n k ts hl hlt
      obtain ⟨t, ht⟩ : ∃ t, t = ts.getD k (0, 0, 0, 0, 0) := ⟨_, rfl⟩
      rw [← ht] at h0 h1 h2 h3 h4 hgs
      clear ht
      obtain ⟨x0, x1, x2, x3, x4⟩ := t
      have HGS := Lib.hid hgs
      have HO := Lib.hid hown
      have HB := Lib.hid hb
      have q1 : (k : Int) < (n : Int) := by omega
      clear hown hb ho1 hb1 H hgs
      have e2 := e1.out
      subst e2
      have hto := Lib.hid (fun W => tupVoice_any (x0, x1, x2, x3, x4) W)
      simp only [vVoice] at hto
      go_wp2_with (go_at_call 23; refine (hto.out _).mono ?_; rintro e w5 ⟨rfl, b5⟩; obtain ⟨⟨s0, s1, s2, s3, s4⟩, ⟨f0, f1, f2, f3, f4⟩, hst⟩ := voice_store (own_below HO.out b5) hlt; replace hst := Lib.hid (hst x0 x1 x2 x3 x4); replace b5 := Lib.hid b5)
      go_roundw
      case rel =>
        have hst := hst.out
        rw [HGS.out] at hst
        exact ⟨k + 1, by omega, by go_num, hst.1, (below_step HB.out b5.out HB.out.size).grown hst.2 (Nat.le_trans HB.out.size b5.out.size) (by intro k hk; injection hk with hk; omega)⟩
      case measure => simp [intOf]; omega
    · obtain rfl : k = n := by omega
      go_wp2
      go_ret
      refine ⟨_, _, rfl, ?_, hb⟩
      rwa [Nat.sub_self, List.replicate_zero, List.append_nil, List.take_of_length_le (by omega)] at hown
set_option maxHeartbeats 4000000 in
theorem eqVoiceS_same (A B : Option Addr) (n c d : Nat) (ts : List TVoice) (w : World) (ha : Reads w w.heap.size 5 A n (iv (flVoice ts))) (hb : Reads w w.heap.size 5 B n (iv (flVoice ts))) (hn : n ≤ 1000000000) :
    Calls Try.prog 35 #[.slice A n c, .slice B n d] w fun e w' => e = .returned (.bool true) ∧ Below w.heap.size w w' := by
  have hnn : (((n : Int) != (n : Int)) = false) := by simp
  have HA := Lib.hid ha
  have HB := Lib.hid hb
  clear ha hb
  go_enter Try.func35, Try.ntmps35
  go_wp2
  go_loopw [5] (fun i wr => ∃ k : Nat, k ≤ n ∧ i = .int .i64 k ∧ Below w.heap.size w wr) (fun i _ => n - (intOf i).toNat)
  case atStart => exact ⟨0, Nat.zero_le _, rfl, Below.refl _ _⟩
  case round =>
    obtain ⟨k, hk, rfl, hbel⟩ := hrel
    by_cases hlt : k < n
    · obtain ⟨b, off, e1, hb1, h0, h1, h2, h3, h4⟩ := voice_spot (HA.out.below hbel) hlt
      obtain ⟨b2, off2, e2, hb2, g0, g1, g2, g3, g4⟩ := voice_spot (HB.out.below hbel) hlt
      have e1 := Lib.hid e1
      have e2 := Lib.hid e2
      generalize ts.getD k (0, 0, 0, 0, 0) = t at h0 h1 h2 h3 h4 g0 g1 g2 g3 g4
      obtain ⟨x0, x1, x2, x3, x4⟩ := t
      have q0 : (0 : Int) ≤ (k : Int) := by omega
      have q1 : (k : Int) < (n : Int) := by omega
      have hz : w.heap.size ≤ wr.heap.size := hbel.size
      have hb1' : b < wr.heap.size := by omega
      have hb2' : b2 < wr.heap.size := by omega
      have hto := Lib.hid (fun W => eqVoice_same' (x0, x1, x2, x3, x4) W)
      simp only [vVoice] at hto
      have HBEL := Lib.hid hbel
      clear hbel HA HB
      have e3 := e1.out
      subst e3
      have e4 := e2.out
      subst e4
      go_wp2_with fail
      go_region_held3 (fun w' => w'.cell? ⟨b, off + k * 5, none⟩ = some (.int .i64 x0) ∧ w'.cell? ⟨b, off + k * 5 + 1, none⟩ = some (.int .i64 x1) ∧ w'.cell? ⟨b, off + k * 5 + 2, none⟩ = some (.int .i64 x2) ∧ w'.cell? ⟨b, off + k * 5 + 3, none⟩ = some (.int .i64 x3) ∧ w'.cell? ⟨b, off + k * 5 + 4, none⟩ = some (.int .i64 x4) ∧ w'.cell? ⟨b2, off2 + k * 5, none⟩ = some (.int .i64 x0) ∧ w'.cell? ⟨b2, off2 + k * 5 + 1, none⟩ = some (.int .i64 x1) ∧ w'.cell? ⟨b2, off2 + k * 5 + 2, none⟩ = some (.int .i64 x2) ∧ w'.cell? ⟨b2, off2 + k * 5 + 3, none⟩ = some (.int .i64 x3) ∧ w'.cell? ⟨b2, off2 + k * 5 + 4, none⟩ = some (.int .i64 x4)) (first | exact ⟨h0, h1, h2, h3, h4, g0, g1, g2, g3, g4⟩ | exact ⟨(b5.cell hb1').trans h0, (b5.cell hb1').trans h1, (b5.cell hb1').trans h2, (b5.cell hb1').trans h3, (b5.cell hb1').trans h4, (b5.cell hb2').trans g0, (b5.cell hb2').trans g1, (b5.cell hb2').trans g2, (b5.cell hb2').trans g3, (b5.cell hb2').trans g4⟩) ((go_at_call 25; refine (hto.out _).mono ?_; rintro e w5 ⟨rfl, b5⟩))
      go_wp2_with fail
      go_roundw
      case rel => exact ⟨k + 1, by omega, by go_num, below_step HBEL.out.drew b5 hz⟩
      case measure => simp [intOf]; omega
    · go_wp2
      go_ret
      exact ⟨rfl, hbel⟩
theorem szVoiceS_any (A : Option Addr) (n c : Nat) (l : Int) (w : World) (h0 : 0 ≤ l) (h1 : l ≤ 1000000000) (hn : n ≤ 9223372036854775807) :
    Calls Try.prog 33 #[.slice A n c, .int .i64 l] w fun e w' => e = .returned (.int .i64 (if l - n < 0 then -1 else l - n)) ∧ w = w' := by
  have hw : IntKind.i64.wrap (l - n) = l - n := IntWalk.i64_in _ (by omega)
  by_cases hlt : l - (n : Int) < 0
  · rw [if_pos hlt]
    go_enter Try.func33, Try.ntmps33
    go_wp2
    go_ret
    exact ⟨rfl, rfl⟩
  · rw [if_neg hlt]
    go_enter Try.func33, Try.ntmps33
    go_wp2
    go_ret
    exact ⟨rfl, rfl⟩
set_option maxHeartbeats 2000000 in
theorem markVoiceS_own (base : Nat) (A : Option Addr) (n c : Nat) (xs : List Int) (k0 : Int) (w : World) (ha : w.ownsRow base 24 5 (.slice A n c) n (iv xs)) (h0 : 0 ≤ k0) (hn : n ≤ 100000000) (h1 : k0 ≤ 1000000000) :
    Calls Try.prog 36 #[.slice A n c, .int .i64 k0] w fun e w' => e = .returned (.int .i64 (k0 + 5 * (n : Int))) ∧ w'.ownsRow base 24 5 (.slice A n c) n (iv (marks k0 (n * 5))) ∧ w.grownBy w' (Value.slice A n c).ownBlock := by
  have hl : xs.length = n * 5 := by have := ha.1; simp [iv_len] at this; omega
  go_enter Try.func36, Try.ntmps36
  go_wp2
  go_loopw [1, 5] (fun m i wr => ∃ k : Nat, k ≤ n ∧ i = .int .i64 k ∧ m = .int .i64 (k0 + 5 * (k : Int)) ∧ wr.ownsRow base 24 5 (.slice A n c) n (iv (marked k0 (k * 5) xs)) ∧ w.grownBy wr (Value.slice A n c).ownBlock) (fun _ i _ => n - (intOf i).toNat)
  case atStart => exact ⟨0, Nat.zero_le _, rfl, by go_num, by simpa [marked, marks] using ha, World.grownBy.refl w _⟩
  case round =>
    obtain ⟨k, hk, rfl, rfl, hown, hg⟩ := hrel
    by_cases hlt : k < n
    · obtain ⟨g, cap, e1, _, hgl⟩ := hown.form (by omega)
      injection e1 with e1 _ e3
      subst e1 e3
      obtain ⟨⟨⟨v0, c0⟩, ⟨v1, c1⟩, ⟨v2, c2⟩, ⟨v3, c3⟩, ⟨v4, c4⟩⟩, ⟨f0, f1, f2, f3, f4⟩, hst⟩ := voice_mark hown hl hlt
      have HG := Lib.hid hg
      obtain ⟨M, hM⟩ : ∃ M : Int, M = k0 + 5 * (k : Int) := ⟨_, rfl⟩
      have HST := Lib.hid (hst (M) (M + 1) (M + 1 + 1) (M + 1 + 1 + 1) (M + 1 + 1 + 1 + 1) (by omega) (by omega) (by omega) (by omega) (by omega))
      have hM0 : 0 ≤ M := by omega
      have hM1 : M ≤ 2000000000 := by omega
      rw [← hM]
      have HM := Lib.hid hM
      clear hst hown ha hg hM
      go_wp2
      go_roundw
      case rel => exact ⟨k + 1, by omega, by go_num, by rw [HM.out]; go_num, HST.out.1, HG.out.trans HST.out.2⟩
      case measure => simp [intOf]; omega
    · obtain rfl : k = n := by omega
      go_wp2
      go_ret
      refine ⟨rfl, ?_, hg⟩
      rwa [marked, List.drop_eq_nil_of_le (by omega), List.append_nil] at hown
theorem voice_of_marks (k0 : Int) (n : Nat) : ∃ ts : List TVoice, flVoice ts = marks k0 (n * 5) ∧ ts.length = n ∧ ∀ k, k < n → (ts.getD k (0, 0, 0, 0, 0)).1 = k0 + ((k * 5 : Nat) : Int) ∧ (ts.getD k (0, 0, 0, 0, 0)).2.1 = k0 + ((k * 5 + 1 : Nat) : Int) ∧ (ts.getD k (0, 0, 0, 0, 0)).2.2.1 = k0 + ((k * 5 + 2 : Nat) : Int) ∧ (ts.getD k (0, 0, 0, 0, 0)).2.2.2.1 = k0 + ((k * 5 + 3 : Nat) : Int) ∧ (ts.getD k (0, 0, 0, 0, 0)).2.2.2.2 = k0 + ((k * 5 + 4 : Nat) : Int) := by
  refine ⟨(List.range n).map fun i => (k0 + ((i * 5 : Nat) : Int), k0 + ((i * 5 + 1 : Nat) : Int), k0 + ((i * 5 + 2 : Nat) : Int), k0 + ((i * 5 + 3 : Nat) : Int), k0 + ((i * 5 + 4 : Nat) : Int)), ?_, by simp, fun k hk => by simp [List.getD_eq_getElem?_getD, hk]⟩
  induction n with
  | zero => rfl
  | succ n ih =>
    rw [List.range_succ, List.map_append, flVoice_app, ih, show (n + 1) * 5 = n * 5 + 1 + 1 + 1 + 1 + 1 by omega]
    simp only [marks, List.range_succ, List.map_append, List.map_cons, List.map_nil, flVoice, List.append_assoc, List.cons_append, List.nil_append]
end Go.Proofs.Ytmenehgbhgehjaa
