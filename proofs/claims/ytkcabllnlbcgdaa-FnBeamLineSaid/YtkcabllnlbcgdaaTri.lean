/-
  Lists of structs of three numbers (Stop, Change), as rows of flat numbers: cells, the writing of one struct. No program's law is walked here.
-/
import Derived.Test.YtkcabllnlbcgdaaEnv
import Derived.Test.YtkcabllnlbcgdaaBase
namespace Go.Proofs.Ytkcabllnlbcgdaa
open Go.RowKit
set_option linter.unusedVariables false
set_option linter.unusedSimpArgs false
abbrev Tri := Int × Int × Int
def fl3 : List Tri → List Int
  | [] => []
  | t :: ts => t.1 :: t.2.1 :: t.2.2 :: fl3 ts
theorem fl3_len : ∀ ts : List Tri, (fl3 ts).length = ts.length * 3
  | [] => rfl
  | t :: ts => by simp only [fl3, List.length_cons, fl3_len ts]; omega
theorem fl3_get : ∀ (ts : List Tri) (k : Nat), k < ts.length → (iv (fl3 ts))[k * 3]? = some (.int .i64 (ts.getD k (0, 0, 0)).1) ∧ (iv (fl3 ts))[k * 3 + 1]? = some (.int .i64 (ts.getD k (0, 0, 0)).2.1) ∧ (iv (fl3 ts))[k * 3 + 2]? = some (.int .i64 (ts.getD k (0, 0, 0)).2.2)
  | [], k, h => by simp at h
  | t :: ts, 0, h => by simp [fl3, iv]
  | t :: ts, k + 1, h => by
    have ih := fl3_get ts k (by simpa using h)
    rw [show (k + 1) * 3 = k * 3 + 1 + 1 + 1 by omega, show k * 3 + 1 + 1 + 1 + 1 = k * 3 + 1 + 1 + 1 + 1 from rfl]
    simp only [fl3, iv, List.map_cons, List.getElem?_cons_succ, List.getD_cons_succ]
    exact ih
theorem fl3_set : ∀ (ts : List Tri) (k : Nat) (a b c : Int), k < ts.length → (((iv (fl3 ts)).set (k * 3) (.int .i64 a)).set (k * 3 + 1) (.int .i64 b)).set (k * 3 + 2) (.int .i64 c) = iv (fl3 (ts.set k (a, b, c)))
  | [], k, a, b, c, h => by simp at h
  | t :: ts, 0, a, b, c, h => by simp [fl3, iv]
  | t :: ts, k + 1, a, b, c, h => by
    have ih := fl3_set ts k a b c (by simpa using h)
    rw [show (k + 1) * 3 = k * 3 + 1 + 1 + 1 by omega, show k * 3 + 1 + 1 + 1 + 2 = k * 3 + 2 + 1 + 1 + 1 by omega]
    simp only [fl3, iv, List.map_cons, List.set_cons_succ] at ih ⊢
    rw [ih]
theorem Tri.spot {w : World} {B n k : Nat} {A : Option Addr} {ts : List Tri} (h : Reads w B 3 A n (iv (fl3 ts))) (hk : k < n) :
    ∃ b off, A = some ⟨b, off, none⟩ ∧ b < B ∧ w.cell? ⟨b, off + k * 3, none⟩ = some (.int .i64 (ts.getD k (0, 0, 0)).1) ∧ w.cell? ⟨b, off + k * 3 + 1, none⟩ = some (.int .i64 (ts.getD k (0, 0, 0)).2.1) ∧ w.cell? ⟨b, off + k * 3 + 2, none⟩ = some (.int .i64 (ts.getD k (0, 0, 0)).2.2) := by
  have hl : ts.length = n := by have := h.1; rw [iv_len, fl3_len] at this; omega
  obtain ⟨⟨b, off, spot⟩, rfl, hb, hc⟩ := h.2 (by omega)
  obtain ⟨g0, g1, g2⟩ := fl3_get ts k (by omega)
  obtain ⟨f0, _, _⟩ := fl3_get ts 0 (by omega)
  have c0 := hc _ _ f0
  have hs : spot = none := by simpa [Addr.add] using World.cell?_spot c0
  subst hs
  have ha : ∀ j, ((⟨b, off, none⟩ : Addr).add j) = ⟨b, off + j, none⟩ := by intro j; unfold Addr.add; split <;> simp_all
  refine ⟨b, off, rfl, hb, ?_, ?_, ?_⟩
  · have := hc _ _ g0; rwa [ha] at this
  · have := hc _ _ g1; rwa [ha, ← Nat.add_assoc] at this
  · have := hc _ _ g2; rwa [ha, ← Nat.add_assoc] at this
theorem Tri.cells {w : World} {B n k b off : Nat} {ts : List Tri} (h : Reads w B 3 (some ⟨b, off, none⟩) n (iv (fl3 ts))) (hk : k < n) :
    b < B ∧ w.cell? ⟨b, off + k * 3, none⟩ = some (.int .i64 (ts.getD k (0, 0, 0)).1) ∧ w.cell? ⟨b, off + k * 3 + 1, none⟩ = some (.int .i64 (ts.getD k (0, 0, 0)).2.1) ∧ w.cell? ⟨b, off + k * 3 + 2, none⟩ = some (.int .i64 (ts.getD k (0, 0, 0)).2.2) := by
  obtain ⟨b', off', e, hb, h0, h1, h2⟩ := Tri.spot h hk
  injection e with e
  injection e with e1 e2
  subst e1 e2
  exact ⟨hb, h0, h1, h2⟩
theorem Tri.len {w : World} {B n : Nat} {A : Option Addr} {ts : List Tri} (h : Reads w B 3 A n (iv (fl3 ts))) : ts.length = n := by have := h.1; rw [iv_len, fl3_len] at this; omega
theorem grow_set (n k : Nat) (ts : List Tri) (hl : ts.length = n) (hk : k < n) : (ts.take k ++ List.replicate (n - k) (0, 0, 0)).set k (ts.getD k (0, 0, 0)) = ts.take (k + 1) ++ List.replicate (n - (k + 1)) (0, 0, 0) := by
  apply List.ext_getElem?
  intro j
  simp only [List.getElem?_set, List.length_append, List.length_take, List.length_replicate, List.getElem?_append, List.getElem?_take, List.getElem?_replicate]
  by_cases hj : k = j
  · subst hj
    have h1 : k < min k ts.length + (n - k) := by omega
    have h2 : k < min (k + 1) ts.length := by omega
    have h3 : k < ts.length := by omega
    simp [h1, h2, List.getD_eq_getElem?_getD, List.getElem?_eq_getElem h3]
  · by_cases hlt : j < k
    · have h1 : j < min k ts.length := by omega
      have h2 : j < min (k + 1) ts.length := by omega
      have h3 : j < k + 1 := by omega
      simp [hj, h1, h2, hlt, h3]
    · have h1 : ¬ j < min k ts.length := by omega
      have h2 : ¬ j < min (k + 1) ts.length := by omega
      simp only [hj, h1, h2, if_false]
      have e1 : min k ts.length = k := by omega
      have e2 : min (k + 1) ts.length = k + 1 := by omega
      rw [e1, e2]
      by_cases h4 : j < n
      · rw [if_pos (by omega), if_pos (by omega)]
      · rw [if_neg (by omega), if_neg (by omega)]
/-- A struct of three numbers. -/
def t3 (t : Tri) : Value := .agg #[.int .i64 t.1, .int .i64 t.2.1, .int .i64 t.2.2]
set_option maxHeartbeats 1000000 in
theorem toChange_any (t : Tri) (w : World) :
    Calls Try.prog 62 #[t3 t] w fun e w' => e = .returned (t3 t) ∧ Below w.heap.size w w' := by
  obtain ⟨x, y, z⟩ := t
  unfold t3
  go_enter Try.func62, Try.ntmps62
  go_wp2
  refine bodyPost_ret (v := .agg #[.int .i64 x, .int .i64 y, .int .i64 z]) (by simp [results, Try.results62, go_sem]) rfl ⟨rfl, ?_⟩
  exact (((Below.refl _ _).alloc (Nat.le_refl _) _).alloc (by simp) _).alloc (by simp; omega) _
set_option maxHeartbeats 1000000 in
theorem eqChange_same (t : Tri) (w : World) :
    Calls Try.prog 64 #[t3 t, t3 t] w fun e w' => e = .returned (.bool true) ∧ Below w.heap.size w w' := by
  obtain ⟨x, y, z⟩ := t
  unfold t3
  have hx : (x != x) = false := by simp
  have hy : (y != y) = false := by simp
  have hz : (z != z) = false := by simp
  go_enter Try.func64, Try.ntmps64
  go_wp2
  go_ret
  exact ⟨rfl, ((Below.refl _ _).alloc (Nat.le_refl _) _).alloc (by simp) _⟩
end Go.Proofs.Ytkcabllnlbcgdaa
