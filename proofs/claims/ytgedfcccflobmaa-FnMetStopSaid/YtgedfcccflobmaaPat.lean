/-
  Lists of patches (a number and a list of numbers each), to be read: cells, make, PatchSize in both packages, szPatchS. No condition but that lengths stay in range.
-/
import Derived.Test.YtgedfcccflobmaaGrow
import Derived.Test.YtgedfcccflobmaaBase
import Derived.Deep.QuietTactic
import Derived.BigQuiet
import Derived.Deep.RegionHeld3
import Derived.Deep.DrawnRows
namespace Go.Proofs.Ytgedfcccflobmaa
open Go.RowKit
set_option linter.unusedVariables false
set_option linter.unusedSimpArgs false
attribute [local go_sem ↓] Go.wp_at_zero Go.wp_at_succ
abbrev TP := Int × List Int
def nilV : Value := .slice none 0 0
/-- The cells of patches, given the slices' own values. -/
def pv : List TP → List Value → List Value
  | t :: ts, v :: vs => .int .i64 t.1 :: v :: pv ts vs
  | _, _ => []
theorem pv_len : ∀ (ts : List TP) (vs : List Value), vs.length = ts.length → (pv ts vs).length = ts.length * 2
  | [], [], _ => rfl
  | t :: ts, v :: vs, h => by simp only [pv, List.length_cons, pv_len ts vs (by simpa using h)]; omega
  | [], v :: vs, h => by simp at h
  | t :: ts, [], h => by simp at h
theorem pv_get : ∀ (ts : List TP) (vs : List Value) (k : Nat), vs.length = ts.length → k < ts.length → (pv ts vs)[k * 2]? = some (.int .i64 (ts.getD k (0, [])).1) ∧ (pv ts vs)[k * 2 + 1]? = some (vs.getD k nilV)
  | [], _, k, _, hk => by simp at hk
  | t :: ts, [], k, h, _ => by simp at h
  | t :: ts, v :: vs, 0, _, _ => by simp [pv]
  | t :: ts, v :: vs, k + 1, h, hk => by
    obtain ⟨a, b⟩ := pv_get ts vs k (by simpa using h) (by simpa using hk)
    rw [show (k + 1) * 2 = k * 2 + 1 + 1 by omega, show k * 2 + 1 + 1 + 1 = (k * 2 + 1) + 1 + 1 by omega]
    simp only [pv, List.getElem?_cons_succ, List.getD_cons_succ]
    exact ⟨a, b⟩
theorem pv_set : ∀ (ts : List TP) (vs : List Value) (k : Nat) (x : Int) (ys : List Int) (v : Value), vs.length = ts.length → k < ts.length → ((pv ts vs).set (k * 2) (.int .i64 x)).set (k * 2 + 1) v = pv (ts.set k (x, ys)) (vs.set k v)
  | [], _, k, _, _, _, _, hk => by simp at hk
  | t :: ts, [], k, _, _, _, h, _ => by simp at h
  | t :: ts, u :: vs, 0, x, ys, v, _, _ => by simp [pv]
  | t :: ts, u :: vs, k + 1, x, ys, v, h, hk => by
    have ih := pv_set ts vs k x ys v (by simpa using h) (by simpa using hk)
    rw [show (k + 1) * 2 = k * 2 + 1 + 1 by omega, show k * 2 + 1 + 1 + 1 = (k * 2 + 1) + 1 + 1 by omega]
    simp only [pv, List.set_cons_succ]
    rw [ih]
/-- A slice of numbers to be read, not in block g or before. -/
def Slc (w : World) (g : Nat) (v : Value) (xs : List Int) : Prop := ∃ A c, v = .slice A xs.length c ∧ xs.length ≤ c ∧ (A = none → c = 0) ∧ Ints w w.heap.size A xs.length xs ∧ ∀ ad : Addr, A = some ad → g ≤ ad.block
theorem Slc.below {w w' : World} {g : Nat} {v : Value} {xs : List Int} (h : Slc w g v xs) (b : Below w.heap.size w w') : Slc w' g v xs := by
  obtain ⟨A, c, e, h1, h2, h3, h4⟩ := h
  exact ⟨A, c, e, h1, h2, h3.step (Nat.le_refl _) b, h4⟩
theorem Slc.far {w w' : World} {g r : Nat} {v : Value} {xs : List Int} (h : Slc w g v xs) (b : w.grownBy w' (some r)) (hr : r < g) : Slc w' g v xs := by
  obtain ⟨A, c, e, h1, h2, h3, h4⟩ := h
  refine ⟨A, c, e, h1, h2, ⟨h3.1, fun hn => ?_⟩, h4⟩
  obtain ⟨ad, e, hb, hc⟩ := h3.2 hn
  refine ⟨ad, e, Nat.lt_of_lt_of_le hb b.size, fun j u hu => ?_⟩
  rw [World.cell?_of_block (b.block _ (by rw [block_of_add]; exact hb) (by rw [block_of_add]; intro e2; injection e2 with e2; have := h4 ad e; omega))]
  exact hc j u hu
theorem Slc.mono {w : World} {g g' : Nat} {v : Value} {xs : List Int} (h : Slc w g v xs) (hg : g' ≤ g) : Slc w g' v xs := by
  obtain ⟨A, c, e, h1, h2, h3, h4⟩ := h
  exact ⟨A, c, e, h1, h2, h3, fun ad ha => Nat.le_trans hg (h4 ad ha)⟩
theorem slc_own {w : World} {base n : Nat} {v : Value} {xs : List Int} (o : w.ownsRow base 3 1 v n (iv xs)) (hn : n = xs.length) : Slc w 0 v xs := by
  subst hn
  obtain ⟨A, c, e⟩ := own_form o
  subst e
  exact ⟨A, c, rfl, own_cap o, own_nilc o, own_ints o, fun _ _ => Nat.zero_le _⟩
/-- Patches to be read. -/
def PRd (w : World) (A : Option Addr) (n : Nat) (ts : List TP) : Prop :=
  ts.length = n ∧ ∃ vs : List Value, vs.length = n ∧ Reads w w.heap.size 2 A n (pv ts vs) ∧ ∀ i, i < n → Slc w 0 (vs.getD i nilV) (ts.getD i (0, [])).2
theorem PRd.below {w w' : World} {A : Option Addr} {n : Nat} {ts : List TP} (h : PRd w A n ts) (b : Below w.heap.size w w') : PRd w' A n ts := by
  obtain ⟨h1, vs, h2, h3, h4⟩ := h
  exact ⟨h1, vs, h2, (h3.below b).more b.size, fun i hi => (h4 i hi).below b⟩
theorem PRd.spot {w : World} {A : Option Addr} {n k : Nat} {ts : List TP} (h : PRd w A n ts) (hk : k < n) :
    ∃ b off A' c, A = some ⟨b, off, none⟩ ∧ b < w.heap.size ∧ w.cell? ⟨b, off + k * 2, none⟩ = some (.int .i64 (ts.getD k (0, [])).1) ∧ w.cell? ⟨b, off + k * 2 + 1, none⟩ = some (.slice A' (ts.getD k (0, [])).2.length c) ∧
      (ts.getD k (0, [])).2.length ≤ c ∧ (A' = none → c = 0) ∧ Ints w w.heap.size A' (ts.getD k (0, [])).2.length (ts.getD k (0, [])).2 := by
  obtain ⟨h1, vs, h2, h3, h4⟩ := h
  obtain ⟨⟨b, off, spot⟩, rfl, hb, hc⟩ := h3.2 (by omega)
  obtain ⟨g0, g1⟩ := pv_get ts vs k (by omega) (by omega)
  obtain ⟨f0, _⟩ := pv_get ts vs 0 (by omega) (by omega)
  have c0 := hc _ _ f0
  have hs : spot = none := by simpa [Addr.add] using World.cell?_spot c0
  subst hs
  have ha : ∀ j, ((⟨b, off, none⟩ : Addr).add j) = ⟨b, off + j, none⟩ := by intro j; unfold Addr.add; split <;> simp_all
  obtain ⟨A', c, e, q1, q2, q3, -⟩ := h4 k hk
  have k0 := hc _ _ g0
  have k1 := hc _ _ g1
  rw [ha] at k0 k1
  rw [e] at k1
  exact ⟨b, off, A', c, rfl, hb, k0, by rwa [← Nat.add_assoc] at k1, q1, q2, q3⟩
def sumL (ts : List TP) : Nat := (ts.map fun t => t.2.length).sum
theorem sumL_take {ts : List TP} {k : Nat} (hk : k < ts.length) : sumL (ts.take (k + 1)) = sumL (ts.take k) + (ts.getD k (0, [])).2.length := by
  unfold sumL
  rw [List.take_add_one, List.getElem?_eq_getElem hk, List.getD_eq_getElem?_getD, List.getElem?_eq_getElem hk, List.map_append, List.sum_append]
  simp
theorem sumL_le (ts : List TP) (k : Nat) : sumL (ts.take k) ≤ sumL ts := by
  conv => rhs; rw [← List.take_append_drop k ts]
  unfold sumL
  rw [List.map_append, List.sum_append]
  omega
theorem sumL_get {ts : List TP} {k : Nat} (hk : k < ts.length) : (ts.getD k (0, [])).2.length ≤ sumL ts := by
  have := sumL_take hk
  have := sumL_le ts (k + 1)
  omega
/-- What PatchSize returns. -/
def pszA (ts : List TP) : Int := 2 * (ts.length : Int) + (sumL ts : Int)
theorem psz_step {ts : List TP} {k : Nat} (hk : k < ts.length) : pszA (ts.take (k + 1)) = pszA (ts.take k) + 2 + ((ts.getD k (0, [])).2.length : Int) := by
  unfold pszA
  rw [sumL_take hk, List.length_take, List.length_take]
  omega
theorem psz_bd {ts : List TP} (k : Nat) (h : pszA ts ≤ 1000000000) : 0 ≤ pszA (ts.take k) ∧ pszA (ts.take k) ≤ 1000000000 := by
  have := sumL_le ts k
  unfold pszA at h ⊢
  rw [List.length_take]
  omega
/-- What szPatchS returns. -/
def szF : Int → List TP → Int
  | l, [] => l
  | l, t :: ts => if l - t.2.length < 0 then -1 else szF (l - t.2.length) ts
theorem szF_step {ts : List TP} {k : Nat} (l : Int) (hk : k < ts.length) : szF l (ts.drop k) = if l - ((ts.getD k (0, [])).2.length : Int) < 0 then -1 else szF (l - ((ts.getD k (0, [])).2.length : Int)) (ts.drop (k + 1)) := by
  rw [List.drop_eq_getElem_cons hk, List.getD_eq_getElem?_getD, List.getElem?_eq_getElem hk]
  rfl
theorem szF_ok : ∀ (ts : List TP) (l : Int), 0 ≤ szF l ts → (sumL ts : Int) ≤ l
  | [], l, h => by simpa [szF, sumL] using h
  | t :: ts, l, h => by
    unfold szF at h
    split at h
    · omega
    · have := szF_ok ts _ h
      unfold sumL at this ⊢
      simp only [List.map_cons, List.sum_cons]
      omega
def szR (l : Int) (ts : List TP) : Int := if l - (ts.length : Int) < 0 then -1 else szF (l - ts.length) ts
theorem szR_ok {ts : List TP} {l : Int} (h : ¬ szR l ts < 0) : (ts.length : Int) ≤ l ∧ (sumL ts : Int) ≤ l := by
  unfold szR at h
  split at h
  · omega
  · have := szF_ok ts (l - ts.length) (by omega)
    omega
theorem szIntS_any (A : Option Addr) (n c : Nat) (l : Int) (w : World) (h0 : 0 ≤ l) (h1 : l ≤ 1000000000) (hn : n ≤ 9223372036854775807) :
    Calls Try.prog 40 #[.slice A n c, .int .i64 l] w fun e w' => e = .returned (.int .i64 (if l - n < 0 then -1 else l - n)) ∧ w = w' := by
  have hw : IntKind.i64.wrap (l - n) = l - n := IntWalk.i64_in _ (by omega)
  by_cases hlt : l - (n : Int) < 0
  · rw [if_pos hlt]
    go_enter Try.func40, Try.ntmps40
    go_wp2
    go_ret
    exact ⟨rfl, rfl⟩
  · rw [if_neg hlt]
    go_enter Try.func40, Try.ntmps40
    go_wp2
    go_ret
    exact ⟨rfl, rfl⟩
end Go.Proofs.Ytgedfcccflobmaa
