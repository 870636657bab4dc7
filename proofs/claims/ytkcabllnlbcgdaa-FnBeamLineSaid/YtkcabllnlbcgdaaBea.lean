/-
  A line of a background while changes happen, in plain words. No program is walked here.
-/
import Derived.Test.YtkcabllnlbcgdaaDrl
import Derived.Test.YtkcabllnlbcgdaaChgS
namespace Go.Proofs.Ytkcabllnlbcgdaa
open Go.RowKit
set_option linter.unusedVariables false
set_option linter.unusedSimpArgs false
/-- The shifts that hold behind the first changes. -/
def shN (s : Int × Int) (ts : List Tri) : Nat → Int × Int
  | 0 => s
  | k + 1 => (ts.getD k (0, 0, 0)).2
/-- The column from which they hold. -/
def shC (ts : List Tri) : Nat → Int
  | 0 => 0
  | k + 1 => (ts.getD k (0, 0, 0)).1
/-- The rest of a line, from a column on. -/
def beamF (f : Fld) (y : Int) : Int × Int → Int → List Tri → List Int
  | s, a, [] => lineP f s.1 s.2 y a (32 - a).toNat
  | s, a, t :: ts => lineP f s.1 s.2 y a (t.1 - a).toNat ++ beamF f y t.2 t.1 ts
def beamR (f : Fld) (y : Int) (ts : List Tri) : List Int := if fieldB f && (inB y 0 15 && chgB ts) then beamF f y (f.sx, f.sy) 0 ts else []
theorem shN_succ (s : Int × Int) (t : Tri) (ts : List Tri) (k : Nat) : shN s (t :: ts) (k + 1) = shN t.2 ts k := by
  cases k <;> simp [shN]
theorem chg_cons {a : Int} {t : Tri} {ts : List Tri} (h : chgFrom a (t :: ts) = true) : (a ≤ t.1 ∧ t.1 ≤ 31) ∧ (0 ≤ t.2.1 ∧ t.2.1 ≤ 255) ∧ (0 ≤ t.2.2 ∧ t.2.2 ≤ 255) ∧ chgFrom t.1 ts = true := by
  simp only [chgFrom, Bool.and_eq_true, inB_iff] at h
  exact ⟨h.1.1, h.1.2.1, h.1.2.2, h.2⟩
theorem beamF_len (f : Fld) (y : Int) : ∀ (ts : List Tri) (s : Int × Int) (a : Int), chgFrom a ts = true → a ≤ 32 → (beamF f y s a ts).length = (32 - a).toNat
  | [], s, a, _, _ => by unfold beamF; rw [lineP_len]
  | t :: ts, s, a, h, ha => by
    obtain ⟨h1, _, _, h2⟩ := chg_cons h
    unfold beamF
    rw [List.length_append, lineP_len, beamF_len f y ts t.2 t.1 h2 (by omega)]
    omega
theorem chg_at : ∀ (ts : List Tri) (a : Int) (k : Nat), chgFrom a ts = true → k < ts.length → (a ≤ (ts.getD k (0, 0, 0)).1 ∧ (ts.getD k (0, 0, 0)).1 ≤ 31) ∧ (0 ≤ (ts.getD k (0, 0, 0)).2.1 ∧ (ts.getD k (0, 0, 0)).2.1 ≤ 255) ∧ (0 ≤ (ts.getD k (0, 0, 0)).2.2 ∧ (ts.getD k (0, 0, 0)).2.2 ≤ 255)
  | [], _, _, _, hk => by simp at hk
  | t :: ts, a, 0, h, _ => by
    obtain ⟨h1, h2, h3, _⟩ := chg_cons h
    exact ⟨h1, h2, h3⟩
  | t :: ts, a, k + 1, h, hk => by
    obtain ⟨h1, _, _, h4⟩ := chg_cons h
    obtain ⟨q1, q2, q3⟩ := chg_at ts t.1 k h4 (by simpa using hk)
    exact ⟨⟨by simp only [List.getD_cons_succ]; omega, q1.2⟩, q2, q3⟩
theorem chg_sorted : ∀ (ts : List Tri) (a : Int) (k : Nat), chgFrom a ts = true → k + 1 < ts.length → (ts.getD k (0, 0, 0)).1 ≤ (ts.getD (k + 1) (0, 0, 0)).1
  | [], _, _, _, hk => by simp at hk
  | t :: ts, a, 0, h, hk => by
    obtain ⟨_, _, _, h4⟩ := chg_cons h
    exact (chg_at ts t.1 0 h4 (by simpa using hk)).1.1
  | t :: ts, a, k + 1, h, hk => by
    obtain ⟨_, _, _, h4⟩ := chg_cons h
    exact chg_sorted ts t.1 k h4 (by simpa using hk)
theorem shN_in {ts : List Tri} {s : Int × Int} {a : Int} (h : chgFrom a ts = true) (hs : (0 ≤ s.1 ∧ s.1 ≤ 255) ∧ (0 ≤ s.2 ∧ s.2 ≤ 255)) : ∀ k, k ≤ ts.length → (0 ≤ (shN s ts k).1 ∧ (shN s ts k).1 ≤ 255) ∧ (0 ≤ (shN s ts k).2 ∧ (shN s ts k).2 ≤ 255)
  | 0, _ => hs
  | k + 1, hk => (chg_at ts a k h (by omega)).2
theorem shC_in {ts : List Tri} (h : chgFrom 0 ts = true) : ∀ k, k ≤ ts.length → 0 ≤ shC ts k ∧ shC ts k ≤ 31
  | 0, _ => by simp [shC]
  | k + 1, hk => (chg_at ts 0 k h (by omega)).1
theorem shC_le {ts : List Tri} (h : chgFrom 0 ts = true) : ∀ k, k < ts.length → shC ts k ≤ (ts.getD k (0, 0, 0)).1
  | 0, hk => (chg_at ts 0 0 h hk).1.1
  | k + 1, hk => chg_sorted ts 0 k h hk
theorem beamF_get {f : Fld} {y x : Int} : ∀ (ts : List Tri) (s : Int × Int) (a : Int) (k : Nat), chgFrom a ts = true → a ≤ x → x < 32 → k ≤ ts.length → (∀ j, j < k → (ts.getD j (0, 0, 0)).1 ≤ x) → (k < ts.length → x < (ts.getD k (0, 0, 0)).1) →
    (beamF f y s a ts)[(x - a).toNat]? = some (pxAt f (shN s ts k).1 (shN s ts k).2 x y)
  | [], s, a, k, _, ha, hx, hk, _, _ => by
    obtain rfl : k = 0 := by simpa using hk
    unfold beamF
    rw [lineP_get (by omega), show a + (((x - a).toNat : Nat) : Int) = x by omega]; rfl
  | t :: ts, s, a, 0, h, ha, hx, hk, _, h2 => by
    have h3 := h2 (by simp)
    simp only [List.getD_cons_zero] at h3
    unfold beamF
    rw [List.getElem?_append_left (by rw [lineP_len]; omega), lineP_get (by omega), show a + (((x - a).toNat : Nat) : Int) = x by omega]; rfl
  | t :: ts, s, a, k + 1, h, ha, hx, hk, h1, h2 => by
    have h3 := h1 0 (by omega)
    simp only [List.getD_cons_zero] at h3
    obtain ⟨q1, _, _, q2⟩ := chg_cons h
    have ih := beamF_get (f := f) (y := y) (x := x) ts t.2 t.1 k q2 h3 hx (by simpa using hk) (fun j hj => by simpa using h1 (j + 1) (by omega)) (fun hk2 => by simpa using h2 (by simpa using hk2))
    unfold beamF
    rw [List.getElem?_append_right (by rw [lineP_len]; omega), lineP_len, show (x - a).toNat - (t.1 - a).toNat = (x - t.1).toNat by omega, ih, shN_succ]
theorem beamR_len (f : Fld) (y : Int) (ts : List Tri) : (beamR f y ts).length ≤ 32 := by
  unfold beamR
  split
  · rename_i h
    simp only [Bool.and_eq_true, chgB] at h
    rw [beamF_len f y ts _ 0 h.2.2.2 (by omega)]; omega
  · simp
theorem chgB_from {ts : List Tri} (h : chgB ts = true) : chgFrom 0 ts = true := by
  simp only [chgB, Bool.and_eq_true] at h; exact h.2
theorem drop_at' {ts : List Tri} {k : Nat} (hk : k < ts.length) : ts.drop k = ts.getD k (0, 0, 0) :: ts.drop (k + 1) := by
  rw [List.drop_eq_getElem_cons hk, List.getD_eq_getElem?_getD, List.getElem?_eq_getElem hk]
  rfl
theorem beamF_step {f : Fld} {y : Int} {ts : List Tri} {s : Int × Int} {k : Nat} (hk : k < ts.length) :
    beamF f y (shN s ts k) (shC ts k) (ts.drop k) = lineP f (shN s ts k).1 (shN s ts k).2 y (shC ts k) ((ts.getD k (0, 0, 0)).1 - shC ts k).toNat ++ beamF f y (shN s ts (k + 1)) (shC ts (k + 1)) (ts.drop (k + 1)) := by
  rw [drop_at' hk]
  rfl
theorem beamF_last {f : Fld} {y : Int} {ts : List Tri} {s : Int × Int} {k : Nat} (hk : ts.length ≤ k) :
    beamF f y (shN s ts k) (shC ts k) (ts.drop k) = lineP f (shN s ts k).1 (shN s ts k).2 y (shC ts k) (32 - shC ts k).toNat := by
  rw [List.drop_eq_nil_of_le hk]
  rfl
end Go.Proofs.Ytkcabllnlbcgdaa
