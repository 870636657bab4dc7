/-
  The parts of a line against the shifts that hold. No program in sight.
-/
import Derived.Test.YtkcabllnlbcgdaaBea
import Derived.Test.YtkcabllnlbcgdaaBeamV
namespace Go.Proofs.Ytkcabllnlbcgdaa
open Go.RowKit
set_option linter.unusedVariables false
set_option linter.unusedSimpArgs false
/-- The shifts that hold at a column. -/
def lastS (s : Int × Int) (ts : List Tri) (c : Int) : Int × Int := ts.foldl (fun s t => if t.1 ≤ c then t.2 else s) s
theorem lastS_cons (s : Int × Int) (t : Tri) (ts : List Tri) (c : Int) : lastS s (t :: ts) c = lastS (if t.1 ≤ c then t.2 else s) ts c := rfl
theorem lastS_snoc {s : Int × Int} {ts : List Tri} {c : Int} {k : Nat} (hk : k < ts.length) : lastS s (ts.take (k + 1)) c = if (ts.getD k (0, 0, 0)).1 ≤ c then (ts.getD k (0, 0, 0)).2 else lastS s (ts.take k) c := by
  unfold lastS
  rw [List.take_succ_eq_append_getElem hk, List.foldl_append, List.getD_eq_getElem?_getD, List.getElem?_eq_getElem hk]
  rfl
theorem lastS_before : ∀ (ts : List Tri) (s : Int × Int) (a x : Int), chgFrom a ts = true → x < a → lastS s ts x = s
  | [], _, _, _, _, _ => rfl
  | t :: ts, s, a, x, h, hx => by
    obtain ⟨h1, _, _, h4⟩ := chg_cons h
    rw [lastS_cons, if_neg (by omega)]
    exact lastS_before ts s t.1 x h4 (by omega)
theorem lastS_in {ts : List Tri} {c : Int} : ∀ {s : Int × Int} {a : Int}, chgFrom a ts = true → (0 ≤ s.1 ∧ s.1 ≤ 255) ∧ (0 ≤ s.2 ∧ s.2 ≤ 255) → (0 ≤ (lastS s ts c).1 ∧ (lastS s ts c).1 ≤ 255) ∧ (0 ≤ (lastS s ts c).2 ∧ (lastS s ts c).2 ≤ 255) := by
  induction ts with
  | nil => intro s a _ h; exact h
  | cons t ts ih =>
    intro s a h hs
    obtain ⟨_, h2, h3, h4⟩ := chg_cons h
    rw [lastS_cons]
    split
    · exact ih h4 ⟨h2, h3⟩
    · exact ih h4 hs
theorem beamF_at {f : Fld} {y x : Int} : ∀ (ts : List Tri) (s : Int × Int) (a : Int), chgFrom a ts = true → a ≤ x → x < 32 → (beamF f y s a ts)[(x - a).toNat]? = some (pxAt f (lastS s ts x).1 (lastS s ts x).2 x y)
  | [], s, a, _, ha, hx => by
    unfold beamF
    rw [lineP_get (by omega), show a + (((x - a).toNat : Nat) : Int) = x by omega]; rfl
  | t :: ts, s, a, h, ha, hx => by
    obtain ⟨h1, _, _, h4⟩ := chg_cons h
    unfold beamF
    rw [lastS_cons]
    by_cases hxt : t.1 ≤ x
    · rw [if_pos hxt, List.getElem?_append_right (by rw [lineP_len]; omega), lineP_len, show (x - a).toNat - (t.1 - a).toNat = (x - t.1).toNat by omega]
      exact beamF_at ts t.2 t.1 h4 hxt hx
    · rw [if_neg hxt, lastS_before ts s t.1 x h4 (by omega), List.getElem?_append_left (by rw [lineP_len]; omega), lineP_get (by omega), show a + (((x - a).toNat : Nat) : Int) = x by omega]
/-- What holds stays between the columns. -/
def Runs (g : Int → Int × Int) : Int → List Int → Prop
  | c, [] => c ≤ 31 ∧ ∀ x, c ≤ x → x < 32 → g x = g c
  | c, d :: ds => c ≤ d ∧ d ≤ 31 ∧ (∀ x, c ≤ x → x < d → g x = g c) ∧ Runs g d ds
theorem Runs.congr {g h : Int → Int × Int} : ∀ (ds : List Int) (c : Int), (∀ x, c ≤ x → g x = h x) → Runs g c ds → Runs h c ds
  | [], c, e, r => ⟨r.1, fun x h1 h2 => by rw [← e x h1, ← e c (Int.le_refl _)]; exact r.2 x h1 h2⟩
  | d :: ds, c, e, r => ⟨r.1, r.2.1, fun x h1 h2 => by rw [← e x h1, ← e c (Int.le_refl _)]; exact r.2.2.1 x h1 h2, Runs.congr ds d (fun x hx => e x (Int.le_trans r.1 hx)) r.2.2.2⟩
theorem Runs.back {g : Int → Int × Int} {a c : Int} (hac : a ≤ c) (hg : ∀ x, a ≤ x → x ≤ c → g x = g a) : ∀ (ds : List Int), Runs g c ds → Runs g a ds
  | [], r => ⟨by have := r.1; omega, fun x h1 h2 => by
      by_cases hx : x ≤ c
      · exact hg x h1 hx
      · rw [r.2 x (by omega) h2]; exact hg c hac (Int.le_refl _)⟩
  | d :: ds, r => ⟨by have := r.1; omega, r.2.1, fun x h1 h2 => by
      by_cases hx : x ≤ c
      · exact hg x h1 hx
      · rw [r.2.2.1 x (by omega) h2]; exact hg c hac (Int.le_refl _), r.2.2.2⟩
theorem parts_runs : ∀ (ts : List Tri) (s : Int × Int) (a : Int), chgFrom a ts = true → a ≤ 31 → Runs (lastS s ts) a (partsB s.1 s.2 ts)
  | [], s, a, _, ha => ⟨ha, fun x _ _ => rfl⟩
  | t :: ts, s, a, h, ha => by
    obtain ⟨h1, _, _, h4⟩ := chg_cons h
    unfold partsB
    by_cases hn : nextSame t ts = true
    · rw [if_pos hn]
      cases ts with
      | nil => simp [nextSame] at hn
      | cons u us =>
        have hu : u.1 = t.1 := by simpa [nextSame] using hn
        have h5 : chgFrom a (u :: us) = true := by
          unfold chgFrom at h4 ⊢
          simp only [Bool.and_eq_true, inB_iff] at h4 ⊢
          exact ⟨⟨⟨by omega, h4.1.1.2⟩, h4.1.2⟩, h4.2⟩
        refine Runs.congr _ a (fun x _ => ?_) (parts_runs (u :: us) s a h5 ha)
        rw [lastS_cons, lastS_cons s t, lastS_cons, hu]
        by_cases hx : t.1 ≤ x <;> simp [hx]
    · rw [if_neg hn]
      -- behind t the columns are greater
      have hgt : ∀ s', lastS s' ts t.1 = s' := fun s' => by
        cases ts with
        | nil => rfl
        | cons u us =>
          have hu : u.1 ≠ t.1 := fun e => hn (by simp [nextSame, e])
          obtain ⟨k1, _, _, k4⟩ := chg_cons h4
          rw [lastS_cons, if_neg (by omega)]
          exact lastS_before us s' u.1 t.1 k4 (by omega)
      have ih := parts_runs ts t.2 t.1 h4 h1.2
      have hc : ∀ x, t.1 ≤ x → lastS t.2 ts x = lastS s (t :: ts) x := fun x hx => by rw [lastS_cons, if_pos hx]
      have ih2 := Runs.congr _ t.1 hc ih
      have hb : ∀ x, x < t.1 → lastS s (t :: ts) x = s := fun x hx => by rw [lastS_cons, if_neg (by omega)]; exact lastS_before ts s t.1 x h4 hx
      have hA : ∀ x, a ≤ x → x < t.1 → lastS s (t :: ts) x = lastS s (t :: ts) a := fun x hx1 hx2 => by rw [hb x hx2, hb a (by omega)]
      split
      · exact ⟨h1.1, h1.2, hA, ih2⟩
      · rename_i hne
        simp only [Bool.or_eq_true, bne_iff_ne, ne_eq, not_or, Decidable.not_not] at hne
        have es : t.2 = s := Prod.ext hne.1 hne.2
        refine Runs.back h1.1 (fun x hx1 hx2 => ?_) _ ih2
        have ht : lastS s (t :: ts) t.1 = s := by rw [lastS_cons, if_pos (Int.le_refl _), hgt, es]
        by_cases hx : x < t.1
        · exact hA x hx1 hx
        · obtain rfl : x = t.1 := by omega
          rw [ht]
          by_cases hax : a < t.1
          · rw [hb a hax]
          · obtain rfl : a = t.1 := by omega
            exact ht.symm
/-- Column by column. -/
theorem Runs.at {g : Int → Int × Int} : ∀ (ds : List Int) (c : Int) (k : Nat), Runs g c ds → k < ds.length + 1 → (c ≤ (c :: (ds ++ [32])).getD k 0 ∧ (c :: (ds ++ [32])).getD k 0 ≤ 31) ∧ ((c :: (ds ++ [32])).getD k 0 ≤ (c :: (ds ++ [32])).getD (k + 1) 0 ∧ (c :: (ds ++ [32])).getD (k + 1) 0 ≤ 32) ∧ ∀ x, (c :: (ds ++ [32])).getD k 0 ≤ x → x < (c :: (ds ++ [32])).getD (k + 1) 0 → g x = g ((c :: (ds ++ [32])).getD k 0)
  | [], c, k, r, hk => by
    obtain rfl : k = 0 := by simp at hk; omega
    simp only [List.nil_append, List.getD_cons_zero, List.getD_cons_succ]
    exact ⟨⟨Int.le_refl _, r.1⟩, ⟨by have := r.1; omega, Int.le_refl _⟩, r.2⟩
  | d :: ds, c, 0, r, _ => by
    simp only [List.cons_append, List.getD_cons_zero, List.getD_cons_succ]
    exact ⟨⟨Int.le_refl _, by have := r.1; have := r.2.1; omega⟩, ⟨r.1, by have := r.2.1; omega⟩, r.2.2.1⟩
  | d :: ds, c, k + 1, r, hk => by
    have ih := Runs.at ds d k r.2.2.2 (by simpa using hk)
    simp only [List.cons_append, List.getD_cons_succ] at ih ⊢
    exact ⟨⟨Int.le_trans r.1 ih.1.1, ih.1.2⟩, ih.2⟩
/-- A part of the line. -/
theorem part_eq {f : Fld} {y : Int} {ts : List Tri} {s : Int × Int} (h : chgFrom 0 ts = true) {c d : Nat} (hcd : c ≤ d) (hd : d ≤ 32) (hg : ∀ x : Int, (c : Int) ≤ x → x < (d : Int) → lastS s ts x = lastS s ts (c : Int)) :
    ((beamF f y s 0 ts).drop c).take (d - c) = ((lineP f (lastS s ts (c : Int)).1 (lastS s ts (c : Int)).2 y 0 32).drop c).take (d - c) := by
  apply List.ext_getElem?
  intro i
  rw [List.getElem?_take, List.getElem?_take]
  by_cases hi : i < d - c
  · rw [if_pos hi, if_pos hi, List.getElem?_drop, List.getElem?_drop]
    have h1 := beamF_at (f := f) (y := y) (x := ((c + i : Nat) : Int)) ts s 0 h (by omega) (by omega)
    rw [show (((c + i : Nat) : Int) - 0).toNat = c + i by omega] at h1
    rw [h1, hg _ (by omega) (by omega), lineP_get (by omega), Int.zero_add]
  · rw [if_neg hi, if_neg hi]
end Go.Proofs.Ytkcabllnlbcgdaa
