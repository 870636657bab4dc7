/-
  Scenes shifted by a whole background, or with one more sprite below the picture: the same picture. No program in sight.
-/
import Derived.Test.YtkcabllnlbcgdaaScn
namespace Go.Proofs.Ytkcabllnlbcgdaa
open Go.RowKit
set_option linter.unusedVariables false
set_option linter.unusedSimpArgs false
/-- A background shifted further, its lists elsewhere. -/
def fShift (f : Fld) (A : Option Addr) (c : Nat) (T : Option Addr) (tc : Nat) (p q : Int) : Fld := { f with A := A, c := c, T := T, tc := tc, sx := (f.sx + p) % (8 * f.W), sy := (f.sy + q) % (8 * ((f.ms.length : Int) / f.W)) }
theorem add_mod_mod (a b m : Int) : (a + b % m) % m = (a + b) % m := by
  rw [Int.add_emod, Int.emod_emod_of_dvd _ (Int.dvd_refl m), ← Int.add_emod]
theorem pxAt_shift (f : Fld) (A : Option Addr) (c : Nat) (T : Option Addr) (tc : Nat) (x y : Int) : pxAt (fShift f A c T tc (8 * f.W) 0) (fShift f A c T tc (8 * f.W) 0).sx (fShift f A c T tc (8 * f.W) 0).sy x y = pxAt f f.sx f.sy x y := by
  show pxOf f ((x + (f.sx + 8 * f.W) % (8 * f.W)) % (8 * f.W)) ((y + (f.sy + 0) % (8 * ((f.ms.length : Int) / f.W))) % (8 * ((f.ms.length : Int) / f.W))) = _
  rw [add_mod_mod, add_mod_mod, ← Int.add_assoc, Int.add_emod_right, Int.add_zero]
  rfl
theorem fieldB_shift {f : Fld} (h : fieldB f = true) (A : Option Addr) (c : Nat) (T : Option Addr) (tc : Nat) (p q : Int) : fieldB (fShift f A c T tc p q) = true := by
  have hf := field_facts h
  obtain ⟨⟨w1, w2⟩, -, ⟨r1, r2⟩, -⟩ := hf
  have hsx : inB ((f.sx + p) % (8 * f.W)) 0 255 = true := inB_iff.2 ⟨Int.emod_nonneg _ (by omega), by have := Int.emod_lt_of_pos (f.sx + p) (show 0 < 8 * f.W by omega); omega⟩
  have hsy : inB ((f.sy + q) % (8 * ((f.ms.length : Int) / f.W))) 0 255 = true := inB_iff.2 ⟨Int.emod_nonneg _ (by omega), by have := Int.emod_lt_of_pos (f.sy + q) (show 0 < 8 * ((f.ms.length : Int) / f.W) by omega); omega⟩
  unfold fieldB at h ⊢
  simp only [Bool.and_eq_true] at h ⊢
  exact ⟨h.1, h.2.1, h.2.2.1, h.2.2.2.1, h.2.2.2.2.1, hsx, hsy, h.2.2.2.2.2.2.2⟩
theorem scP_shift (f : Fld) (A : Option Addr) (c : Nat) (T : Option Addr) (tc : Nat) (ss : List Spr) (x y : Int) : scP (fShift f A c T tc (8 * f.W) 0) ss x y = scP f ss x y := by
  unfold scP
  simp only [pxAt_shift]
  rfl
theorem hashL_eq {f g : Fld} {ss us : List Spr} (h : ∀ (x : Nat) (y : Nat), x < 32 → y < 16 → scP g us (x : Int) (y : Int) = scP f ss (x : Int) (y : Int)) : ∀ y, y ≤ 16 → hashL g us y = hashL f ss y
  | 0, _ => rfl
  | y + 1, hy => by
    unfold hashL
    rw [hashL_eq h y (by omega)]
    congr 1
    unfold scLine
    refine List.map_congr_left fun k hk => ?_
    exact h k y (List.mem_range.1 hk) (by omega)
theorem hash_shift {f : Fld} {ss : List Spr} (h : sceneB f ss = true) (A : Option Addr) (c : Nat) (T : Option Addr) (tc : Nat) : hashR (fShift f A c T tc (8 * f.W) 0) ss = hashR f ss := by
  have h1 := h
  unfold sceneB at h1
  rw [Bool.and_eq_true] at h1
  have h2 : sceneB (fShift f A c T tc (8 * f.W) 0) ss = true := by
    unfold sceneB
    rw [fieldB_shift h1.1, Bool.true_and]
    exact h1.2
  unfold hashR
  rw [h, h2, if_pos rfl, if_pos rfl]
  exact hashL_eq (fun x y _ _ => scP_shift f A c T tc ss x y) 16 (Nat.le_refl _)
def s64 : Spr := ⟨64, 64, 0, false, false, false⟩
theorem getD_snoc64 {ss : List Spr} {s : Spr} {k : Nat} (h : k < ss.length) : (ss ++ [s]).getD k Spr.z = ss.getD k Spr.z := by
  rw [List.getD_eq_getElem?_getD, List.getD_eq_getElem?_getD, List.getElem?_append_left h]
theorem onK_app {ss : List Spr} {s : Spr} {y : Int} : ∀ k, k ≤ ss.length → onK (ss ++ [s]) y k = onK ss y k
  | 0, _ => rfl
  | k + 1, h => by unfold onK; rw [onK_app k (by omega), getD_snoc64 (by omega)]
theorem onP_app {ss : List Spr} {y : Int} (hy : y < 16) : onP (ss ++ [s64]) y = onP ss y := by
  unfold onP
  rw [List.length_append, List.length_singleton, onK, onK_app _ (Nat.le_refl _), if_neg]
  rw [List.getD_eq_getElem?_getD, List.getElem?_append_right (Nat.le_refl _), Nat.sub_self, List.getElem?_cons_zero, Option.getD_some]
  simp only [Bool.and_eq_true, inB_iff, s64]
  omega
theorem atP_app {ss : List Spr} {s : Spr} {ts : List (List Int)} {x y : Int} : ∀ on : List Int, (∀ i ∈ on, ∃ k : Nat, i = (k : Int) ∧ k < ss.length) → atP (ss ++ [s]) ts x y on = atP ss ts x y on
  | [], _ => rfl
  | i :: on, h => by
    obtain ⟨k, rfl, hk⟩ := h i (List.mem_cons_self ..)
    unfold atP
    rw [Int.toNat_natCast, getD_snoc64 hk, atP_app on fun j hj => h j (List.mem_cons_of_mem _ hj)]
theorem scP_app {f : Fld} {ss : List Spr} {x y : Int} (hy : y < 16) : scP f (ss ++ [s64]) x y = scP f ss x y := by
  have hm : ∀ i ∈ onP ss y, ∃ k : Nat, i = (k : Int) ∧ k < ss.length := fun i hi => onK_mem ss y ss.length i hi
  unfold scP
  rw [onP_app hy, atP_app _ hm]
  simp only []
  rcases atP_on (ss := ss) (ts := f.ts) (x := x) (y := y) with h | ⟨i, h, hi, _⟩
  · rw [h, if_pos (.inl (by omega)), if_pos (.inl (by omega))]
  · rw [h, Int.toNat_natCast, getD_snoc64 hi]
theorem hash_app {f : Fld} {ss : List Spr} (h : sceneB f ss = true) (hl : ss.length ≠ 12) : hashR f (ss ++ [s64]) = hashR f ss := by
  have h1 := h
  unfold sceneB at h1
  rw [Bool.and_eq_true] at h1
  obtain ⟨hf, hs⟩ := h1
  obtain ⟨-, -, -, ⟨t0, -⟩, -⟩ := field_facts hf
  have h2 : sceneB f (ss ++ [s64]) = true := by
    unfold sceneB spritesB at *
    simp only [Bool.and_eq_true, decide_eq_true_iff] at hs ⊢
    refine ⟨hf, by rw [List.length_append, List.length_singleton]; omega, hs.2.1, ?_⟩
    rw [List.all_append, hs.2.2, Bool.true_and, List.all_cons, List.all_nil, Bool.and_true]
    simp only [sprB, s64, Bool.and_eq_true, inB_iff]
    omega
  unfold hashR
  rw [h, h2, if_pos rfl, if_pos rfl]
  exact hashL_eq (fun x y _ hy => scP_app (by omega)) 16 (Nat.le_refl _)
end Go.Proofs.Ytkcabllnlbcgdaa
