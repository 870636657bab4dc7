/-
  Sprites in plain words; lists of sprites to be read. No condition.
-/
import Derived.Test.YtkcabllnlbcgdaaPix
namespace Go.Proofs.Ytkcabllnlbcgdaa
open Go.RowKit
set_option linter.unusedVariables false
set_option linter.unusedSimpArgs false
structure Spr where
  X : Int
  Y : Int
  N : Int
  ac : Bool
  dn : Bool
  be : Bool
def Spr.cs (s : Spr) : List Value := [.int .i64 s.X, .int .i64 s.Y, .int .i64 s.N, .bool s.ac, .bool s.dn, .bool s.be]
def Spr.z : Spr := ⟨0, 0, 0, false, false, false⟩
def Spr.val (s : Spr) : Value := .agg #[.int .i64 s.X, .int .i64 s.Y, .int .i64 s.N, .bool s.ac, .bool s.dn, .bool s.be]
/-- The cells of sprites, one after the other. -/
def fl6 (ss : List Spr) : List Value := (ss.map Spr.cs).flatten
theorem fl6_len : ∀ (ss : List Spr), (fl6 ss).length = ss.length * 6
  | [] => rfl
  | s :: ss => by
    have h2 := fl6_len ss
    simp only [fl6, List.map_cons, List.flatten_cons, List.length_append, List.length_cons, Spr.cs, List.length_nil] at h2 ⊢
    omega
theorem fl6_get : ∀ (ss : List Spr) (k j : Nat), k < ss.length → j < 6 → (fl6 ss)[k * 6 + j]? = (ss.getD k Spr.z).cs[j]?
  | [], k, j, hk, _ => by simp at hk
  | s :: ss, 0, j, _, hj => by
    simp only [fl6, List.map_cons, List.flatten_cons, List.getD_cons_zero, Nat.zero_mul, Nat.zero_add]
    rw [List.getElem?_append_left (by simp only [Spr.cs, List.length_cons, List.length_nil]; omega)]
  | s :: ss, k + 1, j, hk, hj => by
    have ih := fl6_get ss k j (by simpa using hk) hj
    simp only [fl6, List.map_cons, List.flatten_cons, List.getD_cons_succ] at ih ⊢
    rw [List.getElem?_append_right (by simp only [Spr.cs, List.length_cons, List.length_nil]; omega), show (k + 1) * 6 + j - s.cs.length = k * 6 + j by simp only [Spr.cs, List.length_cons, List.length_nil]; omega]
    exact ih
/-- Sprites to be read. -/
def SpRd (w : World) (B : Nat) (A : Option Addr) (n : Nat) (ss : List Spr) : Prop := ss.length = n ∧ Reads w B 6 A n (fl6 ss)
theorem SpRd.below {w w' : World} {B n : Nat} {A : Option Addr} {ss : List Spr} (h : SpRd w B A n ss) (b : Below B w w') : SpRd w' B A n ss := ⟨h.1, h.2.below b⟩
theorem SpRd.more {w : World} {B B' n : Nat} {A : Option Addr} {ss : List Spr} (h : SpRd w B A n ss) (hB : B ≤ B') : SpRd w B' A n ss := ⟨h.1, h.2.more hB⟩
theorem SpRd.spot {w : World} {B n k : Nat} {A : Option Addr} {ss : List Spr} (h : SpRd w B A n ss) (hk : k < n) :
    ∃ b off, A = some ⟨b, off, none⟩ ∧ b < B ∧ w.rangeAt b (off + k * 6) (ss.getD k Spr.z).cs := by
  obtain ⟨h1, h3⟩ := h
  obtain ⟨⟨b, off, spot⟩, rfl, hb, hc⟩ := h3.2 (by omega)
  have c0 := hc 0 _ (by have := fl6_get ss 0 0 (by omega) (by omega); rw [Nat.zero_mul, Nat.zero_add] at this; exact this.trans rfl)
  have hs : spot = none := by simpa [Addr.add] using World.cell?_spot c0
  subst hs
  refine ⟨b, off, rfl, hb, fun j v hj => ?_⟩
  have hj2 : j < 6 := by
    have := (List.getElem?_eq_some_iff.1 hj).1
    simp only [Spr.cs, List.length_cons, List.length_nil] at this; omega
  have := hc (k * 6 + j) v (by rw [fl6_get ss k j (by omega) hj2]; exact hj)
  rw [show ((⟨b, off, none⟩ : Addr).add (k * 6 + j)) = ⟨b, off + k * 6 + j, none⟩ by unfold Addr.add; split <;> simp_all; omega] at this
  exact this
/-- The cells of one sprite of a list. -/
structure SpC (w : World) (b o : Nat) (s : Spr) : Prop where
  c0 : w.cell? ⟨b, o, none⟩ = some (.int .i64 s.X)
  c1 : w.cell? ⟨b, o + 1, none⟩ = some (.int .i64 s.Y)
  c2 : w.cell? ⟨b, o + 2, none⟩ = some (.int .i64 s.N)
  c3 : w.cell? ⟨b, o + 3, none⟩ = some (.bool s.ac)
  c4 : w.cell? ⟨b, o + 4, none⟩ = some (.bool s.dn)
  c5 : w.cell? ⟨b, o + 5, none⟩ = some (.bool s.be)
theorem spc_of {w : World} {b o : Nat} {s : Spr} (h : w.rangeAt b o s.cs) : SpC w b o s := ⟨h 0 _ rfl, h 1 _ rfl, h 2 _ rfl, h 3 _ rfl, h 4 _ rfl, h 5 _ rfl⟩
/-- A sprite fits a number of tiles. -/
def sprB (m : Int) (s : Spr) : Bool := inB s.X (-16) 64 && (inB s.Y (-16) 64 && inB s.N 0 (m - 1))
def spritesB (ss : List Spr) (ts : List (List Int)) : Bool := decide (ss.length ≤ 12) && (tilesB ts && ss.all (sprB ts.length))
theorem spr_bad {ss : List Spr} {k : Nat} {m : Int} (hk : k < ss.length) (h : sprB m (ss.getD k Spr.z) = false) : ss.all (sprB m) = false := by
  rw [List.getD_eq_getElem?_getD, List.getElem?_eq_getElem hk, Option.getD_some] at h
  simp only [List.all_eq_false]
  exact ⟨_, List.getElem_mem hk, by rw [h]; simp⟩
theorem spr_of {ss : List Spr} {m : Int} (h : ∀ i, i < ss.length → sprB m (ss.getD i Spr.z) = true) : ss.all (sprB m) = true := by
  rw [List.all_eq_true]
  intro x hx
  obtain ⟨i, hi, rfl⟩ := List.mem_iff_getElem.1 hx
  have := h i hi
  rwa [List.getD_eq_getElem?_getD, List.getElem?_eq_getElem hi, Option.getD_some] at this
theorem spr_facts {ss : List Spr} {ts : List (List Int)} (h : spritesB ss ts = true) : ss.length ≤ 12 ∧ tilesB ts = true ∧ ∀ k, k < ss.length → (-16 ≤ (ss.getD k Spr.z).X ∧ (ss.getD k Spr.z).X ≤ 64) ∧ (-16 ≤ (ss.getD k Spr.z).Y ∧ (ss.getD k Spr.z).Y ≤ 64) ∧ 0 ≤ (ss.getD k Spr.z).N ∧ (ss.getD k Spr.z).N ≤ (ts.length : Int) - 1 := by
  simp only [spritesB, sprB, Bool.and_eq_true, decide_eq_true_iff, inB_iff, List.all_eq_true] at h
  refine ⟨h.1, h.2.1, fun k hk => ?_⟩
  rw [List.getD_eq_getElem?_getD, List.getElem?_eq_getElem hk, Option.getD_some]
  exact h.2.2 _ (List.getElem_mem _)
/-- A sprite's pixel at a place. -/
def spV (ts : List (List Int)) (s : Spr) (x y : Int) : Int :=
  if inB (x - s.X) 0 7 && inB (y - s.Y) 0 7 then (ts.getD s.N.toNat []).getD (8 * (bif s.dn then 7 - (y - s.Y) else y - s.Y) + (bif s.ac then 7 - (x - s.X) else x - s.X)).toNat 0 else 0
/-- The sprites among the first k that are shown on a line. -/
def onK (ss : List Spr) (y : Int) : Nat → List Int
  | 0 => []
  | k + 1 => if inB (y - (ss.getD k Spr.z).Y) 0 7 && decide ((onK ss y k).length < 4) then onK ss y k ++ [(k : Int)] else onK ss y k
theorem onK_len (ss : List Spr) (y : Int) : ∀ k, (onK ss y k).length ≤ 4
  | 0 => Nat.zero_le _
  | k + 1 => by
    have := onK_len ss y k
    unfold onK
    split
    · rename_i h
      simp only [Bool.and_eq_true, decide_eq_true_iff] at h
      rw [List.length_append]; simp only [List.length_cons, List.length_nil]; omega
    · exact this
theorem onK_mem (ss : List Spr) (y : Int) : ∀ k, ∀ x ∈ onK ss y k, ∃ i : Nat, x = (i : Int) ∧ i < k
  | 0, x, h => by simp [onK] at h
  | k + 1, x, h => by
    unfold onK at h
    split at h
    · rcases List.mem_append.1 h with h | h
      · obtain ⟨i, e, hi⟩ := onK_mem ss y k x h
        exact ⟨i, e, by omega⟩
      · exact ⟨k, by simpa using h, by omega⟩
    · obtain ⟨i, e, hi⟩ := onK_mem ss y k x h
      exact ⟨i, e, by omega⟩
theorem onK_stop {ss : List Spr} {y : Int} {k : Nat} (h : 4 ≤ (onK ss y k).length) : ∀ m, onK ss y (k + m) = onK ss y k
  | 0 => rfl
  | m + 1 => by
    have ih := onK_stop h m
    rw [show k + (m + 1) = (k + m) + 1 by omega]
    rw [onK, ih, if_neg]
    simp only [Bool.and_eq_true, decide_eq_true_iff]
    exact fun h' => absurd h'.2 (by omega)
def onP (ss : List Spr) (y : Int) : List Int := onK ss y ss.length
theorem onP_stop {ss : List Spr} {y : Int} {k : Nat} (hk : k ≤ ss.length) (h : 4 ≤ (onK ss y k).length) : onK ss y k = onP ss y := by
  have := onK_stop h (ss.length - k)
  rw [show k + (ss.length - k) = ss.length by omega] at this
  exact this.symm
theorem onP_get {ss : List Spr} {y : Int} {k : Nat} (hk : k < (onP ss y).length) : ∃ i : Nat, (onP ss y)[k] = (i : Int) ∧ i < ss.length := by
  obtain ⟨i, e, hi⟩ := onK_mem ss y ss.length _ (List.getElem_mem hk)
  exact ⟨i, e, hi⟩
/-- The first of some sprites with a pixel at a place. -/
def atP (ss : List Spr) (ts : List (List Int)) (x y : Int) : List Int → Int
  | [] => -1
  | i :: on => if spV ts (ss.getD i.toNat Spr.z) x y = 0 then atP ss ts x y on else i
theorem atP_drop {ss : List Spr} {ts : List (List Int)} {x y : Int} {on : List Int} {k i : Nat} (hk : k < on.length) (hi : on[k] = (i : Int)) :
    atP ss ts x y (on.drop k) = if spV ts (ss.getD i Spr.z) x y = 0 then atP ss ts x y (on.drop (k + 1)) else (i : Int) := by
  rw [List.drop_eq_getElem_cons hk, atP, hi, Int.toNat_natCast]
theorem atP_mem (ss : List Spr) (ts : List (List Int)) (x y : Int) : ∀ on : List Int, atP ss ts x y on = -1 ∨ (atP ss ts x y on ∈ on ∧ spV ts (ss.getD (atP ss ts x y on).toNat Spr.z) x y ≠ 0)
  | [] => .inl rfl
  | i :: on => by
    unfold atP
    split
    · rcases atP_mem ss ts x y on with h | ⟨h1, h2⟩
      · exact .inl h
      · exact .inr ⟨List.mem_cons_of_mem _ h1, h2⟩
    · rename_i h
      exact .inr ⟨List.mem_cons_self .., h⟩
theorem atP_on {ss : List Spr} {ts : List (List Int)} {x y : Int} : atP ss ts x y (onP ss y) = -1 ∨ ∃ i : Nat, atP ss ts x y (onP ss y) = (i : Int) ∧ i < ss.length ∧ spV ts (ss.getD i Spr.z) x y ≠ 0 := by
  rcases atP_mem ss ts x y (onP ss y) with h | ⟨h1, h2⟩
  · exact .inl h
  · obtain ⟨i, e, hi⟩ := onK_mem ss y ss.length _ h1
    rw [e, Int.toNat_natCast] at h2
    exact .inr ⟨i, e, hi, h2⟩
/-- A pixel of a tile. -/
theorem tile_px {ts : List (List Int)} {n r : Nat} (h : tilesB ts = true) : 0 ≤ (ts.getD n []).getD r 0 ∧ (ts.getD n []).getD r 0 ≤ 3 := by
  simp only [tilesB, Bool.and_eq_true, decide_eq_true_iff, List.all_eq_true] at h
  rcases Nat.lt_or_ge n ts.length with h1 | h1
  · rw [List.getD_eq_getElem?_getD (l := ts), List.getElem?_eq_getElem h1, Option.getD_some]
    have := h.2 _ (List.getElem_mem h1)
    simp only [tileB, List.all_eq_true, inB_iff] at this
    rcases Nat.lt_or_ge r ts[n].length with h2 | h2
    · rw [List.getD_eq_getElem?_getD, List.getElem?_eq_getElem h2, Option.getD_some]
      exact this _ (List.getElem_mem h2)
    · rw [List.getD_eq_getElem?_getD, List.getElem?_eq_none h2]; simp
  · rw [List.getD_eq_getElem?_getD (l := ts), List.getElem?_eq_none h1]; simp
theorem spV_px {ts : List (List Int)} {s : Spr} {x y : Int} (h : tilesB ts = true) : 0 ≤ spV ts s x y ∧ spV ts s x y ≤ 3 := by
  unfold spV
  split
  · exact tile_px h
  · omega
theorem pxAt_px {f : Fld} {sx sy x y : Int} (h : tilesB f.ts = true) : 0 ≤ pxAt f sx sy x y ∧ pxAt f sx sy x y ≤ 3 := tile_px h
/-- A pixel of a scene. -/
def scP (f : Fld) (ss : List Spr) (x y : Int) : Int :=
  let k := atP ss f.ts x y (onP ss y)
  if k < 0 ∨ ((ss.getD k.toNat Spr.z).be = true ∧ pxAt f f.sx f.sy x y ≠ 0) then pxAt f f.sx f.sy x y else 4 + spV f.ts (ss.getD k.toNat Spr.z) x y
end Go.Proofs.Ytkcabllnlbcgdaa
