/-
  BeamParts in both packages; markChangeS. No condition but that lengths stay in range.
-/
import Derived.Test.YtkcabllnlbcgdaaChgS
import Derived.Test.YtkcabllnlbcgdaaGrow
namespace Go.Proofs.Ytkcabllnlbcgdaa
open Go.RowKit
set_option linter.unusedVariables false
set_option linter.unusedSimpArgs false
/-- Three cells of a row marked. -/
theorem own_mark3 {w : World} {g c n k base E : Nat} {k0 : Int} {xs : List Int} (h : w.ownsRow base E 3 (.slice (some ⟨g, 0, none⟩) n c) n (iv (marked k0 (k * 3) xs))) (hl : xs.length = n * 3) (hk : k < n) :
    ((∃ v, w.cell? ⟨g, k * 3, none⟩ = some v) ∧ (∃ v, w.cell? ⟨g, k * 3 + 1, none⟩ = some v) ∧ ∃ v, w.cell? ⟨g, k * 3 + 2, none⟩ = some v) ∧
    (w.frozen? ⟨g, k * 3, none⟩ = false ∧ w.frozen? ⟨g, k * 3 + 1, none⟩ = false ∧ w.frozen? ⟨g, k * 3 + 2, none⟩ = false) ∧
    ∀ a b d : Int, a = k0 + ((k * 3 : Nat) : Int) → b = k0 + ((k * 3 + 1 : Nat) : Int) → d = k0 + ((k * 3 + 2 : Nat) : Int) → (((w.setCell ⟨g, k * 3, none⟩ (.int .i64 a)).setCell ⟨g, k * 3 + 1, none⟩ (.int .i64 b)).setCell ⟨g, k * 3 + 2, none⟩ (.int .i64 d)).ownsRow base E 3 (.slice (some ⟨g, 0, none⟩) n c) n (iv (marked k0 ((k + 1) * 3) xs)) ∧
      w.grownBy (((w.setCell ⟨g, k * 3, none⟩ (.int .i64 a)).setCell ⟨g, k * 3 + 1, none⟩ (.int .i64 b)).setCell ⟨g, k * 3 + 2, none⟩ (.int .i64 d)) (some g) := by
  have hm : (iv (marked k0 (k * 3) xs)).length = n * 3 := h.1
  have hx : ∀ j, j < n * 3 → ∃ v, w.cell? ⟨g, j, none⟩ = some v := fun j hj => by
    refine ⟨(iv (marked k0 (k * 3) xs))[j]'(by omega), (h.cellAt j (by omega)).trans (List.getElem?_eq_getElem (by omega))⟩
  refine ⟨⟨hx _ (by omega), hx _ (by omega), hx _ (by omega)⟩, ⟨h.frozenAt _, h.frozenAt _, h.frozenAt _⟩, ?_⟩
  rintro a b d rfl rfl rfl
  obtain ⟨a1, b1⟩ := h.stored (k * 3) (.int .i64 (k0 + ((k * 3 : Nat) : Int)))
  obtain ⟨a2, b2⟩ := a1.stored (k * 3 + 1) (.int .i64 (k0 + ((k * 3 + 1 : Nat) : Int)))
  obtain ⟨a3, b3⟩ := a2.stored (k * 3 + 2) (.int .i64 (k0 + ((k * 3 + 2 : Nat) : Int)))
  rw [marked_succ k0 (k * 3) xs (by omega), marked_succ k0 (k * 3 + 1) xs (by omega), marked_succ k0 (k * 3 + 2) xs (by omega)] at a3
  rw [show k * 3 + 2 + 1 = (k + 1) * 3 by omega] at a3
  exact ⟨a3, (b1.trans b2).trans b3⟩
set_option maxHeartbeats 2000000 in
theorem markChangeS_own (base : Nat) (A : Option Addr) (n c : Nat) (xs : List Int) (k0 : Int) (w : World) (ha : w.ownsRow base 34 3 (.slice A n c) n (iv xs)) (h0 : 0 ≤ k0) (hn : n ≤ 300000000) (h1 : k0 ≤ 1000000000) :
    Calls Try.prog 28 #[.slice A n c, .int .i64 k0] w fun e w' => e = .returned (.int .i64 (k0 + 3 * (n : Int))) ∧ w'.ownsRow base 34 3 (.slice A n c) n (iv (marks k0 (n * 3))) ∧ w.grownBy w' (Value.slice A n c).ownBlock := by
  have hl : xs.length = n * 3 := by have := ha.1; simp [iv_len] at this; omega
  go_enter Try.func28, Try.ntmps28
  go_wp2
  go_loopw [1, 5] (fun m i wr => ∃ k : Nat, k ≤ n ∧ i = .int .i64 k ∧ m = .int .i64 (k0 + 3 * (k : Int)) ∧ wr.ownsRow base 34 3 (.slice A n c) n (iv (marked k0 (k * 3) xs)) ∧ w.grownBy wr (Value.slice A n c).ownBlock) (fun _ i _ => n - (intOf i).toNat)
  case atStart => exact ⟨0, Nat.zero_le _, rfl, by go_num, by simpa [marked, marks] using ha, World.grownBy.refl w _⟩
  case round =>
    obtain ⟨k, hk, rfl, rfl, hown, hg⟩ := hrel
    by_cases hlt : k < n
    · obtain ⟨g, cap, e1, _, hgl⟩ := hown.form (by omega)
      injection e1 with e1 _ e3
      subst e1 e3
      obtain ⟨⟨⟨v0, c0⟩, ⟨v1, c1⟩, ⟨v2, c2⟩⟩, ⟨f0, f1, f2⟩, hst⟩ := own_mark3 hown hl hlt
      have HG := Lib.hid hg
      obtain ⟨M, hM⟩ : ∃ M : Int, M = k0 + 3 * (k : Int) := ⟨_, rfl⟩
      have HST := Lib.hid (hst M (M + 1) (M + 1 + 1) (by omega) (by omega) (by omega))
      have hM0 : 0 ≤ M := by omega
      have hM1 : M ≤ 2000000000 := by omega
      rw [← hM]
      have HM := Lib.hid hM
      clear hst hown ha hg hM
      go_wp2
      go_roundw
      case rel => exact ⟨k + 1, by omega, by go_num, by rw [HM.out]; go_num, HST.out.1, HG.out.trans HST.out.2⟩
      case measure => simp [intOf]; omega
    · obtain rfl : k = n := by omega
      go_wp2
      go_ret
      refine ⟨rfl, ?_, hg⟩
      rwa [marked, List.drop_eq_nil_of_le (by omega), List.append_nil] at hown
/-- Whether the next change has the same column. -/
def nextSame (t : Tri) : List Tri → Bool
  | [] => false
  | u :: _ => u.1 == t.1
def partsB : Int → Int → List Tri → List Int
  | _, _, [] => []
  | x, y, t :: ts => if nextSame t ts then partsB x y ts else (if (t.2.1 != x) || (t.2.2 != y) then [t.1] else []) ++ partsB t.2.1 t.2.2 ts
def partsR (x y : Int) (ts : List Tri) : List Int := if inB x 0 255 && inB y 0 255 && chgB ts then partsB x y ts else []
theorem drop_at {ts : List Tri} {k : Nat} (hk : k < ts.length) : ts.drop k = ts.getD k (0, 0, 0) :: ts.drop (k + 1) := by
  rw [List.drop_eq_getElem_cons hk, List.getD_eq_getElem?_getD, List.getElem?_eq_getElem hk]
  rfl
theorem next_at {ts : List Tri} {k : Nat} (t : Tri) (hk : k + 1 < ts.length) : nextSame t (ts.drop (k + 1)) = ((ts.getD (k + 1) (0, 0, 0)).1 == t.1) := by
  rw [drop_at hk]; rfl
theorem next_end {ts : List Tri} {k : Nat} (t : Tri) (hk : ts.length ≤ k + 1) : nextSame t (ts.drop (k + 1)) = false := by
  rw [List.drop_eq_nil_of_le hk]; rfl
theorem partsB_len : ∀ (ts : List Tri) (x y : Int), (partsB x y ts).length ≤ ts.length
  | [], _, _ => Nat.le_refl _
  | t :: ts, x, y => by
    unfold partsB
    split
    · have := partsB_len ts x y; simp; omega
    · have := partsB_len ts t.2.1 t.2.2
      split <;> simp <;> omega
theorem partsR_len (x y : Int) (ts : List Tri) : (partsR x y ts).length ≤ 8 := by
  unfold partsR
  split
  · rename_i h
    simp only [Bool.and_eq_true, chgB, decide_eq_true_eq] at h
    have := partsB_len ts x y
    omega
  · simp
theorem chgB_len {ts : List Tri} (h : chgB ts = true) : ts.length ≤ 8 := by
  simp only [chgB, Bool.and_eq_true, decide_eq_true_eq] at h
  exact h.1
end Go.Proofs.Ytkcabllnlbcgdaa
