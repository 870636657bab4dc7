/-
  isByte, l1Byte; allBytes, l2Bytes; checkByte, l17Sum; slices.Clone. No condition but that lengths stay in range.
-/
import Derived.Test.YtkcabllnlbcgdaaEnv
import Derived.Test.YtkcabllnlbcgdaaBase
namespace Go.Proofs.Ytkcabllnlbcgdaa
open Go.RowKit
set_option linter.unusedVariables false
set_option linter.unusedSimpArgs false
def allB (xs : List Int) : Bool := xs.all fun z => inB z 0 255
theorem allB_get {xs : List Int} {k : Nat} (h : allB xs = true) (hk : k < xs.length) : inB (xs.getD k 0) 0 255 = true := by
  rw [List.getD_eq_getElem?_getD, List.getElem?_eq_getElem hk]
  exact List.all_eq_true.1 h _ (List.getElem_mem hk)
theorem allB_bad {xs : List Int} {k : Nat} (hk : k < xs.length) (h : inB (xs.getD k 0) 0 255 = false) : allB xs = false := by
  rw [List.getD_eq_getElem?_getD, List.getElem?_eq_getElem hk] at h
  unfold allB
  rw [List.all_eq_false]
  exact ⟨_, List.getElem_mem hk, by simpa using h⟩
theorem allB_take {xs : List Int} {k : Nat} (hk : k < xs.length) (h : allB (xs.take k) = true) (h2 : inB (xs.getD k 0) 0 255 = true) : allB (xs.take (k + 1)) = true := by
  rw [List.getD_eq_getElem?_getD, List.getElem?_eq_getElem hk] at h2
  rw [List.take_add_one, List.getElem?_eq_getElem hk]
  unfold allB at h ⊢
  simp only [List.all_append, h, Option.toList_some, List.all_cons, List.all_nil, Bool.and_true, Bool.true_and]
  exact h2
theorem allB_sub {xs : List Int} (k : Nat) (h : allB xs = true) : allB (xs.take k) = true := List.all_eq_true.2 fun x hx => List.all_eq_true.1 h x (List.mem_of_mem_take hx)
theorem allB_dsub {xs : List Int} (k : Nat) (h : allB xs = true) : allB (xs.drop k) = true := List.all_eq_true.2 fun x hx => List.all_eq_true.1 h x (List.mem_of_mem_drop hx)
theorem isByte_any (a : Int) (w : World) : Calls Try.prog 83 #[.int .i64 a] w fun e w' => e = .returned (.bool (inB a 0 255)) ∧ w = w' := by
  go_enter Try.func83, Try.ntmps83
  go_wp2_with (go_at_call 53; refine (within_any _ _ _ _).mono ?_; rintro e w' ⟨rfl, rfl⟩)
  go_ret
  exact ⟨rfl, rfl⟩
/-- The check byte. -/
def chk (xs : List Int) : Int := xs.foldl (fun c b => (3 * c + b + 1) % 251) 7
theorem chk_succ {xs : List Int} {k : Nat} (hk : k < xs.length) : chk (xs.take (k + 1)) = (3 * chk (xs.take k) + xs.getD k 0 + 1) % 251 := by
  rw [List.getD_eq_getElem?_getD, List.getElem?_eq_getElem hk]
  unfold chk
  rw [List.take_add_one, List.getElem?_eq_getElem hk, List.foldl_append]
  rfl
theorem chk_bd (xs : List Int) : 0 ≤ chk xs ∧ chk xs ≤ 250 := by
  unfold chk
  have : ∀ (l : List Int) (c : Int), 0 ≤ c ∧ c ≤ 250 → 0 ≤ l.foldl (fun c b => (3 * c + b + 1) % 251) c ∧ l.foldl (fun c b => (3 * c + b + 1) % 251) c ≤ 250 := by
    intro l
    induction l with
    | nil => intro c h; exact h
    | cons x l ih => intro c h; exact ih _ (by show 0 ≤ (3 * c + x + 1) % 251 ∧ (3 * c + x + 1) % 251 ≤ 250; omega)
  exact this xs 7 (by omega)
end Go.Proofs.Ytkcabllnlbcgdaa
