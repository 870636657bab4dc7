/-
  Differences of states in plain words; rows of patches of the call's own; DiffStates of the program. No condition but that lengths stay in range.
-/
import Derived.Test.YtlbalepcjamhcaaPatF
import Derived.Test.YtlbalepcjamhcaaBytes
namespace Go.Proofs.Ytlbalepcjamhcaa
open Go.RowKit
set_option linter.unusedVariables false
set_option linter.unusedSimpArgs false
attribute [local go_sem ↓] Go.wp_at_zero Go.wp_at_succ
def stB (xs : List Int) : Bool := decide (xs.length ≤ 512) && allB xs
def dL : Nat → Option (List Int) → List Int → List Int → List TP
  | g, none, x :: xs, y :: ys => if x = y then dL (g + 1) none xs ys else dL g (some [y]) xs ys
  | g, some cur, x :: xs, y :: ys => if x = y then ((g : Int), cur) :: dL 1 none xs ys else dL g (some (cur ++ [y])) xs ys
  | _, none, [], _ => []
  | _, none, _ :: _, [] => []
  | g, some cur, [], _ => [((g : Int), cur)]
  | g, some cur, _ :: _, [] => [((g : Int), cur)]
def diffR (a b : List Int) : List TP := if stB a && (stB b && decide (a.length = b.length)) then dL 0 none a b else []
section
variable {a b : List Int} {k g : Nat} {cur : List Int}
theorem drop_at (xs : List Int) (h : k < xs.length) : xs.drop k = xs.getD k 0 :: xs.drop (k + 1) := by
  rw [List.drop_eq_getElem_cons h, List.getD_eq_getElem?_getD, List.getElem?_eq_getElem h]; rfl
theorem dL_eq (ha : k < a.length) (hb : k < b.length) (h : a.getD k 0 = b.getD k 0) : dL g none (a.drop k) (b.drop k) = dL (g + 1) none (a.drop (k + 1)) (b.drop (k + 1)) := by
  rw [drop_at a ha, drop_at b hb]
  simp only [dL]
  rw [if_pos h]
theorem dL_open (ha : k < a.length) (hb : k < b.length) (h : a.getD k 0 ≠ b.getD k 0) : dL g none (a.drop k) (b.drop k) = dL g (some []) (a.drop k) (b.drop k) := by
  rw [drop_at a ha, drop_at b hb]
  simp only [dL]
  rw [if_neg h, if_neg h]
  rfl
theorem dL_ne (ha : k < a.length) (hb : k < b.length) (h : a.getD k 0 ≠ b.getD k 0) : dL g (some cur) (a.drop k) (b.drop k) = dL g (some (cur ++ [b.getD k 0])) (a.drop (k + 1)) (b.drop (k + 1)) := by
  rw [drop_at a ha, drop_at b hb]
  simp only [dL]
  rw [if_neg h]
theorem dL_end (ha : k < a.length) (hb : k < b.length) (h : a.getD k 0 = b.getD k 0) : dL g (some cur) (a.drop k) (b.drop k) = ((g : Int), cur) :: dL 0 none (a.drop k) (b.drop k) := by
  rw [drop_at a ha, drop_at b hb]
  simp only [dL]
  rw [if_pos h, if_pos h]
theorem dL_last (ha : a.length ≤ k) : dL g (some cur) (a.drop k) (b.drop k) = ((g : Int), cur) :: dL 0 none (a.drop k) (b.drop k) := by
  rw [List.drop_eq_nil_of_le ha]
  simp only [dL]
theorem dL_done (ha : a.length ≤ k) : dL g none (a.drop k) (b.drop k) = [] := by
  rw [List.drop_eq_nil_of_le ha]
  simp only [dL]
end
theorem dL_len : ∀ (a b : List Int) (g : Nat) (c : Option (List Int)), (dL g c a b).length ≤ a.length + 1
  | [], b, g, none => by simp [dL]
  | [], b, g, some c => by simp [dL]
  | x :: xs, [], g, none => by simp [dL]
  | x :: xs, [], g, some c => by simp [dL]
  | x :: xs, y :: ys, g, none => by
    simp only [dL]
    split
    · have := dL_len xs ys (g + 1) none; simp; omega
    · have := dL_len xs ys g (some [y]); simp; omega
  | x :: xs, y :: ys, g, some c => by
    simp only [dL]
    split
    · have := dL_len xs ys 1 none; simp; omega
    · have := dL_len xs ys g (some (c ++ [y])); simp; omega
theorem own_under {w w' : World} {B base e size n : Nat} {v : Value} {xs : List Value} (h : w.ownsRow base e size v n xs) (hb : Below B w w') (hlt : ∀ g, v.ownBlock = some g → g < B) : w'.ownsRow base e size v n xs := by
  obtain ⟨h1, h2⟩ := h
  refine ⟨h1, ?_⟩
  rcases h2 with h2 | ⟨g, cap, cur, rfl, e2, e3⟩
  · exact .inl h2
  · exact .inr ⟨g, cap, cur, rfl, e2, by rw [hb.block g (hlt g rfl)]; exact e3⟩
theorem own_sep {w : World} {b b' e e' s s' n n' : Nat} {v v' : Value} {xs ys : List Value} (h : w.ownsRow b e s v n xs) (h' : w.ownsRow b' e' s' v' n' ys) (hne : e ≠ e') {g : Nat} (hg : v.ownBlock = some g) : v'.ownBlock ≠ some g := by
  intro hg'
  rcases h.2 with ⟨e1, _⟩ | ⟨g1, cap1, cur1, e1, _, c1, _⟩
  · subst e1; cases hg
  rcases h'.2 with ⟨e2, _⟩ | ⟨g2, cap2, cur2, e2, _, c2, _⟩
  · subst e2; cases hg'
  subst e1 e2
  simp only [Value.ownBlock, Option.some.injEq] at hg hg'
  subst hg hg'
  rw [c1] at c2
  injection c2 with c2
  injection c2 with _ c4
  exact hne c4
/-- Patches of the call's own: the outer row and each inner row, blocks below hi. -/
structure POwn (w : World) (base hi : Nat) (A : Option Addr) (c : Nat) (os : List TP) (vs : List Value) : Prop where
  outer : w.ownsRow base 45 2 (.slice A os.length c) os.length (pv os vs)
  vlen : vs.length = os.length
  inner : ∀ i, i < os.length → w.ownsRow base 3 1 (vs.getD i nilV) (os.getD i (0, [])).2.length (iv (os.getD i (0, [])).2)
  olt : ∀ g, (Value.slice A os.length c).ownBlock = some g → g < hi
  ilt : ∀ i, i < os.length → ∀ g, (vs.getD i nilV).ownBlock = some g → g < hi
  inc : ∀ i j, i < j → j < os.length → ∀ g g', (vs.getD i nilV).ownBlock = some g → (vs.getD j nilV).ownBlock = some g' → g < g'
theorem POwn.under {w w' : World} {B base hi c : Nat} {A : Option Addr} {os : List TP} {vs : List Value} (h : POwn w base hi A c os vs) (hb : Below B w w') (hB : hi ≤ B) : POwn w' base hi A c os vs :=
  ⟨own_under h.outer hb fun g hg => Nat.lt_of_lt_of_le (h.olt g hg) hB, h.vlen, fun i hi' => own_under (h.inner i hi') hb fun g hg => Nat.lt_of_lt_of_le (h.ilt i hi' g hg) hB, h.olt, h.ilt, h.inc⟩
theorem POwn.hi {w : World} {base hi hi' c : Nat} {A : Option Addr} {os : List TP} {vs : List Value} (h : POwn w base hi A c os vs) (hh : hi ≤ hi') : POwn w base hi' A c os vs :=
  ⟨h.outer, h.vlen, h.inner, fun g hg => Nat.lt_of_lt_of_le (h.olt g hg) hh, fun i hi' g hg => Nat.lt_of_lt_of_le (h.ilt i hi' g hg) hh, h.inc⟩
theorem getD_app {α : Type _} (us : List α) (t d : α) (i : Nat) (hi : i < us.length + 1) : (us ++ [t]).getD i d = if i < us.length then us.getD i d else t := by
  by_cases h : i < us.length
  · rw [if_pos h, List.getD_eq_getElem?_getD, List.getElem?_append_left h, List.getD_eq_getElem?_getD]
  · obtain rfl : i = us.length := by omega
    rw [if_neg h]
    simp [List.getD_eq_getElem?_getD]
theorem pv_snoc : ∀ (os : List TP) (vs : List Value) (t : TP) (v : Value), vs.length = os.length → pv (os ++ [t]) (vs ++ [v]) = pv os vs ++ [.int .i64 t.1, v]
  | [], [], t, v, _ => rfl
  | o :: os, u :: vs, t, v, h => by simp only [List.cons_append, pv, pv_snoc os vs t v (by simpa using h)]
  | [], u :: vs, t, v, h => by simp at h
  | o :: os, [], t, v, h => by simp at h
theorem POwn.snoc {w w' : World} {base hi c c' : Nat} {A A' : Option Addr} {os : List TP} {vs : List Value} (h : POwn w base hi A c os vs) (x : Int) (xs : List Int) (v : Value)
    (hout : w'.ownsRow base 45 2 (.slice A' (os.length + 1) c') (os.length + 1) (pv os vs ++ [.int .i64 x, v])) (hg : w.grownBy w' (Value.slice A os.length c).ownBlock)
    (hin : w.ownsRow base 3 1 v xs.length (iv xs)) (hlo : ∀ g, v.ownBlock = some g → hi ≤ g) (hhi : hi ≤ w.heap.size) : POwn w' base w'.heap.size A' c' (os ++ [(x, xs)]) (vs ++ [v]) := by
  have hz := hg.size
  have keep : ∀ {u : Value} {ys : List Int} {n : Nat}, w.ownsRow base 3 1 u n (iv ys) → w'.ownsRow base 3 1 u n (iv ys) := fun {u ys n} ho => by
    refine ho.kept hg ?_
    rcases hu : u.ownBlock with _ | q
    · exact .inl rfl
    · refine .inr fun e => own_sep ho h.outer (by decide) hu e.symm
  have hl1 : (os ++ [(x, xs)]).length = os.length + 1 := by simp
  refine ⟨?_, by simp [h.vlen], fun i hi => ?_, fun g hg' => ?_, fun i hi g hg' => ?_, fun i j hij hj g g' e1 e2 => ?_⟩
  · rw [hl1, pv_snoc os vs (x, xs) v h.vlen]; exact hout
  · rw [hl1] at hi
    rw [getD_app _ _ _ _ (by rw [h.vlen]; exact hi), getD_app _ _ _ _ hi, h.vlen]
    split
    · rename_i hi2; exact keep (h.inner i hi2)
    · exact keep hin
  · rw [hl1] at hg'
    exact (hout.lt g hg').2
  · rw [hl1] at hi
    rw [getD_app _ _ _ _ (by rw [h.vlen]; exact hi), h.vlen] at hg'
    split at hg'
    · rename_i hi2; have := h.ilt i hi2 g hg'; omega
    · have := (hin.lt g hg').2; omega
  · rw [hl1] at hj
    rw [getD_app _ _ _ _ (by rw [h.vlen]; omega), h.vlen, if_pos (by omega)] at e1
    rw [getD_app _ _ _ _ (by rw [h.vlen]; exact hj), h.vlen] at e2
    split at e2
    · rename_i hj2; exact h.inc i j hij hj2 g g' e1 e2
    · have := h.ilt i (by omega) g e1
      have := hlo g' e2
      omega
theorem POwn.rd {w : World} {base hi c : Nat} {A : Option Addr} {os : List TP} {vs : List Value} (h : POwn w base hi A c os vs) : PRd w A os.length os := by
  refine ⟨rfl, vs, h.vlen, Reads.of_own h.outer, fun i hi => ?_⟩
  have o := h.inner i hi
  obtain ⟨A', c', e⟩ := own_form o
  rw [e] at o ⊢
  refine ⟨A', c', rfl, own_cap o, ?_, own_ints o, fun _ _ => Nat.zero_le _⟩
  rintro rfl
  rcases own_block o with ⟨_, _, h⟩ | ⟨g, e, _⟩
  · exact h
  · cases e
/-- What a call that makes patches gives. -/
def GivesP (w : World) (os : List TP) (e : Ending) (w' : World) : Prop := ∃ A c vs, e = .returned (.slice A os.length c) ∧ POwn w' w.heap.size w'.heap.size A c os vs ∧ Below w.heap.size w w'
theorem pown_nil (w : World) (base hi : Nat) : POwn w base hi none 0 [] [] :=
  ⟨World.ownsRow_nil _ _ _ _, rfl, (fun i hi => by simp at hi), (fun g hg => by cases hg), (fun i hi => by simp at hi), (fun i j _ hj => by simp at hj)⟩
theorem push_patch {ops : Array Oper} {rest : List Oper} {o : Oper} {a : Act} {Q : Exit → Act → World → Prop} (w : World) (hgd : o.guard = none) (s x : Operand)
    (ho : o.op = .call { callee := .builtin .append, args := #[s, x], argTypes := #[25, 25] })
    (base n c H d : Nat) (A A2 : Option Addr) (m2 c2 : Nat) (vals : List Value) (x0 : Int) (hs : a.eval s = .slice A n c) (hx : a.eval x = .slice (some ⟨H, 0, none⟩) 1 d)
    (hown : w.ownsRow base 45 2 (.slice A n c) n vals) (hc0 : w.cell? ⟨H, 0, none⟩ = some (.int .i64 x0)) (hc1 : w.cell? ⟨H, 1, none⟩ = some (.slice A2 m2 c2)) (hn : n ≤ 10000000) (hb : base ≤ w.heap.size)
    (h : ∀ A' c' w', w'.ownsRow base 45 2 (.slice A' (n + 1) c') (n + 1) (vals ++ [.int .i64 x0, .slice A2 m2 c2]) → w.grownBy w' (Value.slice A n c).ownBlock → wpList Try.prog ops Q rest (a.put o.dst (.slice A' (n + 1) c')) w') :
    wpList Try.prog ops Q (o :: rest) a w := by
  obtain ⟨i0, hi0, hz0, hz1, hz2⟩ := info_parts patch_info
  refine wpList_append_own_at w hgd s x 25 ho base 45 i0 (.agg #[.int .i64 0, .slice none 0 0]) 2 32 Try.underlying25 hi0 hz0 hz1 hz2 rfl (by omega) _ n vals hs hown ⟨H, 0, none⟩ 1 d [.int .i64 x0, .slice A2 m2 c2] hx rfl ?_ ?_ (by simp only [maxLen]; omega) (by omega) hb ?_
  · intro j u hj
    match j, hj with
    | 0, hj => simp at hj; subst hj; simpa [Addr.add] using hc0
    | 1, hj => simp at hj; subst hj; simpa [Addr.add] using hc1
  · intro u hu
    simp at hu
    rcases hu with rfl | rfl <;> rfl
  · intro v' w' ho' hg' _ hat
    obtain ⟨A', c', rfl⟩ := own_form ho'
    exact h A' c' w' ho' hg'
theorem isState_any (A : Option Addr) (n c : Nat) (xs : List Int) (w : World) (h : Ints w w.heap.size A n xs) (hn : n ≤ 1000000000) :
    Calls Try.prog 39 #[.slice A n c] w fun e w' => e = .returned (.bool (stB xs)) ∧ w = w' := by
  have hl := h.len
  have H := Lib.hid h
  clear h
  by_cases h5 : (n : Int) ≤ 512
  · have hr : stB xs = allB xs := by unfold stB; rw [decide_eq_true (by omega), Bool.true_and]
    rw [hr]
    go_enter Try.func39, Try.ntmps39
    go_wp2_with (go_at_call 43; refine (allBytes_any _ _ _ xs _ H.out hn).mono ?_; rintro e w' ⟨rfl, rfl⟩)
    go_ret
    exact ⟨rfl, rfl⟩
  · have hr : stB xs = false := by unfold stB; rw [decide_eq_false (by omega), Bool.false_and]
    rw [hr]
    go_enter Try.func39, Try.ntmps39
    go_wp2_with fail
    go_ret
    exact ⟨rfl, rfl⟩
theorem l16Bytes_any (A : Option Addr) (n c : Nat) (xs : List Int) (w : World) (h : Ints w w.heap.size A n xs) (hn : n ≤ 1000000000) :
    Calls Try.prog 38 #[.slice A n c] w fun e w' => e = .returned (.bool (stB xs)) ∧ w = w' := by
  have hl := h.len
  have H := Lib.hid h
  clear h
  by_cases h5 : (n : Int) ≤ 512
  · have hr : stB xs = allB xs := by unfold stB; rw [decide_eq_true (by omega), Bool.true_and]
    rw [hr]
    go_enter Try.func38, Try.ntmps38
    go_wp2_with (go_at_call 42; refine (l2Bytes_any _ _ _ xs _ H.out hn).mono ?_; rintro e w' ⟨rfl, rfl⟩)
    go_ret
    exact ⟨rfl, rfl⟩
  · have hr : stB xs = false := by unfold stB; rw [decide_eq_false (by omega), Bool.false_and]
    rw [hr]
    go_enter Try.func38, Try.ntmps38
    go_wp2_with fail
    go_ret
    exact ⟨rfl, rfl⟩
end Go.Proofs.Ytlbalepcjamhcaa
