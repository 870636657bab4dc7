/-
  samePatches; what differences of states and their undoing come to, in plain words. No condition.
-/
import Derived.Test.YtlbalepcjamhcaaDrwQ
import Derived.Test.YtlbalepcjamhcaaPSt
namespace Go.Proofs.Ytlbalepcjamhcaa
open Go.RowKit
set_option linter.unusedVariables false
set_option linter.unusedSimpArgs false
attribute [local go_sem ↓] Go.wp_at_zero Go.wp_at_succ
set_option maxHeartbeats 4000000 in
theorem samePatches_same (A B : Option Addr) (n c d : Nat) (ts : List TP) (w : World) (ha : PRd w A n ts) (hb : PRd w B n ts) (hn : n ≤ 1000000000) (hd : ∀ k, k < n → (ts.getD k (0, [])).2.length ≤ 1000000000) :
    Calls Try.prog 29 #[.slice A n c, .slice B n d] w fun e w' => e = .returned (.bool true) ∧ Below w.heap.size w w' := by
  have hnn : (((n : Int) != (n : Int)) = false) := by simp
  have HA := Lib.hid ha
  have HB := Lib.hid hb
  have HD := Lib.hid hd
  clear ha hb hd
  go_enter Try.func29, Try.ntmps29
  go_wp2
  go_loopw [5] (fun i wr => ∃ k : Nat, k ≤ n ∧ i = .int .i64 k ∧ Below w.heap.size w wr) (fun i _ => n - (intOf i).toNat)
  case atStart => exact ⟨0, Nat.zero_le _, rfl, Below.refl _ _⟩
  case round =>
    obtain ⟨k, hk, rfl, hbel⟩ := hrel
    by_cases hlt : k < n
    · obtain ⟨b, off, A1, c1, e1, hb1, h0, h1, -, -, i1⟩ := (HA.out.below hbel).spot hlt
      obtain ⟨b2, off2, A2, c2, e2, hb2, g0, g1, -, -, i2⟩ := (HB.out.below hbel).spot hlt
      have hd := HD.out k hlt
      generalize ts.getD k (0, []) = t at h0 h1 g0 g1 i1 i2 hd
      obtain ⟨x, xs⟩ := t
      simp only at h0 h1 g0 g1 i1 i2 hd
      have q0 : (0 : Int) ≤ (k : Int) := by omega
      have q1 : (k : Int) < (n : Int) := by omega
      have hxx : (x != x) = false := by simp
      have hz := hbel.size
      have hto := Lib.hid (sameInts_same A1 A2 xs.length c1 c2 xs wr.drew i1 i2 (by omega))
      have HBEL := Lib.hid hbel
      have E1 := Lib.hid e1
      have E2 := Lib.hid e2
      clear hbel e1 e2 i1 i2
      rw [E1.out, E2.out]
      go_wp2_with fail
      go_region_held3 (fun w' => w'.cell? ⟨b, off + k * 2, none⟩ = some (.int .i64 x) ∧ w'.cell? ⟨b, off + k * 2 + 1, none⟩ = some (.slice A1 xs.length c1) ∧ w'.cell? ⟨b2, off2 + k * 2, none⟩ = some (.int .i64 x) ∧ w'.cell? ⟨b2, off2 + k * 2 + 1, none⟩ = some (.slice A2 xs.length c2)) (first | exact ⟨h0, h1, g0, g1⟩ | exact ⟨(b5.cell hb1).trans h0, (b5.cell hb1).trans h1, (b5.cell hb2).trans g0, (b5.cell hb2).trans g1⟩) ((go_at_call 30; refine (hto.out).mono ?_; rintro e w5 ⟨rfl, b5⟩))
      go_wp2_with fail
      go_roundw
      case rel => exact ⟨k + 1, by omega, by go_num, below_step HBEL.out.drew b5 hz⟩
      case measure => simp [intOf]; omega
    · go_wp2
      go_ret
      exact ⟨rfl, hbel⟩
theorem getD_app2 (us vs : List Int) (i : Nat) : (us ++ vs).drop us.length = vs := by simp
theorem over_mid (L M old cur xs : List Int) (h : old.length = cur.length) : over (L ++ (M ++ (old ++ xs))) (L.length + M.length) cur = L ++ (M ++ (cur ++ xs)) := by
  unfold over
  rw [← List.append_assoc L M, List.take_append_of_le_length (by simp), List.take_of_length_le (by simp), ← List.append_assoc (L ++ M) old, List.drop_append_of_le_length (by simp; omega), List.drop_of_length_le (by simp; omega)]
  simp
theorem allB_app (xs ys : List Int) : allB (xs ++ ys) = (allB xs && allB ys) := by simp [allB, List.all_append]
/-- The patches of a difference lead to the second list. -/
theorem pat_dL : ∀ (xs ys : List Int), xs.length = ys.length → allB ys = true →
    (∀ L M : List Int, patL (L.length + (M.length + xs.length)) (L ++ (M ++ xs)) L.length (dL M.length none xs ys) = some (L ++ (M ++ ys))) ∧
    (∀ L M old cur : List Int, old.length = cur.length → allB cur = true → patL (L.length + (M.length + (cur.length + xs.length))) (L ++ (M ++ (old ++ xs))) L.length (dL M.length (some cur) xs ys) = some (L ++ (M ++ (cur ++ ys))))
  | [], [], _, _ => by
    refine ⟨fun L M => by simp [dL, patL], fun L M old cur h hb => ?_⟩
    have hok : patOk (L.length + (M.length + (cur.length + 0))) L.length ((M.length : Int), cur) = true := by
      simp only [patOk, hb, Bool.and_true, Bool.and_eq_true, decide_eq_true_eq]; omega
    have := over_mid L M old cur [] h
    simp only [dL, patL, List.length_nil, hok, if_true, Int.toNat_natCast]
    rw [this]
  | [], y :: ys, h, _ => by simp at h
  | x :: xs, [], h, _ => by simp at h
  | x :: xs, y :: ys, h, hb => by
    have hb2 : allB [y] = true ∧ allB ys = true := by
      have := hb
      rw [show y :: ys = [y] ++ ys from rfl, allB_app, Bool.and_eq_true] at this
      exact this
    have ih := pat_dL xs ys (by simpa using h) hb2.2
    refine ⟨fun L M => ?_, fun L M old cur hl hc => ?_⟩
    · by_cases hxy : x = y
      · subst hxy
        have := ih.1 L (M ++ [x])
        simp only [List.length_append, List.length_cons, List.length_nil, List.append_assoc, List.cons_append, List.nil_append] at this
        simp only [dL, if_true, List.length_cons]
        rw [show M.length + (xs.length + 1) = M.length + (0 + 1) + xs.length by omega, show M.length + 1 = M.length + (0 + 1) by omega]
        exact this
      · have := ih.2 L M [x] [y] rfl hb2.1
        simp only [List.length_cons, List.length_nil, List.cons_append, List.nil_append] at this
        simp only [dL, if_neg hxy, List.length_cons]
        rw [show M.length + (xs.length + 1) = M.length + (0 + 1 + xs.length) by omega]
        exact this
    · by_cases hxy : x = y
      · subst hxy
        have hok : patOk (L.length + (M.length + (cur.length + (xs.length + 1)))) L.length ((M.length : Int), cur) = true := by
          simp only [patOk, hc, Bool.and_true, Bool.and_eq_true, decide_eq_true_eq]; omega
        have ho := over_mid L M old cur (x :: xs) hl
        simp only [dL, if_true, patL, List.length_cons, hok, Int.toNat_natCast]
        rw [ho]
        have := ih.1 (L ++ (M ++ cur)) [x]
        simp only [List.length_append, List.length_cons, List.length_nil, List.append_assoc, List.cons_append, List.nil_append, Nat.zero_add] at this
        rw [show L.length + (M.length + (cur.length + (xs.length + 1))) = L.length + (M.length + cur.length) + (1 + xs.length) by omega, show L.length + M.length + cur.length = L.length + (M.length + cur.length) by omega]
        exact this
      · have := ih.2 L M (old ++ [x]) (cur ++ [y]) (by simp [hl]) (by rw [allB_app, hc, hb2.1]; rfl)
        simp only [List.length_append, List.length_cons, List.length_nil, List.append_assoc, List.cons_append, List.nil_append] at this
        simp only [dL, if_neg hxy, List.length_cons]
        rw [show L.length + (M.length + (cur.length + (xs.length + 1))) = L.length + (M.length + (cur.length + (0 + 1) + xs.length)) by omega]
        exact this
theorem dL_self : ∀ (a : List Int) (g : Nat), dL g none a a = []
  | [], g => by simp [dL]
  | x :: xs, g => by simp [dL, dL_self xs]
theorem diff_self (a : List Int) : diffR a a = [] := by
  unfold diffR
  split
  · exact dL_self a 0
  · rfl
/-- Two states of one length: the patches lead from the first to the second. -/
theorem pat_diff {a b : List Int} (ha : stB a = true) (hb : stB b = true) (h : a.length = b.length) : patR a (diffR a b) = some b := by
  have hbb : allB b = true := by simp only [stB, Bool.and_eq_true] at hb; exact hb.2
  have := (pat_dL a b h hbb).1 [] []
  simp only [List.length_nil, Nat.zero_add, List.nil_append] at this
  unfold patR diffR
  rw [if_pos ha, if_pos (by simp [ha, hb, h])]
  exact this
theorem diff_bad {a b : List Int} (h : ¬ (stB a = true ∧ stB b = true ∧ a.length = b.length)) : diffR a b = [] := by
  unfold diffR
  rw [if_neg]
  intro e
  simp only [Bool.and_eq_true, decide_eq_true_eq] at e
  exact h e
theorem diff_ne {a b : List Int} (h : diffR a b ≠ []) : stB a = true ∧ stB b = true ∧ a.length = b.length := by
  apply Classical.byContradiction
  intro hno
  exact h (diff_bad hno)
/-- What the law asks of each patch. -/
theorem dL_each : ∀ (a b : List Int) (g : Nat) (c : Option (List Int)), (∀ cur, c = some cur → cur ≠ []) → (∀ t, t ∈ dL g c a b → t.2 ≠ [] ∧ 0 ≤ t.1 ∧ (1 ≤ g → 1 ≤ t.1)) ∧ (∀ t, t ∈ (dL g c a b).tail → 1 ≤ t.1)
  | [], b, g, none, _ => by simp [dL]
  | [], b, g, some c, h => by simp [dL]; exact ⟨h c rfl, fun h => by omega⟩
  | x :: xs, [], g, none, _ => by simp [dL]
  | x :: xs, [], g, some c, h => by simp [dL]; exact ⟨h c rfl, fun h => by omega⟩
  | x :: xs, y :: ys, g, none, h => by
    simp only [dL]
    split
    · have ih := dL_each xs ys (g + 1) none (by simp)
      exact ⟨fun t ht => ⟨(ih.1 t ht).1, (ih.1 t ht).2.1, fun _ => (ih.1 t ht).2.2 (by omega)⟩, ih.2⟩
    · exact dL_each xs ys g (some [y]) (by simp)
  | x :: xs, y :: ys, g, some c, h => by
    simp only [dL]
    split
    · have ih := dL_each xs ys 1 none (by simp)
      refine ⟨fun t ht => ?_, fun t ht => (ih.1 t (by simpa using ht)).2.2 (Nat.le_refl _)⟩
      rcases List.mem_cons.1 ht with rfl | ht
      · exact ⟨h c rfl, by simp, fun h => by simp; omega⟩
      · exact ⟨(ih.1 t ht).1, (ih.1 t ht).2.1, fun _ => (ih.1 t ht).2.2 (Nat.le_refl _)⟩
    · exact dL_each xs ys g (some (c ++ [y])) (by simp)
theorem diff_each {a b : List Int} {k : Nat} (hk : k < (diffR a b).length) : 0 < ((diffR a b).getD k (0, [])).2.length ∧ 0 ≤ ((diffR a b).getD k (0, [])).1 ∧ (0 < k → ((diffR a b).getD k (0, [])).1 ≠ 0) := by
  have he : (∀ t, t ∈ diffR a b → t.2 ≠ [] ∧ 0 ≤ t.1) ∧ (∀ t, t ∈ (diffR a b).tail → 1 ≤ t.1) := by
    unfold diffR
    split
    · have := dL_each a b 0 none (by simp)
      exact ⟨fun t ht => ⟨(this.1 t ht).1, (this.1 t ht).2.1⟩, this.2⟩
    · simp
  have hm : (diffR a b).getD k (0, []) ∈ diffR a b := by rw [List.getD_eq_getElem?_getD, List.getElem?_eq_getElem hk]; exact List.getElem_mem hk
  refine ⟨List.length_pos_iff.2 (he.1 _ hm).1, (he.1 _ hm).2, fun h0 => ?_⟩
  have : (diffR a b).getD k (0, []) ∈ (diffR a b).tail := by
    rw [List.getD_eq_getElem?_getD, List.getElem?_eq_getElem hk]
    obtain ⟨j, rfl⟩ : ∃ j, k = j + 1 := ⟨k - 1, by omega⟩
    rw [List.mem_iff_getElem]
    exact ⟨j, by simp; omega, by simp⟩
  have := he.2 _ this
  omega
/-- Back and forth: patches of one size. -/
theorem dL_back : ∀ (a b : List Int) (g : Nat) (c d : Option (List Int)), a.length = b.length → (match c, d with | none, none => True | some x, some y => x.length = y.length | _, _ => False) →
    (dL g c a b).length = (dL g d b a).length ∧ sumL (dL g c a b) = sumL (dL g d b a)
  | [], [], g, none, none, _, _ => by simp [dL]
  | [], [], g, some c, some d, _, h => by simp [dL, sumL]; exact h
  | [], y :: ys, _, _, _, h, _ => by simp at h
  | x :: xs, [], _, _, _, h, _ => by simp at h
  | x :: xs, y :: ys, g, none, none, h, _ => by
    by_cases hxy : x = y
    · subst hxy
      simp only [dL, if_true]
      exact dL_back xs ys (g + 1) none none (by simpa using h) trivial
    · simp only [dL, if_neg hxy, if_neg (Ne.symm hxy)]
      exact dL_back xs ys g (some [y]) (some [x]) (by simpa using h) rfl
  | x :: xs, y :: ys, g, some c, some d, h, hc => by
    by_cases hxy : x = y
    · subst hxy
      have ih := dL_back xs ys 1 none none (by simpa using h) trivial
      simp only [dL, if_true, List.length_cons]
      refine ⟨by omega, ?_⟩
      have := ih.2
      simp only [sumL, List.map_cons, List.sum_cons] at this ⊢
      simp only at hc
      omega
    · simp only [dL, if_neg hxy, if_neg (Ne.symm hxy)]
      exact dL_back xs ys g (some (c ++ [y])) (some (d ++ [x])) (by simpa using h) (by simp only at hc ⊢; simp [hc])
  | _, _, _, none, some _, _, h => by simp at h
  | _, _, _, some _, none, _, h => by simp at h
theorem diff_back (a b : List Int) : pszA (diffR b a) = pszA (diffR a b) := by
  by_cases h : stB a = true ∧ stB b = true ∧ a.length = b.length
  · unfold diffR
    rw [if_pos (by simp [h.1, h.2.1, h.2.2]), if_pos (by simp [h.1, h.2.1, h.2.2])]
    have := dL_back a b 0 none none h.2.2 trivial
    unfold pszA
    omega
  · rw [diff_bad h, diff_bad (fun e => h ⟨e.2.1, e.1, e.2.2.symm⟩)]
theorem stB_reverse (b : List Int) : stB b.reverse = stB b := by simp [stB, allB]
theorem pat_nil {a : List Int} (h : stB a = true) : patR a [] = some a := by simp [patR, h, patL]
end Go.Proofs.Ytlbalepcjamhcaa
