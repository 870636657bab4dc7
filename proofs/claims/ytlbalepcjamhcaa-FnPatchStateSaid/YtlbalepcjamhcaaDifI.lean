/-
  DiffStates of the program. No condition but that lengths stay in range.
-/
import Derived.Test.YtlbalepcjamhcaaDif
namespace Go.Proofs.Ytlbalepcjamhcaa
open Go.RowKit
set_option linter.unusedVariables false
set_option linter.unusedSimpArgs false
set_option maxHeartbeats 4000000 in
theorem diffStates_impl (A B : Option Addr) (n m cA cB : Nat) (a b : List Int) (w : World) (ha : Ints w w.heap.size A n a) (hb : Ints w w.heap.size B m b) (hna : n ≤ 1000000000) (hnb : m ≤ 1000000000) (hcB : m ≤ cB) :
    Calls Try.prog 20 #[.slice A n cA, .slice B m cB] w (GivesP w (diffR a b)) := by
  have hla := ha.len
  have hlb := hb.len
  have HA := Lib.hid ha
  have HB := Lib.hid hb
  clear ha hb
  cases sa : stB a
  · rw [show diffR a b = [] by simp [diffR, sa]]
    have sb := trivial
    go_enter Try.func20, Try.ntmps20
    go_wp2_with (first | (go_at_call 39; with_reducible refine (isState_any _ _ _ a _ HA.out hna).mono ?_; rintro e w' ⟨rfl, rfl⟩; rw [sa]) | (go_at_call 39; with_reducible refine (isState_any _ _ _ b _ HB.out hnb).mono ?_; rintro e w' ⟨rfl, rfl⟩; rw [sb]))
    go_ret
    exact ⟨none, 0, [], rfl, pown_nil _ _ _, Below.refl _ _⟩
  cases sb : stB b
  · rw [show diffR a b = [] by simp [diffR, sb]]
    go_enter Try.func20, Try.ntmps20
    go_wp2_with (first | (go_at_call 39; with_reducible refine (isState_any _ _ _ a _ HA.out hna).mono ?_; rintro e w' ⟨rfl, rfl⟩; rw [sa]) | (go_at_call 39; with_reducible refine (isState_any _ _ _ b _ HB.out hnb).mono ?_; rintro e w' ⟨rfl, rfl⟩; rw [sb]))
    go_ret
    exact ⟨none, 0, [], rfl, pown_nil _ _ _, Below.refl _ _⟩
  by_cases hnm : n = m
  case neg =>
    rw [show diffR a b = [] by unfold diffR; rw [if_neg (by simp; intro _ _; omega)]]
    have hne : ((n : Int) != (m : Int)) = true := by simp; omega
    go_enter Try.func20, Try.ntmps20
    go_wp2_with (first | (go_at_call 39; with_reducible refine (isState_any _ _ _ a _ HA.out hna).mono ?_; rintro e w' ⟨rfl, rfl⟩; rw [sa]) | (go_at_call 39; with_reducible refine (isState_any _ _ _ b _ HB.out hnb).mono ?_; rintro e w' ⟨rfl, rfl⟩; rw [sb]))
    go_ret
    exact ⟨none, 0, [], rfl, pown_nil _ _ _, Below.refl _ _⟩
  subst hnm
  have hr : diffR a b = dL 0 none a b := by unfold diffR; rw [if_pos (by rw [sa, sb]; simp; omega)]
  rw [hr]
  have hn5 : n ≤ 512 := by simp only [stB, Bool.and_eq_true, decide_eq_true_eq] at sa; omega
  have hne : ((n : Int) != (n : Int)) = false := by simp
  replace hr := Lib.hid hr
  go_enter Try.func20, Try.ntmps20
  go_wp2_with (first | (go_at_call 39; with_reducible refine (isState_any _ _ _ a _ HA.out hna).mono ?_; rintro e w' ⟨rfl, rfl⟩; rw [sa]) | (go_at_call 39; with_reducible refine (isState_any _ _ _ b _ HB.out hnb).mono ?_; rintro e w' ⟨rfl, rfl⟩; rw [sb]))
  go_loopw [5, 6, 7] (fun out e i wr => ∃ (k l : Nat) (A' : Option Addr) (c' : Nat) (os : List TP) (vs : List Value), k ≤ n ∧ l ≤ k ∧ i = .int .i64 k ∧ e = .int .i64 l ∧ out = .slice A' os.length c' ∧ os.length ≤ k ∧ POwn wr w.heap.size wr.heap.size A' c' os vs ∧ dL 0 none a b = os ++ dL (k - l) none (a.drop k) (b.drop k) ∧ Below w.heap.size w wr) (fun _ _ i _ => n - (intOf i).toNat)
  case atStart => exact ⟨0, 0, none, 0, [], [], Nat.zero_le _, Nat.le_refl _, rfl, rfl, rfl, Nat.le_refl _, pown_nil _ _ _, by simp, Below.refl _ _⟩
  case round =>
    obtain ⟨k, l, A', c', os, vs, hk, hlk, rfl, rfl, rfl, hol, hown, hall, hbw⟩ := hrel
    by_cases hlt : k < n
    · obtain ⟨b1, o1, e1, hb1, x1⟩ := (HA.out.below hbw).spot hlt
      obtain ⟨b2, o2, e2, hb2, x2⟩ := (HB.out.below hbw).spot hlt
      have q0 : (0 : Int) ≤ (k : Int) := by omega
      have q1 : (k : Int) < (n : Int) := by omega
      have HO := Lib.hid hown
      have HBW := Lib.hid hbw
      clear hown hbw
      subst e1 e2
      by_cases hxy : a.getD k 0 = b.getD k 0
      · have hst := dL_eq (g := k - l) (show k < a.length by omega) (show k < b.length by omega) hxy
        rw [hst, show k - l + 1 = k + 1 - l by omega] at hall
        have HALL := Lib.hid hall
        rw [hxy] at x1
        generalize b.getD k 0 = y at x1 x2
        have he : (y == y) = true := by simp
        clear hall hst hxy
        go_wp2_with fail
        go_quiet (fail)
        go_wp2_with fail
        go_roundw
        case rel => exact ⟨k + 1, l, A', c', os, vs, by omega, by omega, by go_num, rfl, rfl, by omega, HO.out.under (below_drewN (Below.refl _ _) _) (Nat.le_refl _), HALL.out, below_drewN HBW.out _⟩
        case measure => simp [intOf]; omega
      · have hop := dL_open (g := k - l) (show k < a.length by omega) (show k < b.length by omega) hxy
        rw [hop] at hall
        have HALL := Lib.hid hall
        have HXY := Lib.hid hxy
        have he : (a.getD k 0 == b.getD k 0) = false := by simp only [beq_eq_false_iff_ne]; exact hxy
        generalize a.getD k 0 = x at x1 he
        generalize b.getD k 0 = y at x2 he
        clear hall hop hxy
        go_wp2_with fail
        go_quiet (fail)
        obtain ⟨W, hW⟩ : ∃ W, W = wr.drewN nq := ⟨_, rfl⟩
        rw [← hW]
        replace HO := Lib.hid (show POwn W w.heap.size W.heap.size A' c' os vs by rw [hW]; exact HO.out.under (below_drewN (Below.refl _ _) _) (Nat.le_refl _))
        replace HBW := Lib.hid (show Below w.heap.size w W by rw [hW]; exact below_drewN HBW.out nq)
        clear hW x1 x2 he hb1 hb2
        go_wp2_with fail
        go_loopw [8] (fun s wr' => ∃ j : Nat, k ≤ j ∧ j ≤ n ∧ s = .int .i64 j ∧ (j = k → a.getD k 0 ≠ b.getD k 0) ∧ dL 0 none a b = os ++ dL (k - l) (some ((b.drop k).take (j - k))) (a.drop j) (b.drop j) ∧ ∃ q, wr' = W.drewN q) (fun s _ => n - (intOf s).toNat)
        case atStart => exact ⟨k, Nat.le_refl _, hk, rfl, fun _ => HXY.out, by rw [Nat.sub_self, List.take_zero]; exact HALL.out, 0, rfl⟩
        case round =>
          obtain ⟨j, hkj, hj, rfl, hjk, hall, q, rfl⟩ := hrel
          by_cases hlj : j < n
          · obtain ⟨b3, o3, e3, _, y1⟩ := (HA.out.below HBW.out).spot hlj
            obtain ⟨b4, o4, e4, _, y2⟩ := (HB.out.below HBW.out).spot hlj
            injection e3 with e3
            injection e3 with e3 e5
            injection e4 with e4
            injection e4 with e4 e6
            subst e3 e5 e4 e6
            have r0 : (0 : Int) ≤ (j : Int) := by omega
            have r1 : (j : Int) < (n : Int) := by omega
            by_cases hyy : a.getD j 0 = b.getD j 0
            · have hkj2 : k < j := by
                rcases Nat.lt_or_ge k j with h | h
                · exact h
                · obtain rfl : j = k := by omega
                  exact absurd hyy (hjk rfl)
              have hend := dL_end (g := k - l) (cur := (b.drop k).take (j - k)) (show j < a.length by omega) (show j < b.length by omega) hyy
              have he : (a.getD j 0 != b.getD j 0) = false := by rw [hyy]; simp
              generalize a.getD j 0 = x at y1 he
              generalize b.getD j 0 = y at y2 he
              clear hyy hjk
              have hcl : ((b.drop k).take (j - k)).length = j - k := by rw [List.length_take, List.length_drop]; omega
              rw [hend] at hall
              have hint := ((HB.out.below HBW.out).drop (k := k) (cap := cB) (by omega) hcB)
              rw [if_neg (show ¬ cB = k by omega)] at hint
              replace hint := hint.take (k := j - k) (by omega)
              obtain ⟨cur, hcur⟩ : ∃ cur, cur = (b.drop k).take (j - k) := ⟨_, rfl⟩
              rw [← hcur] at hall hint hcl
              have HALL2 := Lib.hid hall
              have HINT := Lib.hid (show Ints W W.heap.size (some ⟨b2, o2 + k, none⟩) (j - k) cur by have h := hint.more HBW.out.size; rcases Nat.eq_zero_or_pos k with hk0 | hk0; (subst hk0; simpa [Addr.add] using h); simpa [Addr.add, Nat.ne_of_gt hk0] using h)
              have hcc : ¬ (cB = k) := by omega
              have hgap := Lib.hid (show (k : Int) - (l : Int) = ((k - l : Nat) : Int) by omega)
              have s1 : (k : Int) ≤ (j : Int) := by omega
              have s2 : (j : Int) ≤ (cB : Int) := by omega
              have s3 : (l : Int) ≤ (k : Int) := by omega
              replace hcur := Lib.hid hcur
              clear hall hint hend
              go_wp2_with fail
              go_quiet (fail)
              obtain ⟨W2, hW2⟩ : ∃ W2, W2 = W.drewN (q + nq) := ⟨_, rfl⟩
              have HO2 := Lib.hid (show POwn W2 w.heap.size W2.heap.size A' c' os vs by rw [hW2]; exact HO.out.under (below_drewN (Below.refl _ _) _) (Nat.le_refl _))
              have HB2 := Lib.hid (show Below w.heap.size w W2 by rw [hW2]; exact below_drewN HBW.out _)
              replace HINT := Lib.hid (show Ints W2 W2.heap.size (some ⟨b2, o2 + k, none⟩) (j - k) cur by rw [hW2]; exact HINT.out)
              replace hcl := Lib.hid hcl
              replace hW2 := Lib.hid hW2
              go_wp2_with fail
              rw [← hW2.out]
              refine (clone_any _ _ _ cur _ HINT.out (by omega) (by intro h; cases h)).mono ?_
              rintro e w5 ⟨A3, c3, rfl, o5, b5⟩
              have HO5 := Lib.hid (HO2.out.under b5 (Nat.le_refl _))
              have HB5 := Lib.hid (below_step HB2.out b5 HB2.out.size)
              have O5 := Lib.hid o5
              have hsz5 := b5.size
              have hszw := HB2.out.size
              clear o5 b5
              go_wp2_with (at_builtin; refine push_patch _ rfl _ _ rfl w.heap.size os.length c' w5.heap.size 1 A' A3 cur.length c3 (pv os vs) ((k : Int) - (l : Int)) rfl rfl (HO5.out.outer.alloc _) (cell_new _ _ _ 0) (cell_new _ _ _ 1) (by omega) (by simp; omega) ?_; intro A6 c6 w6 o6 g6; have hsn := Lib.hid (POwn.snoc (HO5.out.under ((Below.refl w5.heap.size w5).alloc (Nat.le_refl _) (.cells #[.int .i64 ((k : Int) - (l : Int)), .slice A3 cur.length c3] 45)) hsz5) ((k : Int) - (l : Int)) cur (.slice A3 cur.length c3) o6 g6 (own_base (O5.out.alloc _) hszw) (fun g hg => (O5.out.lt g hg).1) (by simp; omega)); have hb6 := Lib.hid ((HB5.out.alloc HB5.out.size _).grown g6 (Nat.le_trans HB5.out.size (size_alloc_le _ _)) (fun q hq => (HO5.out.outer.lt q hq).1)); clear o6 g6)
              go_roundw
              case rel => exact ⟨j, j, A6, c6, os ++ [((k : Int) - (l : Int), cur)], vs ++ [.slice A3 cur.length c3], by omega, Nat.le_refl _, rfl, rfl, by rw [List.length_append]; rfl, by simp; omega, hsn.out, by rw [HALL2.out, Nat.sub_self, hgap.out]; simp, hb6.out⟩
              case measure => simp [intOf]; omega
            · have hst := dL_ne (g := k - l) (cur := (b.drop k).take (j - k)) (show j < a.length by omega) (show j < b.length by omega) hyy
              rw [hst] at hall
              have htk : (b.drop k).take (j - k) ++ [b.getD j 0] = (b.drop k).take (j + 1 - k) := by
                rw [show j + 1 - k = j - k + 1 by omega, List.take_add_one, List.getElem?_drop, show k + (j - k) = j by omega, List.getD_eq_getElem?_getD, List.getElem?_eq_getElem (show j < b.length by omega)]
                rfl
              rw [htk] at hall
              have HALL2 := Lib.hid hall
              have he : (a.getD j 0 != b.getD j 0) = true := by simpa using hyy
              generalize a.getD j 0 = x at y1 he
              generalize b.getD j 0 = y at y2 he
              clear hall hst htk hyy
              go_wp2_with fail
              go_quiet (fail)
              go_wp2_with fail
              go_roundw
              case rel => exact ⟨j + 1, by omega, by omega, by go_num, fun h => by omega, HALL2.out, _, by first | rfl | simp⟩
              case measure => simp [intOf]; omega
          · obtain rfl : j = n := by omega
            have hkj2 : k < j := hlt
            have hend := dL_last (g := k - l) (cur := (b.drop k).take (j - k)) (b := b) (show a.length ≤ j by omega)
            clear hjk
            have hcl : ((b.drop k).take (j - k)).length = j - k := by rw [List.length_take, List.length_drop]; omega
            rw [hend] at hall
            have hint := ((HB.out.below HBW.out).drop (k := k) (cap := cB) (by omega) hcB)
            rw [if_neg (show ¬ cB = k by omega)] at hint
            replace hint := hint.take (k := j - k) (by omega)
            obtain ⟨cur, hcur⟩ : ∃ cur, cur = (b.drop k).take (j - k) := ⟨_, rfl⟩
            rw [← hcur] at hall hint hcl
            have HALL2 := Lib.hid hall
            have HINT := Lib.hid (show Ints W W.heap.size (some ⟨b2, o2 + k, none⟩) (j - k) cur by have h := hint.more HBW.out.size; rcases Nat.eq_zero_or_pos k with hk0 | hk0; (subst hk0; simpa [Addr.add] using h); simpa [Addr.add, Nat.ne_of_gt hk0] using h)
            have hcc : ¬ (cB = k) := by omega
            have hgap := Lib.hid (show (k : Int) - (l : Int) = ((k - l : Nat) : Int) by omega)
            have s1 : (k : Int) ≤ (j : Int) := by omega
            have s2 : (j : Int) ≤ (cB : Int) := by omega
            have s3 : (l : Int) ≤ (k : Int) := by omega
            replace hcur := Lib.hid hcur
            clear hall hint hend
            go_wp2_with fail
            go_quiet (fail)
            obtain ⟨W2, hW2⟩ : ∃ W2, W2 = W.drewN (q + nq) := ⟨_, rfl⟩
            have HO2 := Lib.hid (show POwn W2 w.heap.size W2.heap.size A' c' os vs by rw [hW2]; exact HO.out.under (below_drewN (Below.refl _ _) _) (Nat.le_refl _))
            have HB2 := Lib.hid (show Below w.heap.size w W2 by rw [hW2]; exact below_drewN HBW.out _)
            replace HINT := Lib.hid (show Ints W2 W2.heap.size (some ⟨b2, o2 + k, none⟩) (j - k) cur by rw [hW2]; exact HINT.out)
            replace hcl := Lib.hid hcl
            replace hW2 := Lib.hid hW2
            go_wp2_with fail
            rw [← hW2.out]
            refine (clone_any _ _ _ cur _ HINT.out (by omega) (by intro h; cases h)).mono ?_
            rintro e w5 ⟨A3, c3, rfl, o5, b5⟩
            have HO5 := Lib.hid (HO2.out.under b5 (Nat.le_refl _))
            have HB5 := Lib.hid (below_step HB2.out b5 HB2.out.size)
            have O5 := Lib.hid o5
            have hsz5 := b5.size
            have hszw := HB2.out.size
            clear o5 b5
            go_wp2_with (at_builtin; refine push_patch _ rfl _ _ rfl w.heap.size os.length c' w5.heap.size 1 A' A3 cur.length c3 (pv os vs) ((k : Int) - (l : Int)) rfl rfl (HO5.out.outer.alloc _) (cell_new _ _ _ 0) (cell_new _ _ _ 1) (by omega) (by simp; omega) ?_; intro A6 c6 w6 o6 g6; have hsn := Lib.hid (POwn.snoc (HO5.out.under ((Below.refl w5.heap.size w5).alloc (Nat.le_refl _) (.cells #[.int .i64 ((k : Int) - (l : Int)), .slice A3 cur.length c3] 45)) hsz5) ((k : Int) - (l : Int)) cur (.slice A3 cur.length c3) o6 g6 (own_base (O5.out.alloc _) hszw) (fun g hg => (O5.out.lt g hg).1) (by simp; omega)); have hb6 := Lib.hid ((HB5.out.alloc HB5.out.size _).grown g6 (Nat.le_trans HB5.out.size (size_alloc_le _ _)) (fun q hq => (HO5.out.outer.lt q hq).1)); clear o6 g6)
            go_roundw
            case rel => exact ⟨j, j, A6, c6, os ++ [((k : Int) - (l : Int), cur)], vs ++ [.slice A3 cur.length c3], by omega, Nat.le_refl _, rfl, rfl, by rw [List.length_append]; rfl, by simp; omega, hsn.out, by rw [HALL2.out, Nat.sub_self, hgap.out]; simp, hb6.out⟩
            case measure => simp [intOf]; omega
    · obtain rfl : k = n := by omega
      have hd := dL_done (g := k - l) (b := b) (show a.length ≤ k by omega)
      rw [hd, List.append_nil] at hall
      go_wp2
      go_ret
      rw [hall]
      exact ⟨A', c', vs, rfl, hown, hbw⟩
end Go.Proofs.Ytlbalepcjamhcaa
