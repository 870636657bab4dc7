/-
  The laws on differences of states: their walks. No condition.
-/
import Derived.Test.YtlbalepcjamhcaaPLw
import Derived.Test.YtlbalepcjamhcaaDifI
namespace Go.Proofs.Ytlbalepcjamhcaa
open Go.RowKit
set_option linter.unusedVariables false
set_option linter.unusedSimpArgs false
attribute [local go_sem ↓] Go.wp_at_zero Go.wp_at_succ
set_option maxHeartbeats 400000 in
theorem alive_any (w : World) : Calls Try.prog 17 #[] w fun e w' => e = .returned (.bool true) ∧ w = w' := by
  have e8 : wrap64 (IntKind.i8.wrap 255) = -1 := by
    rw [show IntKind.i8.wrap 255 = -1 by decide]
    exact IntWalk.wrap64_in _ (by omega)
  go_enter Try.func17, Try.ntmps17
  go_wp2_with (first | (go_at_call 51; refine (within_any _ _ _ _).mono ?_; rintro e w' ⟨rfl, rfl⟩; rw [show inB 255 0 255 = true from rfl]) | go_in)
  go_ret
  exact ⟨rfl, rfl⟩
set_option maxHeartbeats 1000000 in
theorem sameInts_dec (A B : Option Addr) (n c d : Nat) (xs ys : List Int) (w : World) (ha : Ints w w.heap.size A n xs) (hb : Ints w w.heap.size B n ys) (hn : n ≤ 9223372036854775807) :
    Calls Try.prog 30 #[.slice A n c, .slice B n d] w fun e w' => e = .returned (.bool (decide (xs = ys))) ∧ Below w.heap.size w w' := by
  have hnn : (((n : Int) != (n : Int)) = false) := by simp
  have hlx := ha.len
  have hly := hb.len
  have HA := Lib.hid ha
  have HB := Lib.hid hb
  clear ha hb
  go_enter Try.func30, Try.ntmps30
  go_wp2
  go_loopw [5] (fun i wr => ∃ k : Nat, k ≤ n ∧ i = .int .i64 k ∧ xs.take k = ys.take k ∧ ∃ q, wr = w.drewN q) (fun i _ => n - (intOf i).toNat)
  case atStart => exact ⟨0, Nat.zero_le _, rfl, by simp, 0, rfl⟩
  case round =>
    obtain ⟨k, hk, rfl, htk, q, rfl⟩ := hrel
    by_cases hlt : k < n
    · obtain ⟨b, off, e1, _, h1⟩ := HA.out.spot hlt
      obtain ⟨b2, off2, e2, _, h2⟩ := HB.out.spot hlt
      have q0 : (0 : Int) ≤ (k : Int) := by omega
      have q1 : (k : Int) < (n : Int) := by omega
      have hsx : xs.take (k + 1) = xs.take k ++ [xs.getD k 0] := by
        rw [List.take_add_one, List.getD_eq_getElem?_getD, List.getElem?_eq_getElem (show k < xs.length by omega)]; rfl
      have hsy : ys.take (k + 1) = ys.take k ++ [ys.getD k 0] := by
        rw [List.take_add_one, List.getD_eq_getElem?_getD, List.getElem?_eq_getElem (show k < ys.length by omega)]; rfl
      by_cases hxy : xs.getD k 0 = ys.getD k 0
      · have hnx := Lib.hid (show xs.take (k + 1) = ys.take (k + 1) by rw [hsx, hsy, htk, hxy])
        have hne : (xs.getD k 0 != ys.getD k 0) = false := by rw [hxy]; simp
        generalize xs.getD k 0 = x at h1 hne
        generalize ys.getD k 0 = y at h2 hne
        clear htk hsx hsy hxy
        subst e1 e2
        go_wp2
        go_quiet (fail)
        go_wp2
        go_roundw
        case rel => exact ⟨k + 1, by omega, by go_num, hnx.out, _, by first | rfl | simp⟩
        case measure => simp [intOf]; omega
      · have hdd := Lib.hid (show decide (xs = ys) = false from decide_eq_false fun e => hxy (by rw [e]))
        have hne : (xs.getD k 0 != ys.getD k 0) = true := by simpa using hxy
        generalize xs.getD k 0 = x at h1 hne
        generalize ys.getD k 0 = y at h2 hne
        clear htk hsx hsy hxy
        subst e1 e2
        go_wp2
        go_quiet (fail)
        go_wp2
        go_ret
        rw [hdd.out]
        exact ⟨rfl, below_drewN (below_drewN (Below.refl _ _) _) _⟩
    · obtain rfl : k = n := by omega
      have hxy : xs = ys := by rw [List.take_of_length_le (by omega), List.take_of_length_le (by omega)] at htk; exact htk
      have hdd := Lib.hid (show decide (xs = ys) = true from decide_eq_true hxy)
      clear htk hxy
      go_wp2
      go_ret
      rw [hdd.out]
      exact ⟨rfl, below_drewN (Below.refl _ _) _⟩
theorem patchState_some {a r : List Int} {ts : List TP} (hr : patR a ts = some r) (A B : Option Addr) (n c m d : Nat) (w : World) (ha : Ints w w.heap.size A n a) (hA : A = none → c = 0) (hp : PRd w B m ts) (hn : n ≤ 1000000000) (hm : m ≤ 1000000000) (hd : ∀ k, k < m → (ts.getD k (0, [])).2.length ≤ 1000000000) :
    Calls Try.prog 26 #[.slice A n c, .slice B m d] w fun e w' => ∃ A c, e = .returned (.tuple #[.slice A r.length c, .bool true]) ∧ w'.ownsRow w.heap.size 3 1 (.slice A r.length c) r.length (iv r) ∧ Below w.heap.size w w' := by
  refine (patchState_impl A B n c m d a ts w ha hA hp hn hm hd).mono ?_
  rintro e w' ⟨A, c, h⟩
  rw [hr] at h
  exact ⟨A, c, h⟩
set_option maxHeartbeats 4000000 in
theorem fnDiffStates_walk (w : World) (A : Option Addr) (n c : Nat) (zs : List Int) (h : IsRow .u8 w A n c zs) :
    Calls Try.prog 7 #[.slice A n c] w fun e w' => e = .returned (.bool true) ∧ Below w.heap.size w w' := by
  by_cases hlong : 1048576 < n
  · go_enter Try.func7, Try.ntmps7
    go_wp2_with fail
    go_ret
    exact ⟨rfl, Below.refl _ _⟩
  have HI := Lib.hid h
  clear h
  go_enter Try.func7, Try.ntmps7
  go_wp2_with fail
  refine (drawDiffStates_any A n c zs _ HI.out).mono ?_
  rintro e w1 ⟨A1, B1, c1, d1, a, b, rfl, ⟨ia, na, ca, la⟩, ⟨ib, nb, cb, lb⟩, hb⟩
  have HA := Lib.hid ia
  have HB := Lib.hid ib
  have HBW := Lib.hid hb
  have hw1 := hb.size
  have hZ := Lib.hid (Zones.start w1)
  have hz := diffR_sz a b
  have hlen : (diffR a b).length ≤ 1000000000 := psz_len (m := 1000000000) (by omega)
  have hea := Lib.hid (psz_each (ts := diffR a b) (by omega))
  clear ia ib hb
  go_wp2_with fail
  refine (diffStates_impl _ _ _ _ _ _ a b _ (hZ.out.arg HA.out) (hZ.out.arg HB.out) (by omega) (by omega) cb).mono ?_
  rintro e w' ⟨A', c', vs, rfl, o, b⟩
  replace hZ := Lib.hid (hZ.out.pushP o b)
  clear o b
  go_wp2_with fail
  refine (diffStates_spec _ _ _ _ _ _ a b _ (hZ.out.arg HA.out) (hZ.out.arg HB.out) (by omega) (by omega) cb).mono ?_
  rintro e w' ⟨A', c', vs, rfl, o, b⟩
  replace hZ := Lib.hid (hZ.out.pushP o b)
  clear o b
  go_wp2_with fail
  refine (samePatches_same _ _ _ _ _ _ _ (hZ.out.prd 1 rfl) (hZ.out.prd 0 rfl) hlen hea.out).mono ?_
  rintro e w' ⟨rfl, b⟩
  replace hZ := Lib.hid (hZ.out.below b)
  clear b
  have HP := Lib.hid (hZ.out.prd 1 rfl)
  go_wp2_with fail
  go_loop [6] (fun i => ∃ k : Nat, k ≤ (diffR a b).length ∧ i = .int .i64 k) (fun i => (diffR a b).length - (intOf i).toNat)
  case atStart => exact ⟨0, Nat.zero_le _, rfl⟩
  case round =>
    obtain ⟨k, hk, rfl⟩ := hrel
    by_cases hlt : k < (diffR a b).length
    · obtain ⟨bb, off, X, cx, e1, hb1, y0, y1, -, -, -⟩ := HP.out.spot hlt
      obtain ⟨g0, g1, g2⟩ := diff_each hlt
      generalize (diffR a b).getD k (0, []) = t at y0 y1 g0 g1 g2
      obtain ⟨s, ds⟩ := t
      simp only at y0 y1 g0 g1 g2
      have q0 : (0 : Int) ≤ (k : Int) := by omega
      have q1 : (k : Int) < ((diffR a b).length : Int) := by omega
      have q2 : ((ds.length : Int) == 0) = false := by simp; intro e; rw [e] at g0; simp at g0
      have q3 : ¬ (s < 0) := by omega
      have E1 := Lib.hid e1
      clear e1
      rw [E1.out]
      by_cases hk0 : 0 < k
      · have q4 : (k : Int) > 0 := by omega
        have q5 : (s == 0) = false := by simpa using g2 hk0
        go_wp2_with fail
        go_round
        case rel => exact ⟨k + 1, by omega, by go_num⟩
        case measure => simp [intOf]; omega
      · have q4 : ¬ ((k : Int) > 0) := by omega
        go_wp2_with fail
        go_round
        case rel => exact ⟨k + 1, by omega, by go_num⟩
        case measure => simp [intOf]; omega
    · obtain rfl : k = (diffR a b).length := by omega
      clear HP
      by_cases hab : a.length = b.length
      case neg =>
        have hb0 : diffR a b = [] := diff_bad fun e => hab e.2.2
        have p1 : ((a.length : Int) != (b.length : Int)) = true := by simp; omega
        have p2 : (((diffR a b).length : Int) == 0) = true := by rw [hb0]; rfl
        replace hb0 := Lib.hid hb0
        go_wp2_with (go_at_call 17; refine (alive_any _).mono ?_; rintro e w' ⟨rfl, rfl⟩)
        go_ret
        exact ⟨rfl, HBW.out.trans (hZ.out.bel.mono hw1)⟩
      have p1 : ((a.length : Int) != (b.length : Int)) = false := by simp; omega
      have HBA := Lib.hid (show Ints w1 w1.heap.size B1 a.length b by rw [hab]; exact HB.out)
      have p3 : (((diffR a a).length : Int) == 0) = true := by rw [diff_self]; rfl
      by_cases hemp : diffR a b = []
      · have p2 : (((diffR a b).length : Int) == 0) = true := by rw [hemp]; rfl
        have hsd := fun c d w ha hb => sameInts_dec A1 B1 a.length c d a b w ha hb (by omega)
        replace hemp := Lib.hid hemp
        replace hab := Lib.hid hab
        have e3 := Lib.hid (show decide (a = b) = decide (a = b) from rfl)
        have HSD := Lib.hid hsd
        clear hsd
        go_wp2_with fail
        rw [← hab.out]
        refine (HSD.out _ _ _ (hZ.out.arg HA.out) (hZ.out.arg HBA.out)).mono ?_
        rintro e w' ⟨rfl, b⟩
        replace hZ := Lib.hid (hZ.out.below b)
        clear b
        cases hdd : decide (a = b)
        · go_wp2_with (go_at_call 17; refine (alive_any _).mono ?_; rintro e w' ⟨rfl, rfl⟩)
          go_ret
          exact ⟨rfl, HBW.out.trans (hZ.out.bel.mono hw1)⟩
        · go_wp2_with fail
          refine (patchState_impl _ _ _ _ _ _ a (diffR a b) _ (hZ.out.arg HA.out) na (hZ.out.prd 1 rfl) (by omega) hlen hea.out).mono ?_
          rintro e w' ⟨A', c', rfl, o, b⟩
          replace hZ := Lib.hid (hZ.out.pushI o b)
          clear o b
          go_wp2_with fail
          refine (diffStates_impl _ _ _ _ _ _ a a _ (hZ.out.arg HA.out) (hZ.out.arg HA.out) (by omega) (by omega) ca).mono ?_
          rintro e w' ⟨A', c', vs, rfl, o, b⟩
          replace hZ := Lib.hid (hZ.out.pushP o b)
          clear o b
          go_wp2_with fail
          go_ret
          exact ⟨rfl, HBW.out.trans (hZ.out.bel.mono hw1)⟩
      · have p2 : (((diffR a b).length : Int) == 0) = false := by
          have := List.length_pos_iff.2 hemp
          simp; exact hemp
        obtain ⟨sa, sb, -⟩ := diff_ne hemp
        have hpd := Lib.hid (pat_diff sa sb hab)
        replace hab := Lib.hid hab
        clear hemp
        go_wp2_with fail
        refine (patchState_some hpd.out _ _ _ _ _ _ _ (hZ.out.arg HA.out) na (hZ.out.prd 1 rfl) (by omega) hlen hea.out).mono ?_
        rintro e w' ⟨A', c', rfl, o, b⟩
        replace hZ := Lib.hid (hZ.out.pushI o b)
        clear o b
        go_wp2_with fail
        refine (sameInts_same _ _ _ _ _ b _ (hZ.out.ints 0 rfl) (hZ.out.arg HB.out) (by omega)).mono ?_
        rintro e w' ⟨rfl, b⟩
        replace hZ := Lib.hid (hZ.out.below b)
        clear b
        go_wp2_with fail
        refine (diffStates_impl _ _ _ _ _ _ a a _ (hZ.out.arg HA.out) (hZ.out.arg HA.out) (by omega) (by omega) ca).mono ?_
        rintro e w' ⟨A', c', vs, rfl, o, b⟩
        replace hZ := Lib.hid (hZ.out.pushP o b)
        clear o b
        go_wp2_with fail
        go_ret
        exact ⟨rfl, HBW.out.trans (hZ.out.bel.mono hw1)⟩
set_option maxHeartbeats 4000000 in
theorem fnStateUndo_walk (w : World) (A : Option Addr) (n c : Nat) (zs : List Int) (h : IsRow .u8 w A n c zs) :
    Calls Try.prog 9 #[.slice A n c] w fun e w' => e = .returned (.bool true) ∧ Below w.heap.size w w' := by
  by_cases hlong : 1048576 < n
  · go_enter Try.func9, Try.ntmps9
    go_wp2_with fail
    go_ret
    exact ⟨rfl, Below.refl _ _⟩
  have HI := Lib.hid h
  clear h
  go_enter Try.func9, Try.ntmps9
  go_wp2_with fail
  refine (drawDiffStates_any A n c zs _ HI.out).mono ?_
  rintro e w1 ⟨A1, B1, c1, d1, a, b, rfl, ⟨ia, na, ca, la⟩, ⟨ib, nb, cb, lb⟩, hb⟩
  have HA := Lib.hid ia
  have HB := Lib.hid ib
  have HBW := Lib.hid hb
  have hw1 := hb.size
  have hZ := Lib.hid (Zones.start w1)
  have hz := diffR_sz a b
  have hlen : (diffR a b).length ≤ 1000000000 := psz_len (m := 1000000000) (by omega)
  have hea := Lib.hid (psz_each (ts := diffR a b) (by omega))
  have hz2 := diffR_sz b a
  have hlen2 : (diffR b a).length ≤ 1000000000 := psz_len (m := 1000000000) (by omega)
  have hea2 := Lib.hid (psz_each (ts := diffR b a) (by omega))
  clear ia ib hb
  have heq : (pszA (diffR b a) == pszA (diffR a b)) = true := by rw [diff_back]; simp
  go_wp2_with fail
  refine (diffStates_impl _ _ _ _ _ _ a b _ (hZ.out.arg HA.out) (hZ.out.arg HB.out) (by omega) (by omega) cb).mono ?_
  rintro e w' ⟨A', c', vs, rfl, o, b⟩
  replace hZ := Lib.hid (hZ.out.pushP o b)
  clear o b
  go_wp2_with fail
  refine (diffStates_impl _ _ _ _ _ _ b a _ (hZ.out.arg HB.out) (hZ.out.arg HA.out) (by omega) (by omega) ca).mono ?_
  rintro e w' ⟨A', c', vs, rfl, o, b⟩
  replace hZ := Lib.hid (hZ.out.pushP o b)
  clear o b
  go_wp2_with fail
  refine (diffStates_spec _ _ _ _ _ _ a b _ (hZ.out.arg HA.out) (hZ.out.arg HB.out) (by omega) (by omega) cb).mono ?_
  rintro e w' ⟨A', c', vs, rfl, o, b⟩
  replace hZ := Lib.hid (hZ.out.pushP o b)
  clear o b
  go_wp2_with fail
  refine (samePatches_same _ _ _ _ _ _ _ (hZ.out.prd 2 rfl) (hZ.out.prd 0 rfl) hlen hea.out).mono ?_
  rintro e w' ⟨rfl, b⟩
  replace hZ := Lib.hid (hZ.out.below b)
  clear b
  by_cases hemp : diffR a b = []
  · have p2 : (((diffR a b).length : Int) == 0) = true := by rw [hemp]; rfl
    replace hemp := Lib.hid hemp
    go_wp2_with fail
    refine (patchState_impl _ _ _ _ _ _ a (diffR a b) _ (hZ.out.arg HA.out) na (hZ.out.prd 2 rfl) (by omega) hlen hea.out).mono ?_
    rintro e w' ⟨A', c', rfl, o, b⟩
    replace hZ := Lib.hid (hZ.out.pushI o b)
    clear o b
    generalize (patR a (diffR a b)).isSome = ok
    generalize (patR a (diffR a b)).getD [] = xs at hZ
    cases ok
    · go_wp2_with fail
      refine (patchSize_impl _ _ _ _ _ (hZ.out.prd 2 rfl) (by omega)).mono ?_
      rintro e w' ⟨rfl, b⟩
      replace hZ := Lib.hid (hZ.out.below b)
      clear b
      go_wp2_with fail
      refine (patchSize_impl _ _ _ _ _ (hZ.out.prd 3 rfl) (by omega)).mono ?_
      rintro e w' ⟨rfl, b⟩
      replace hZ := Lib.hid (hZ.out.below b)
      clear b
      go_wp2_with (go_at_call 17; refine (alive_any _).mono ?_; rintro e w' ⟨rfl, rfl⟩)
      go_ret
      exact ⟨rfl, HBW.out.trans (hZ.out.bel.mono hw1)⟩
    · by_cases hab : a.length = b.length
      · have p1 : ((a.length : Int) != (b.length : Int)) = false := by simp; omega
        replace hab := Lib.hid hab
        go_wp2_with fail
        refine (patchSize_impl _ _ _ _ _ (hZ.out.prd 2 rfl) (by omega)).mono ?_
        rintro e w' ⟨rfl, b⟩
        replace hZ := Lib.hid (hZ.out.below b)
        clear b
        go_wp2_with fail
        refine (patchSize_impl _ _ _ _ _ (hZ.out.prd 3 rfl) (by omega)).mono ?_
        rintro e w' ⟨rfl, b⟩
        replace hZ := Lib.hid (hZ.out.below b)
        clear b
        go_wp2_with (go_at_call 17; refine (alive_any _).mono ?_; rintro e w' ⟨rfl, rfl⟩)
        go_ret
        exact ⟨rfl, HBW.out.trans (hZ.out.bel.mono hw1)⟩
      · have p1 : ((a.length : Int) != (b.length : Int)) = true := by simp; omega
        go_wp2_with fail
        refine (patchSize_impl _ _ _ _ _ (hZ.out.prd 2 rfl) (by omega)).mono ?_
        rintro e w' ⟨rfl, b⟩
        replace hZ := Lib.hid (hZ.out.below b)
        clear b
        go_wp2_with fail
        refine (patchSize_impl _ _ _ _ _ (hZ.out.prd 3 rfl) (by omega)).mono ?_
        rintro e w' ⟨rfl, b⟩
        replace hZ := Lib.hid (hZ.out.below b)
        clear b
        go_wp2_with (go_at_call 17; refine (alive_any _).mono ?_; rintro e w' ⟨rfl, rfl⟩)
        go_ret
        exact ⟨rfl, HBW.out.trans (hZ.out.bel.mono hw1)⟩
  · have p2 : (((diffR a b).length : Int) == 0) = false := by simp; exact hemp
    obtain ⟨sa, sb, hab⟩ := diff_ne hemp
    have hpd := Lib.hid (pat_diff sa sb hab)
    have hpb := Lib.hid (pat_diff sb sa hab.symm)
    have p1 : ((a.length : Int) != (b.length : Int)) = false := by simp; omega
    replace hab := Lib.hid hab
    clear hemp
    go_wp2_with fail
    refine (patchState_some hpd.out _ _ _ _ _ _ _ (hZ.out.arg HA.out) na (hZ.out.prd 2 rfl) (by omega) hlen hea.out).mono ?_
    rintro e w' ⟨A', c', rfl, o, b⟩
    replace hZ := Lib.hid (hZ.out.pushI o b)
    clear o b
    go_wp2_with fail
    refine (patchState_some hpb.out _ _ _ _ _ _ _ (hZ.out.ints 0 rfl) (hZ.out.nil_ 0 rfl) (hZ.out.prd 2 rfl) (by omega) hlen2 hea2.out).mono ?_
    rintro e w' ⟨A', c', rfl, o, b⟩
    replace hZ := Lib.hid (hZ.out.pushI o b)
    clear o b
    go_wp2_with fail
    refine (sameInts_same _ _ _ _ _ a _ (hZ.out.ints 0 rfl) (hZ.out.arg HA.out) (by omega)).mono ?_
    rintro e w' ⟨rfl, b⟩
    replace hZ := Lib.hid (hZ.out.below b)
    clear b
    go_wp2_with fail
    refine (patchSize_impl _ _ _ _ _ (hZ.out.prd 3 rfl) (by omega)).mono ?_
    rintro e w' ⟨rfl, b⟩
    replace hZ := Lib.hid (hZ.out.below b)
    clear b
    go_wp2_with fail
    refine (patchSize_impl _ _ _ _ _ (hZ.out.prd 4 rfl) (by omega)).mono ?_
    rintro e w' ⟨rfl, b⟩
    replace hZ := Lib.hid (hZ.out.below b)
    clear b
    go_wp2_with fail
    go_ret
    exact ⟨rfl, HBW.out.trans (hZ.out.bel.mono hw1)⟩
set_option maxHeartbeats 4000000 in
theorem fnRewind_walk (w : World) (A : Option Addr) (n c : Nat) (zs : List Int) (h : IsRow .u8 w A n c zs) :
    Calls Try.prog 8 #[.slice A n c] w fun e w' => e = .returned (.bool true) ∧ Below w.heap.size w w' := by
  by_cases hlong : 1048576 < n
  · go_enter Try.func8, Try.ntmps8
    go_wp2_with fail
    go_ret
    exact ⟨rfl, Below.refl _ _⟩
  have HI := Lib.hid h
  clear h
  go_enter Try.func8, Try.ntmps8
  go_wp2_with fail
  refine (drawDiffStates_any A n c zs _ HI.out).mono ?_
  rintro e w1 ⟨A1, B1, c1, d1, a, b, rfl, ⟨ia, na, ca, la⟩, ⟨ib, nb, cb, lb⟩, hb⟩
  have HA := Lib.hid ia
  have HB := Lib.hid ib
  have HBW := Lib.hid hb
  have hw1 := hb.size
  have hZ := Lib.hid (Zones.start w1)
  have hz := diffR_sz a b
  have hlen : (diffR a b).length ≤ 1000000000 := psz_len (m := 1000000000) (by omega)
  have hea := Lib.hid (psz_each (ts := diffR a b) (by omega))
  have hz2 := diffR_sz b a
  have hlen2 : (diffR b a).length ≤ 1000000000 := psz_len (m := 1000000000) (by omega)
  have hea2 := Lib.hid (psz_each (ts := diffR b a) (by omega))
  clear ia ib hb
  have hbx : Below w1.heap.size w1 (w1.alloc (.cells #[] 3)) := by go_grown
  have HO0 := Lib.hid (show (w1.alloc (.cells #[] 3)).ownsRow w1.heap.size 3 1 (.slice (some ⟨w1.heap.size, 0, none⟩) 0 0) 0 (iv []) from World.ownsRow_lit w1 #[] 0 (Nat.le_refl _) (by simp [maxLen]) rfl)
  go_wp2_with fail
  go_loopw [5, 6] (fun out k wr => ∃ (K : Nat) (z : Int) (A' : Option Addr) (c' : Nat) (o : List Int), K ≤ b.length ∧ out = .slice A' o.length c' ∧ k = .int .i64 z ∧ z + 1 = K ∧ o = (b.drop K).reverse ∧ wr.ownsRow w1.heap.size 3 1 (.slice A' o.length c') o.length (iv o) ∧ Below w1.heap.size w1 wr) (fun _ k _ => (intOf k + 1).toNat)
  case atStart => exact ⟨b.length, (b.length : Int) - 1, _, _, [], Nat.le_refl _, rfl, by go_num, by omega, by simp, HO0.out, hbx⟩
  case round =>
    obtain ⟨K, z, A', c', o, hK, rfl, rfl, hzK, ho, hown, hbw⟩ := hrel
    have hol : o.length = b.length - K := by rw [ho]; simp
    rcases K with _ | j
    · obtain rfl : z = -1 := by omega
      rw [List.drop_zero] at ho
      replace hZ := Lib.hid (hZ.out.pushI hown hbw)
      have HOR := Lib.hid ho
      have hob : o.length ≤ 513 := by omega
      have HOC := Lib.hid (own_cap hown)
      have hoe := Lib.hid (show o.length = b.length by omega)
      clear hol ho hown hbw hbx
      have hzz := diffR_sz o b
      have hlen3 : (diffR o b).length ≤ 1000000000 := psz_len (m := 1000000000) (by omega)
      have hea3 := Lib.hid (psz_each (ts := diffR o b) (by omega))
      go_wp2_with fail
      refine (diffStates_impl _ _ _ _ _ _ b a _ (hZ.out.arg HB.out) (hZ.out.arg HA.out) (by omega) (by omega) ca).mono ?_
      rintro e w' ⟨A', c', vs, rfl, o, b⟩
      replace hZ := Lib.hid (hZ.out.pushP o b)
      clear o b
      go_wp2_with fail
      refine (diffStates_impl _ _ _ _ _ _ o b _ (hZ.out.ints 1 rfl) (hZ.out.arg HB.out) (by omega) (by omega) cb).mono ?_
      rintro e w' ⟨A', c', vs, rfl, o, b⟩
      replace hZ := Lib.hid (hZ.out.pushP o b)
      clear o b
      go_wp2_with fail
      refine (diffStates_spec _ _ _ _ _ _ b a _ (hZ.out.arg HB.out) (hZ.out.arg HA.out) (by omega) (by omega) ca).mono ?_
      rintro e w' ⟨A', c', vs, rfl, o, b⟩
      replace hZ := Lib.hid (hZ.out.pushP o b)
      clear o b
      go_wp2_with fail
      refine (samePatches_same _ _ _ _ _ _ _ (hZ.out.prd 2 rfl) (hZ.out.prd 0 rfl) hlen2 hea2.out).mono ?_
      rintro e w' ⟨rfl, b⟩
      replace hZ := Lib.hid (hZ.out.below b)
      clear b
      by_cases hab : a.length = b.length
      case neg =>
        have p1 : ((a.length : Int) != (b.length : Int)) = true := by simp; omega
        go_wp2_with (go_at_call 17; refine (alive_any _).mono ?_; rintro e w' ⟨rfl, rfl⟩)
        go_ret
        exact ⟨rfl, HBW.out.trans (hZ.out.bel.mono hw1)⟩
      have p1 : ((a.length : Int) != (b.length : Int)) = false := by simp; omega
      by_cases hemp : diffR b a = []
      · have p2 : (((diffR b a).length : Int) == 0) = true := by rw [hemp]; rfl
        replace hemp := Lib.hid hemp
        replace hab := Lib.hid hab
        go_wp2_with (go_at_call 17; refine (alive_any _).mono ?_; rintro e w' ⟨rfl, rfl⟩)
        go_ret
        exact ⟨rfl, HBW.out.trans (hZ.out.bel.mono hw1)⟩
      · have p2 : (((diffR b a).length : Int) == 0) = false := by simp; exact hemp
        obtain ⟨sb, sa, -⟩ := diff_ne hemp
        have hpd := Lib.hid (pat_diff (a := o) (b := b) (by rw [HOR.out, stB_reverse]; exact sb) sb hoe.out)
        have hpb := Lib.hid (pat_diff sb sa hab.symm)
        replace hab := Lib.hid hab
        clear hemp
        go_wp2_with fail
        refine (patchState_some hpd.out _ _ _ _ _ _ _ (hZ.out.ints 3 rfl) (hZ.out.nil_ 3 rfl) (hZ.out.prd 1 rfl) (by omega) hlen3 hea3.out).mono ?_
        rintro e w' ⟨A', c', rfl, o, b⟩
        replace hZ := Lib.hid (hZ.out.pushI o b)
        clear o b
        go_wp2_with fail
        refine (patchState_some hpb.out _ _ _ _ _ _ _ (hZ.out.ints 0 rfl) (hZ.out.nil_ 0 rfl) (hZ.out.prd 3 rfl) (by omega) hlen2 hea2.out).mono ?_
        rintro e w' ⟨A', c', rfl, o, b⟩
        replace hZ := Lib.hid (hZ.out.pushI o b)
        clear o b
        go_wp2_with fail
        refine (sameInts_same _ _ _ _ _ a _ (hZ.out.ints 0 rfl) (hZ.out.arg HA.out) (by omega)).mono ?_
        rintro e w' ⟨rfl, b⟩
        replace hZ := Lib.hid (hZ.out.below b)
        clear b
        go_wp2_with fail
        go_ret
        exact ⟨rfl, HBW.out.trans (hZ.out.bel.mono hw1)⟩
    · obtain rfl : z = (j : Int) := by omega
      obtain ⟨b2, off, e2, hb2, x2⟩ := (HB.out.below hbw).spot (show j < b.length by omega)
      have hdr : (b.drop j).reverse = o ++ [b.getD j 0] := by
        rw [ho, List.drop_eq_getElem_cons (show j < b.length by omega), List.reverse_cons, List.getD_eq_getElem?_getD, List.getElem?_eq_getElem (show j < b.length by omega)]; rfl
      generalize b.getD j 0 = y at x2 hdr
      have q0 : (j : Int) ≥ 0 := by omega
      have q1 : (j : Int) < (b.length : Int) := by omega
      have HDR := Lib.hid hdr
      have HO := Lib.hid hown
      have HBX := Lib.hid hbw
      have E2 := Lib.hid e2
      have hsz := hbw.size
      have holb : o.length ≤ 600 := by omega
      clear hdr ho hown hbw e2 hbx hol
      rw [E2.out]
      go_wp2_with (at_builtin; refine push_own_g _ rfl _ _ rfl w1.heap.size o.length c' wr.heap.size 1 A' o y rfl rfl (HO.out.alloc _) (by exact cell_new wr _ _ 0) (by omega) (by simp; omega) ?_; intro A3 c3 w3 hown3 hg3; have HB3 := Lib.hid ((HBX.out.alloc hsz _).grown hg3 (Nat.le_trans hsz (size_alloc_le _ _)) (fun k hk => (HO.out.lt k hk).1)); replace hown3 := Lib.hid hown3; clear hg3)
      go_roundw
      case rel => exact ⟨j, (j : Int) - 1, A3, c3, o ++ [y], by omega, by simp, by go_num, by omega, HDR.out.symm, by rw [List.length_append]; exact hown3.out, HB3.out⟩
      case measure => first | (simp [intOf]; done) | (simp [intOf]; omega)
end Go.Proofs.Ytlbalepcjamhcaa
