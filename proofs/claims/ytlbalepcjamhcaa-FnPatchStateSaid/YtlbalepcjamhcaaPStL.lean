/-
  The law that patches change few places: its walk. No condition.
-/
import Derived.Test.YtlbalepcjamhcaaDrwT
import Derived.Test.YtlbalepcjamhcaaPSzX
import Derived.Test.YtlbalepcjamhcaaPStX
namespace Go.Proofs.Ytlbalepcjamhcaa
open Go.RowKit
set_option linter.unusedVariables false
set_option linter.unusedSimpArgs false
attribute [local go_sem ↓] Go.wp_at_zero Go.wp_at_succ
/-- At how many of the first n places two lists differ. -/
def dcnt (x a : List Int) (n : Nat) : Nat := (List.range n).countP fun i => x.getD i 0 != a.getD i 0
theorem dcnt_succ (x a : List Int) (n : Nat) : dcnt x a (n + 1) = dcnt x a n + if (x.getD n 0 != a.getD n 0) = true then 1 else 0 := by
  unfold dcnt
  rw [List.range_succ, List.countP_append]
  simp [List.countP_cons]
theorem dcnt_le (x a : List Int) (n : Nat) : dcnt x a n ≤ n := by
  have := List.countP_le_length (p := fun i => x.getD i 0 != a.getD i 0) (l := List.range n)
  simpa [dcnt] using this
theorem over_at {xs ds : List Int} {p i : Nat} (h : p + ds.length ≤ xs.length) (hi : ¬ (p ≤ i ∧ i < p + ds.length)) : (over xs p ds).getD i 0 = xs.getD i 0 := by
  unfold over
  simp only [List.getD_eq_getElem?_getD]
  by_cases h1 : i < p
  · rw [List.getElem?_append_left (by rw [List.length_take]; omega), List.getElem?_take, if_pos h1]
  · rw [List.getElem?_append_right (by rw [List.length_take]; omega), List.getElem?_append_right (by rw [List.length_take]; omega), List.getElem?_drop, List.length_take, Nat.min_eq_left (by omega), show p + ds.length + (i - p - ds.length) = i by omega]
theorem dcnt_over (xs ds a : List Int) (p : Nat) (h : p + ds.length ≤ xs.length) : ∀ n, dcnt (over xs p ds) a n ≤ dcnt xs a n + min (n - p) ds.length
  | 0 => by simp [dcnt]
  | n + 1 => by
    have ih := dcnt_over xs ds a p h n
    rw [dcnt_succ, dcnt_succ]
    by_cases hi : p ≤ n ∧ n < p + ds.length
    · have : (if ((over xs p ds).getD n 0 != a.getD n 0) = true then 1 else 0) ≤ 1 := by split <;> omega
      omega
    · rw [over_at h hi]
      omega
theorem patL_cnt (a : List Int) : ∀ (ts : List TP) (n p : Nat) (out r : List Int), out.length = n → p ≤ n → patL n out p ts = some r → dcnt r a n ≤ dcnt out a n + sumL ts
  | [], n, p, out, r, h, _, e => by simp only [patL] at e; injection e with e; rw [← e]; omega
  | t :: ts, n, p, out, r, h, hp, e => by
    simp only [patL] at e
    split at e
    · rename_i hok
      simp only [patOk, Bool.and_eq_true, decide_eq_true_eq] at hok
      have h1 := patL_cnt a ts n _ _ r (by rw [over_len (by omega)]; exact h) (by omega) e
      have h2 := dcnt_over out t.2 a (p + t.1.toNat) (by omega) n
      have : sumL (t :: ts) = t.2.length + sumL ts := by simp [sumL]
      omega
    · cases e
theorem dcnt_self (a : List Int) (n : Nat) : dcnt a a n = 0 := by simp [dcnt]
theorem patR_some {a r : List Int} {ts : List TP} (h : patR a ts = some r) : stB a = true ∧ r.length = a.length ∧ dcnt r a a.length ≤ sumL ts := by
  unfold patR at h
  split at h
  · rename_i hs
    have h1 := patL_cnt a ts a.length 0 a r rfl (Nat.zero_le _) h
    rw [dcnt_self] at h1
    exact ⟨hs, patL_len ts _ _ _ r rfl (Nat.zero_le _) h, by omega⟩
  · cases h
theorem patchState_someS {a r : List Int} {ts : List TP} (hr : patR a ts = some r) (A B : Option Addr) (n c m d : Nat) (w : World) (ha : Ints w w.heap.size A n a) (hA : A = none → c = 0) (hp : PRd w B m ts) (hn : n ≤ 1000000000) (hm : m ≤ 1000000000) (hd : ∀ k, k < m → (ts.getD k (0, [])).2.length ≤ 1000000000) :
    Calls Try.prog 25 #[.slice A n c, .slice B m d] w fun e w' => ∃ A c, e = .returned (.tuple #[.slice A r.length c, .bool true]) ∧ w'.ownsRow w.heap.size 3 1 (.slice A r.length c) r.length (iv r) ∧ Below w.heap.size w w' := by
  refine (patchState_spec A B n c m d a ts w ha hA hp hn hm hd).mono ?_
  rintro e w' ⟨A, c, h⟩
  rw [hr] at h
  exact ⟨A, c, h⟩
set_option maxHeartbeats 4000000 in
theorem fnPatchState_walk (w : World) (A : Option Addr) (n c : Nat) (zs : List Int) (h : IsRow .u8 w A n c zs) :
    Calls Try.prog 10 #[.slice A n c] w fun e w' => e = .returned (.bool true) ∧ Below w.heap.size w w' := by
  by_cases hlong : 1048576 < n
  · go_enter Try.func10, Try.ntmps10
    go_wp2_with fail
    go_ret
    exact ⟨rfl, Below.refl _ _⟩
  have HI := Lib.hid h
  clear h
  go_enter Try.func10, Try.ntmps10
  go_wp2_with fail
  refine (drawPatchState_any A n c zs _ HI.out).mono ?_
  rintro e w1 ⟨A1, B1, c1, d1, a, ts, rfl, ⟨ia, na, ca, la⟩, ⟨hp, hz⟩, hb⟩
  have HA := Lib.hid ia
  have HP := Lib.hid hp
  have HBW := Lib.hid hb
  have hw1 := hb.size
  have hZ := Lib.hid (Zones.start w1)
  have hlen : ts.length ≤ 1000000000 := psz_len (m := 1000000000) (by omega)
  have hea := Lib.hid (psz_each (ts := ts) (by omega))
  clear ia hp hb
  rcases hr : patR a ts with _ | x
  · have hr := Lib.hid hr
    go_wp2_with fail
    refine (hr.out ▸ patchState_impl _ _ _ _ _ _ a ts _ (hZ.out.arg HA.out) na (HP.out.below hZ.out.bel) (by omega) hlen hea.out).mono ?_
    rintro e w' ⟨A', c', rfl, o, b⟩
    replace hZ := Lib.hid (hZ.out.pushI o b)
    clear o b
    go_wp2_with fail
    refine (hr.out ▸ patchState_spec _ _ _ _ _ _ a ts _ (hZ.out.arg HA.out) na (HP.out.below hZ.out.bel) (by omega) hlen hea.out).mono ?_
    rintro e w' ⟨A', c', rfl, o, b⟩
    replace hZ := Lib.hid (hZ.out.pushI o b)
    clear o b
    go_wp2_with fail
    refine (sameInts_same _ _ _ _ _ [] _ (hZ.out.ints 1 rfl) (hZ.out.ints 0 rfl) (by simp)).mono ?_
    rintro e w' ⟨rfl, b⟩
    replace hZ := Lib.hid (hZ.out.below b)
    clear b
    go_wp2_with (go_at_call 17; refine (alive_any _).mono ?_; rintro e w' ⟨rfl, rfl⟩)
    go_ret
    exact ⟨rfl, HBW.out.trans (hZ.out.bel.mono hw1)⟩
  obtain ⟨sa, hxl, hcnt⟩ := patR_some hr
  have hr := Lib.hid hr
  have hx5 : x.length ≤ 513 := by omega
  have HXL := Lib.hid hxl
  have HCN := Lib.hid hcnt
  clear hxl hcnt
  go_wp2_with fail
  refine (patchState_some hr.out _ _ _ _ _ _ _ (hZ.out.arg HA.out) na (HP.out.below hZ.out.bel) (by omega) hlen hea.out).mono ?_
  rintro e w' ⟨A', c', rfl, o, b⟩
  replace hZ := Lib.hid (hZ.out.pushI o b)
  clear o b
  go_wp2_with fail
  refine (patchState_someS hr.out _ _ _ _ _ _ _ (hZ.out.arg HA.out) na (HP.out.below hZ.out.bel) (by omega) hlen hea.out).mono ?_
  rintro e w' ⟨A', c', rfl, o, b⟩
  replace hZ := Lib.hid (hZ.out.pushI o b)
  clear o b
  go_wp2_with fail
  refine (sameInts_same _ _ _ _ _ x _ (hZ.out.ints 1 rfl) (hZ.out.ints 0 rfl) (by omega)).mono ?_
  rintro e w' ⟨rfl, b⟩
  replace hZ := Lib.hid (hZ.out.below b)
  clear b
  have HXX := Lib.hid (hZ.out.ints 1 rfl)
  have HAA := Lib.hid (hZ.out.arg HA.out)
  obtain ⟨W, hW⟩ : ∃ W, W = w' := ⟨_, rfl⟩
  subst hW
  go_wp2_with fail
  go_loopw [9, 10] (fun ch i wr => ∃ k : Nat, k ≤ a.length ∧ i = .int .i64 k ∧ ch = .int .i64 (dcnt x a k) ∧ ∃ q, wr = W.drewN q) (fun _ i _ => a.length - (intOf i).toNat)
  case atStart => exact ⟨0, Nat.zero_le _, rfl, rfl, 0, rfl⟩
  case round =>
    obtain ⟨k, hk, rfl, rfl, q, rfl⟩ := hrel
    by_cases hlt : k < a.length
    · have hxl := HXL.out
      obtain ⟨b, off, e1, _, h1⟩ := HXX.out.spot (show k < x.length by omega)
      obtain ⟨b2, off2, e2, _, h2⟩ := HAA.out.spot hlt
      have q0 : (0 : Int) ≤ (k : Int) := by omega
      have q1 : (k : Int) < (a.length : Int) := by omega
      have q2 : (k : Int) < (x.length : Int) := by omega
      have hds := Lib.hid (dcnt_succ x a k)
      have hdl := dcnt_le x a k
      generalize x.getD k 0 = y at h1 hds
      generalize a.getD k 0 = z at h2 hds
      have E1 := Lib.hid e1
      have E2 := Lib.hid e2
      clear e1 e2 hxl
      rw [E1.out, E2.out]
      cases hyz : (y != z)
      · have hds2 := Lib.hid (show dcnt x a (k + 1) = dcnt x a k by rw [hds.out, hyz]; simp)
        clear hds
        go_wp2_with fail
        go_quiet (fail)
        go_wp2_with fail
        go_roundw
        case rel => exact ⟨k + 1, by omega, by go_num, by rw [hds2.out], _, by first | rfl | simp⟩
        case measure => simp [intOf]; omega
      · have hds2 := Lib.hid (show dcnt x a (k + 1) = dcnt x a k + 1 by rw [hds.out, hyz]; simp)
        have hw4 : IntKind.i64.wrap ((dcnt x a k : Int) + 1) = (dcnt x a k : Int) + 1 := IntWalk.i64_in _ (by omega)
        clear hds
        go_wp2_with fail
        go_quiet (fail)
        go_wp2_with fail
        go_roundw
        case rel => exact ⟨k + 1, by omega, by go_num, by rw [hds2.out]; go_num, _, by first | rfl | simp⟩
        case measure => simp [intOf]; omega
    · obtain rfl : k = a.length := by omega
      have hdl := dcnt_le x a a.length
      replace hZ := Lib.hid (hZ.out.below (below_drewN (Below.refl _ _) q))
      have p1 : ((x.length : Int) == (a.length : Int)) = true := by rw [HXL.out]; simp
      have p4 : (dcnt x a a.length : Int) ≤ pszA ts - 2 * (ts.length : Int) := by have := HCN.out; unfold pszA; omega
      generalize dcnt x a a.length = D at hdl p4
      have hpsz := Lib.hid (fun w (hw : PRd w B1 ts.length ts) => patchSize_impl B1 ts.length d1 ts w hw (by omega))
      have hp0 : 0 ≤ pszA ts := by omega
      generalize pszA ts = P at hpsz p4 hz hp0
      have r1 := IntWalk.i64_in (2 * (ts.length : Int)) (by omega)
      have r2 := IntWalk.i64_in (P - 2 * (ts.length : Int)) (by omega)
      clear HXX HAA HCN
      go_wp2_with fail
      refine (patchState_some (pat_nil sa) _ none _ _ 0 0 _ (hZ.out.arg HA.out) na (prd_nil _) (by omega) (by omega) (fun k hk => by omega)).mono ?_
      rintro e w' ⟨A', c', rfl, o, b⟩
      replace hZ := Lib.hid (hZ.out.pushI o b)
      clear o b
      go_wp2_with fail
      refine (sameInts_same _ _ _ _ _ a _ (hZ.out.ints 0 rfl) (hZ.out.arg HA.out) (by omega)).mono ?_
      rintro e w' ⟨rfl, b⟩
      replace hZ := Lib.hid (hZ.out.below b)
      clear b
      go_wp2_with fail
      refine (hpsz.out _ (HP.out.below hZ.out.bel)).mono ?_
      rintro e w' ⟨rfl, b⟩
      replace hZ := Lib.hid (hZ.out.below b)
      clear b
      go_wp2_with fail
      refine ((diff_self x) ▸ diffStates_impl _ _ _ _ _ _ x x _ (hZ.out.ints 2 rfl) (hZ.out.ints 2 rfl) (by omega) (by omega) (hZ.out.cap 2 rfl)).mono ?_
      rintro e w' ⟨A', c', vs, rfl, o, b⟩
      replace hZ := Lib.hid (hZ.out.pushP o b)
      clear o b
      go_wp2_with fail
      refine (samePatches_same _ none 0 _ 0 [] _ (hZ.out.prd 0 rfl) (prd_nil _) (by omega) (fun k hk => by omega)).mono ?_
      rintro e w' ⟨rfl, b⟩
      replace hZ := Lib.hid (hZ.out.below b)
      clear b
      go_wp2_with fail
      go_ret
      exact ⟨rfl, HBW.out.trans (hZ.out.bel.mono hw1)⟩
end Go.Proofs.Ytlbalepcjamhcaa
