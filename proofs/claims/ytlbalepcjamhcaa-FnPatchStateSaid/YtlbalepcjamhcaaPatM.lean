/-
  Patches of the call's own, marked and checked: markPatchS, heldPatchS. No condition but that lengths stay in range.
-/
import Derived.Test.YtlbalepcjamhcaaDif
import Derived.Test.YtlbalepcjamhcaaZone
namespace Go.Proofs.Ytlbalepcjamhcaa
open Go.RowKit
set_option linter.unusedVariables false
set_option linter.unusedSimpArgs false
attribute [local go_sem ↓] Go.wp_at_zero Go.wp_at_succ
theorem local_POwn (lo hi : Nat) (A : Option Addr) (c : Nat) (os : List TP) (vs : List Value) : Local lo hi fun w => POwn w lo hi A c os vs :=
  fun w w' p hs hk => ⟨own_same p.outer fun g hg => hk g (p.outer.lt g hg).1 (p.olt g hg), p.vlen, fun i hi' => own_same (p.inner i hi') fun g hg => hk g ((p.inner i hi').lt g hg).1 (p.ilt i hi' g hg), p.olt, p.ilt, p.inc⟩
theorem pv_set1 : ∀ (ts : List TP) (vs : List Value) (k : Nat) (x : Int), vs.length = ts.length → k < ts.length → (pv ts vs).set (k * 2) (.int .i64 x) = pv (ts.set k (x, (ts.getD k (0, [])).2)) vs
  | [], _, k, _, _, hk => by simp at hk
  | t :: ts, [], k, _, h, _ => by simp at h
  | t :: ts, u :: vs, 0, x, _, _ => by simp [pv]
  | t :: ts, u :: vs, k + 1, x, h, hk => by
    have ih := pv_set1 ts vs k x (by simpa using h) (by simpa using hk)
    rw [show (k + 1) * 2 = k * 2 + 1 + 1 by omega]
    simp only [pv, List.set_cons_succ, List.getD_cons_succ]
    rw [ih]
theorem pv_data : ∀ (ts : List TP) (vs : List Value) (k : Nat) (ys : List Int), pv (ts.set k ((ts.getD k (0, [])).1, ys)) vs = pv ts vs
  | [], _, k, _ => by simp [pv]
  | t :: ts, [], k, _ => by cases k <;> simp [pv]
  | t :: ts, u :: vs, 0, ys => by simp [pv]
  | t :: ts, u :: vs, k + 1, ys => by
    simp only [List.set_cons_succ, pv, List.getD_cons_succ]
    rw [pv_data ts vs k ys]
theorem getD_set {α : Type _} (xs : List α) (k i : Nat) (y d : α) (hk : k < xs.length) : (xs.set k y).getD i d = if i = k then y else xs.getD i d := by
  simp only [List.getD_eq_getElem?_getD, List.getElem?_set]
  by_cases h : k = i
  · subst h; simp [hk]
  · simp [h, show ¬ i = k by omega]
section
variable {w w' : World} {lo hi c k : Nat} {A : Option Addr} {os : List TP} {vs : List Value}
theorem POwn.setSkip (h : POwn w lo hi A c os vs) (hk : k < os.length) (x : Int)
    (hout : w'.ownsRow lo 45 2 (.slice A os.length c) os.length ((pv os vs).set (k * 2) (.int .i64 x))) (hg : w.grownBy w' (Value.slice A os.length c).ownBlock) :
    POwn w' lo hi A c (os.set k (x, (os.getD k (0, [])).2)) vs := by
  have hl : (os.set k (x, (os.getD k (0, [])).2)).length = os.length := by simp
  rw [pv_set1 os vs k x h.vlen hk] at hout
  refine ⟨by rw [hl]; exact hout, by rw [hl]; exact h.vlen, fun i hi' => ?_, by rw [hl]; exact h.olt, by rw [hl]; exact h.ilt, by rw [hl]; exact h.inc⟩
  rw [hl] at hi'
  have e : ((os.set k (x, (os.getD k (0, [])).2)).getD i (0, [])).2 = (os.getD i (0, [])).2 := by
    rw [getD_set _ _ _ _ _ hk]; split
    · rename_i e; rw [e]
    · rfl
  rw [e]
  refine (h.inner i hi').kept hg ?_
  rcases hu : (vs.getD i nilV).ownBlock with _ | q
  · exact .inl rfl
  · exact .inr fun e => own_sep (h.inner i hi') h.outer (by decide) hu e.symm
theorem POwn.setData (h : POwn w lo hi A c os vs) (hk : k < os.length) (ys : List Int) (hy : ys.length = (os.getD k (0, [])).2.length)
    (hin : w'.ownsRow lo 3 1 (vs.getD k nilV) ys.length (iv ys)) (hg : w.grownBy w' (vs.getD k nilV).ownBlock) :
    POwn w' lo hi A c (os.set k ((os.getD k (0, [])).1, ys)) vs := by
  have hl : (os.set k ((os.getD k (0, [])).1, ys)).length = os.length := by simp
  refine ⟨?_, by rw [hl]; exact h.vlen, fun i hi' => ?_, by rw [hl]; exact h.olt, by rw [hl]; exact h.ilt, by rw [hl]; exact h.inc⟩
  · rw [hl, pv_data]
    refine h.outer.kept hg ?_
    rcases hu : (Value.slice A os.length c).ownBlock with _ | q
    · exact .inl rfl
    · exact .inr fun e => own_sep h.outer (h.inner k hk) (by decide) hu e.symm
  · rw [hl] at hi'
    rw [getD_set _ _ _ _ _ hk]
    by_cases e : i = k
    · rw [if_pos e, e]; exact hin
    · rw [if_neg e]
      refine (h.inner i hi').kept hg ?_
      rcases hu : (vs.getD i nilV).ownBlock with _ | q
      · exact .inl rfl
      · refine .inr fun e2 => ?_
        rcases Nat.lt_or_gt_of_ne e with hlt | hlt
        · exact absurd (h.inc i k hlt hk q q hu e2.symm) (by omega)
        · exact absurd (h.inc k i hlt hi' q q e2.symm hu) (by omega)
end
/-- The mark of patch i. -/
def mkAt (k0 : Int) (os : List TP) (i : Nat) : Int := k0 + i + sumL (os.take i)
def mkP (k0 : Int) (os : List TP) (i : Nat) : TP := (mkAt k0 os i, marks (mkAt k0 os i + 1) (os.getD i (0, [])).2.length)
def mkL (k0 : Int) (k : Nat) (os : List TP) : List TP := (List.range k).map (mkP k0 os) ++ os.drop k
section
variable {os : List TP} {k0 : Int} {k : Nat}
theorem mkL_len (hk : k ≤ os.length) : (mkL k0 k os).length = os.length := by simp [mkL]; omega
theorem mkL_at (hk : k < os.length) : (mkL k0 k os).getD k (0, []) = os.getD k (0, []) := by
  simp only [mkL, List.getD_eq_getElem?_getD]
  rw [List.getElem?_append_right (by simp)]
  simp
theorem mkL_succ (hk : k < os.length) : (mkL k0 k os).set k (mkP k0 os k) = mkL k0 (k + 1) os := by
  simp only [mkL]
  rw [List.set_append_right _ _ (by simp)]
  simp only [List.length_map, List.length_range, Nat.sub_self]
  rw [List.drop_eq_getElem_cons hk, List.set_cons_zero, List.range_succ, List.map_append, List.append_assoc]
  rfl
theorem mkL_all : mkL k0 os.length os = (List.range os.length).map (mkP k0 os) := by simp [mkL]
theorem mkL_get {i : Nat} (hi : i < os.length) : ((List.range os.length).map (mkP k0 os)).getD i (0, []) = mkP k0 os i := by
  simp [List.getD_eq_getElem?_getD, List.getElem?_map, List.getElem?_range hi]
theorem mkAt_succ (hk : k < os.length) : mkAt k0 os (k + 1) = mkAt k0 os k + 1 + ((os.getD k (0, [])).2.length : Int) := by
  unfold mkAt
  rw [sumL_take hk]
  omega
theorem mkAt_bd (k : Nat) (hk : k ≤ os.length) (h : pszA os ≤ 100000000) (h0 : 0 ≤ k0) (h1 : k0 ≤ 100000000) : 0 ≤ mkAt k0 os k ∧ mkAt k0 os k ≤ 300000000 := by
  have := sumL_le os k
  unfold mkAt pszA at *
  omega
end
set_option maxHeartbeats 2000000 in
theorem markPatchS_own (lo hi : Nat) (A : Option Addr) (c : Nat) (os : List TP) (vs : List Value) (k0 : Int) (w : World) (h : POwn w lo hi A c os vs) (h0 : 0 ≤ k0) (h1 : k0 ≤ 100000000) (hn : pszA os ≤ 100000000) :
    Calls Try.prog 23 #[.slice A os.length c, .int .i64 k0] w fun e w' => e = .returned (.int .i64 (mkAt k0 os os.length)) ∧ POwn w' lo hi A c ((List.range os.length).map (mkP k0 os)) vs ∧ Touch lo hi w w' := by
  have hlen : os.length ≤ 100000000 := by unfold pszA at hn; omega
  go_enter Try.func23, Try.ntmps23
  go_wp2
  go_loopw [1, 5] (fun m i wr => ∃ k : Nat, k ≤ os.length ∧ i = .int .i64 k ∧ m = .int .i64 (mkAt k0 os k) ∧ POwn wr lo hi A c (mkL k0 k os) vs ∧ Touch lo hi w wr) (fun _ i _ => os.length - (intOf i).toNat)
  case atStart => exact ⟨0, Nat.zero_le _, rfl, by simp [mkAt, sumL], by simpa [mkL] using h, Touch.refl _ _ _⟩
  case round =>
    obtain ⟨k, hk, rfl, rfl, hown, hg⟩ := hrel
    by_cases hlt : k < os.length
    · have hl := mkL_len (os := os) (k0 := k0) (k := k) hk
      have hkl : k < (mkL k0 k os).length := by omega
      have ho := hown.outer
      rw [hl] at ho
      obtain ⟨g, cap, e1, hg1_1, hgl⟩ := ho.form (by omega)
      injection e1 with e1 _ e3
      subst e1 e3
      obtain ⟨z0, z1⟩ := pv_get (mkL k0 k os) vs k hown.vlen hkl
      have hc0 := ho.cellAt (k * 2) (by omega)
      have hc1 := ho.cellAt (k * 2 + 1) (by omega)
      rw [z0] at hc0
      rw [z1] at hc1
      have hf0 := ho.frozenAt (k * 2)
      have q0 : (0 : Int) ≤ (k : Int) := by omega
      have q1 : (k : Int) < (os.length : Int) := by omega
      have hin := hown.inner k hkl
      obtain ⟨A2, c2, ev⟩ := own_form hin
      rw [ev] at hc1
      have hst := ho.stored (k * 2) (.int .i64 (mkAt k0 os k))
      have hsu := mkAt_succ (k0 := k0) hlt
      have hsc := mkL_succ (k0 := k0) hlt
      have bd := mkAt_bd (k0 := k0) k hk hn h0 h1
      have hat := mkL_at (k0 := k0) hlt
      have bl := sumL_get hlt
      have hbl : (os.getD k (0, [])).2.length ≤ 100000000 := by unfold pszA at hn; omega
      have hmk : mkP k0 os k = (mkAt k0 os k, marks (mkAt k0 os k + 1) (os.getD k (0, [])).2.length) := rfl
      have hp1 := hown.setSkip hkl (mkAt k0 os k) (by rw [hl]; exact hst.1) (by rw [hl]; exact hst.2)
      have hg1 := hst.2
      rw [hat] at hin hc1 ev hp1
      have hi1 := hp1.inner k (by simp only [List.length_set]; exact hkl)
      rw [getD_set _ _ _ _ _ hkl, if_pos rfl] at hi1
      simp only [] at hi1
      generalize mkAt k0 os k = M at hst hsu bd hmk hp1 hi1 hg1
      generalize (os.getD k (0, [])).2 = xs at hin hc1 ev hsu bl hbl hmk hp1 hi1
      rw [ev] at hi1
      have hc2 : (wr.setCell ⟨g, k * 2, none⟩ (.int .i64 M)).cell? ⟨g, k * 2 + 1, none⟩ = some (.slice A2 xs.length c2) := (hst.1.cellAt (k * 2 + 1) (by omega)).trans (by rw [List.getElem?_set_ne (by omega), z1, ev])
      have HG := Lib.hid (hg.trans (Touch.of_grown hg1 (fun q hq => by injection hq with hq; subst hq; exact ⟨hg1_1, hown.olt g rfl⟩)))
      have HP := Lib.hid hp1
      have HI := Lib.hid hi1
      have HSU := Lib.hid hsu
      have HSC := Lib.hid hsc
      have HMK := Lib.hid hmk
      have HEV := Lib.hid ev
      clear hst hsu hsc hmk hp1 hi1 hown ho z0 z1 hin ev hg hg1 hat h bl
      go_wp2_with fail
      refine (markIntS_own lo A2 xs.length c2 xs (M + 1) _ HI.out (by omega) (by omega) (by omega)).mono ?_
      rintro e w5 ⟨rfl, o5, g5⟩
      have hp2 := HP.out.setData (k := k) (by rw [List.length_set]; exact hkl) (marks (M + 1) xs.length) (by rw [getD_set _ _ _ _ _ hkl, if_pos rfl, marks_len]) (by rw [HEV.out, marks_len]; exact o5) (by rw [HEV.out]; exact g5)
      rw [getD_set _ _ _ _ _ hkl, if_pos rfl, List.set_set] at hp2
      simp only [] at hp2
      rw [← HMK.out, HSC.out] at hp2
      have HP2 := Lib.hid hp2
      have HG2 := Lib.hid (HG.out.trans (Touch.of_grown g5 (fun q hq => ⟨(HI.out.lt q hq).1, HP.out.ilt k (by rw [List.length_set]; exact hkl) q (by rw [HEV.out]; exact hq)⟩)))
      clear hp2 g5 o5 hc0 hc1 hc2 hf0
      go_wp2_with fail
      go_roundw
      case rel => exact ⟨k + 1, by omega, by go_num, by rw [HSU.out], HP2.out, HG2.out⟩
      case measure => simp [intOf]; omega
    · obtain rfl : k = os.length := by omega
      go_wp2
      go_ret
      rw [mkL_all] at hown
      exact ⟨rfl, hown, hg⟩
set_option maxHeartbeats 2000000 in
theorem heldPatchS_marks (A : Option Addr) (n c : Nat) (os : List TP) (k0 : Int) (w : World) (hos : os.length = n) (h : PRd w A n ((List.range os.length).map (mkP k0 os))) (h0 : 0 ≤ k0) (h1 : k0 ≤ 100000000) (hn : pszA os ≤ 100000000) :
    Calls Try.prog 24 #[.slice A n c, .int .i64 k0] w fun e w' => e = .returned (.int .i64 (mkAt k0 os os.length)) ∧ Below w.heap.size w w' := by
  have hlen : n ≤ 100000000 := by unfold pszA at hn; omega
  have H := Lib.hid h
  clear h
  go_enter Try.func24, Try.ntmps24
  go_wp2
  go_loopw [1, 5] (fun m i wr => ∃ k : Nat, k ≤ n ∧ i = .int .i64 k ∧ m = .int .i64 (mkAt k0 os k) ∧ Below w.heap.size w wr) (fun _ i _ => n - (intOf i).toNat)
  case atStart => exact ⟨0, Nat.zero_le _, rfl, by simp [mkAt, sumL], Below.refl _ _⟩
  case round =>
    obtain ⟨k, hk, rfl, rfl, hb⟩ := hrel
    by_cases hlt : k < n
    · obtain ⟨b, off, A2, c2, e1, hb1, y0, y1, -, -, i1⟩ := (H.out.below hb).spot hlt
      have hko : k < os.length := by omega
      have hsu := mkAt_succ (k0 := k0) hko
      have bd := mkAt_bd (k0 := k0) k (by omega) hn h0 h1
      have bl := sumL_get hko
      have hbl : (os.getD k (0, [])).2.length ≤ 100000000 := by unfold pszA at hn; omega
      rw [mkL_get hko] at y0 y1 i1
      simp only [mkP, marks_len] at y0 y1 i1
      generalize mkAt k0 os k = M at hsu bd y0 y1 i1
      generalize (os.getD k (0, [])).2.length = m at hsu y0 y1 i1 bl hbl
      have q0 : (0 : Int) ≤ (k : Int) := by omega
      have q1 : (k : Int) < (n : Int) := by omega
      have hz := hb.size
      have HB := Lib.hid hb
      have HI := Lib.hid i1
      have HSU := Lib.hid hsu
      have hne : (M != M) = false := by simp
      have hnn : ¬ (M + 1 + (m : Int) < 0) := by omega
      have E1 := Lib.hid e1
      clear hb i1 hsu e1 bl
      rw [E1.out]
      go_wp2_with fail
      refine (heldIntS_marks A2 m c2 (M + 1) _ HI.out (by omega) (by omega) (by omega)).mono ?_
      rintro e w5 ⟨rfl, b5⟩
      have hb6 := Lib.hid (below_step HB.out b5 hz)
      clear b5
      go_wp2_with fail
      go_roundw
      case rel => exact ⟨k + 1, by omega, by go_num, by rw [HSU.out], hb6.out⟩
      case measure => simp [intOf]; omega
    · obtain rfl : k = n := by omega
      go_wp2
      go_ret
      subst hos
      exact ⟨rfl, hb⟩
end Go.Proofs.Ytlbalepcjamhcaa
