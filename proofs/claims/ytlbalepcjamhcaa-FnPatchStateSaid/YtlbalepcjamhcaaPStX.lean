/-
  toPatchS makes patches of the call's own; the law that the program's PatchState returns what the reference's returns: its walk. No condition.
-/
import Derived.Test.YtlbalepcjamhcaaPSt
import Derived.Test.YtlbalepcjamhcaaDifX
import Derived.Test.YtlbalepcjamhcaaOpP
namespace Go.Proofs.Ytlbalepcjamhcaa
open Go.RowKit
set_option linter.unusedVariables false
set_option linter.unusedSimpArgs false
attribute [local go_sem ↓] Go.wp_at_zero Go.wp_at_succ
set_option maxHeartbeats 2000000 in
theorem toPatchS_own (A : Option Addr) (n c : Nat) (ts : List TP) (w : World) (h : PRd w A n ts) (hn : n ≤ 1000000000) (hd : ∀ k, k < n → (ts.getD k (0, [])).2.length ≤ 1000000000) :
    Calls Try.prog 13 #[.slice A n c] w (GivesP w ts) := by
  have hl := h.1
  have H := Lib.hid h
  have HD := Lib.hid hd
  clear h hd
  go_enter Try.func13, Try.ntmps13
  go_wp2_with (at_make; refine make_patch _ rfl _ _ rfl n rfl rfl hn w.heap.size (Nat.le_refl _) ?_; intro w1 ho1 hb1; replace ho1 := Lib.hid ho1)
  go_loopw [4] (fun i wr => ∃ (k : Nat) (vs : List Value), k ≤ n ∧ i = .int .i64 k ∧ vs.length = k ∧ wr.ownsRow w.heap.size 45 2 (.slice (some ⟨w.heap.size, 0, none⟩) n n) n (pv (ts.take k ++ List.replicate (n - k) (0, [])) (vs ++ List.replicate (n - k) nilV)) ∧ (∀ i, i < k → wr.ownsRow (w.heap.size + 1) 3 1 (vs.getD i nilV) (ts.getD i (0, [])).2.length (iv (ts.getD i (0, [])).2) ∧ ∀ g, (vs.getD i nilV).ownBlock = some g → g < wr.heap.size) ∧ (∀ i j, i < j → j < k → ∀ g g', (vs.getD i nilV).ownBlock = some g → (vs.getD j nilV).ownBlock = some g' → g < g') ∧ Below w.heap.size w wr) (fun i _ => n - (intOf i).toNat)
  case atStart => exact ⟨0, [], Nat.zero_le _, rfl, rfl, by simpa using ho1.out, (fun i hi => by omega), (fun i j _ hj => by omega), hb1⟩
  case round =>
    obtain ⟨k, vs, hk, rfl, hvl, hown, hsl, hinc, hb⟩ := hrel
    by_cases hlt : k < n
    · obtain ⟨b, off, A', c', e1, hbb, c0, c1, hc1, hc2, hi⟩ := (H.out.below hb).spot hlt
      have hd := HD.out k hlt
      have hlen1 : (ts.take k).length = k := by rw [List.length_take]; omega
      have hgs := grow_set (ts.take k) (n - (k + 1)) ((0, []) : TP) (ts.getD k (0, []))
      rw [hlen1, take_getD (0, []) (show k < ts.length by omega), show n - (k + 1) + 1 = n - k by omega] at hgs
      obtain ⟨t, ht⟩ : ∃ t, t = ts.getD k (0, []) := ⟨_, rfl⟩
      rw [← ht] at c0 c1 hc1 hi hd hgs
      obtain ⟨x, xs⟩ := t
      simp only at c0 c1 hc1 hi hd
      have HT := Lib.hid ht
      have HGS := Lib.hid hgs
      have HO := Lib.hid hown
      have HB := Lib.hid hb
      have HSL := Lib.hid hsl
      have HINC := Lib.hid hinc
      have HI := Lib.hid hi
      have hsz := hb.size
      have hgl := (World.ownsRow.lt hown w.heap.size rfl).2
      have q1 : (k : Int) < (n : Int) := by omega
      have q0 : (0 : Int) ≤ (k : Int) := by omega
      have e2 := Lib.hid e1
      clear ht hgs hown hb hsl hinc hi e1 hb1 ho1
      rw [e2.out]
      go_wp2_with fail
      refine (toPatch_any x A' c' xs _ HI.out hd).mono ?_
      rintro e w5 ⟨A5, c5, rfl, o5, b5⟩
      replace HO := Lib.hid (own_below HO.out b5)
      have hpl : (pv (ts.take k ++ List.replicate (n - k) ((0, []) : TP)) (vs ++ List.replicate (n - k) nilV)).length = n * 2 := HO.out.1
      have z0 : ∃ v, w5.cell? ⟨w.heap.size, k * 2, none⟩ = some v := ⟨_, (HO.out.cellAt (k * 2) (by omega)).trans (List.getElem?_eq_getElem (by omega))⟩
      have z1 : ∃ v, w5.cell? ⟨w.heap.size, k * 2 + 1, none⟩ = some v := ⟨_, (HO.out.cellAt (k * 2 + 1) (by omega)).trans (List.getElem?_eq_getElem (by omega))⟩
      obtain ⟨v0, z0⟩ := z0
      obtain ⟨v1, z1⟩ := z1
      have f0 : w5.frozen? ⟨w.heap.size, k * 2, none⟩ = false := HO.out.frozenAt _
      have f1 : w5.frozen? ⟨w.heap.size, k * 2 + 1, none⟩ = false := HO.out.frozenAt _
      have O5 := Lib.hid o5
      have B5 := Lib.hid b5
      clear o5 b5 hpl
      go_wp2_with fail
      go_roundw
      case rel =>
        obtain ⟨s0, g0⟩ := HO.out.stored (k * 2) (.int .i64 x)
        obtain ⟨s1, g1⟩ := s0.stored (k * 2 + 1) (.slice A5 xs.length c5)
        have gg := g0.trans g1
        have hv1 : vs.length = k := hvl
        rw [pv_set _ _ k x xs (.slice A5 xs.length c5) (by simp; omega) (by simp; omega), HGS.out] at s1
        have hgv := grow_set vs (n - (k + 1)) nilV (.slice A5 xs.length c5)
        rw [hv1, show n - (k + 1) + 1 = n - k by omega] at hgv
        rw [hgv] at s1
        have hB2 := below_step HB.out B5.out HB.out.size
        have hz := B5.out.size
        have hat : ∀ i, i < k → (vs ++ [Value.slice A5 xs.length c5]).getD i nilV = vs.getD i nilV := fun i hi => by simp [List.getD_eq_getElem?_getD, List.getElem?_append_left (show i < vs.length by omega)]
        have hatk : (vs ++ [Value.slice A5 xs.length c5]).getD k nilV = .slice A5 xs.length c5 := by rw [← hv1]; simp [List.getD_eq_getElem?_getD]
        refine ⟨k + 1, vs ++ [.slice A5 xs.length c5], by omega, by go_num, by simp; omega, s1, fun i hi => ?_, fun i j hij hj g g' e1 e2 => ?_, hB2.grown gg hB2.size (by intro q hq; injection hq with hq; omega)⟩
        · by_cases hik : i < k
          · rw [hat i hik]
            obtain ⟨h1, h2⟩ := HSL.out i hik
            exact ⟨(own_below h1 B5.out).kept gg (by rcases hu : (vs.getD i nilV).ownBlock with _ | q; exact .inl rfl; exact .inr fun e => by injection e with e; have := (h1.lt q hu).1; omega), fun g hg => Nat.lt_of_lt_of_le (h2 g hg) (Nat.le_trans hz gg.size)⟩
          · obtain rfl : i = k := by omega
            rw [hatk, ← HT.out]
            exact ⟨(own_base O5.out (by omega)).kept gg (by rcases hu : (Value.slice A5 xs.length c5).ownBlock with _ | q; exact .inl rfl; exact .inr fun e => by injection e with e; have := (O5.out.lt q hu).1; omega), fun g hg => Nat.lt_of_lt_of_le (O5.out.lt g hg).2 gg.size⟩
        · rw [hat i (by omega)] at e1
          by_cases hjk : j < k
          · rw [hat j hjk] at e2
            exact HINC.out i j hij hjk g g' e1 e2
          · obtain rfl : j = k := by omega
            rw [hatk] at e2
            have := (HSL.out i (by omega)).2 g e1
            have := (O5.out.lt g' e2).1
            omega
      case measure => simp [intOf]; omega
    · obtain rfl : k = n := by omega
      go_wp2
      go_ret
      rw [Nat.sub_self, List.replicate_zero, List.append_nil, List.replicate_zero, List.append_nil, List.take_of_length_le (by omega)] at hown
      subst hl
      exact ⟨_, _, vs, rfl, ⟨hown, hvl, fun i hi => own_base (hsl i hi).1 (Nat.le_succ _), fun g hg => (hown.lt g hg).2, fun i hi g hg => (hsl i hi).2 g hg, hinc⟩, hb⟩
theorem patL_len : ∀ (ts : List TP) (n p : Nat) (out r : List Int), out.length = n → p ≤ n → patL n out p ts = some r → r.length = n
  | [], n, p, out, r, h, _, e => by simp only [patL] at e; injection e with e; rw [← e]; exact h
  | t :: ts, n, p, out, r, h, hp, e => by
    simp only [patL] at e
    split at e
    · rename_i hok
      simp only [patOk, Bool.and_eq_true, decide_eq_true_eq] at hok
      exact patL_len ts n _ _ r (by rw [over_len (by omega)]; exact h) (by omega) e
    · cases e
theorem patR_len (a : List Int) (ts : List TP) : ((patR a ts).getD []).length ≤ a.length := by
  unfold patR
  split
  · rcases h : patL a.length a 0 ts with _ | r
    · simp
    · simpa using Nat.le_of_eq (patL_len ts _ _ _ r rfl (Nat.zero_le _) h)
  · simp
set_option maxHeartbeats 2000000 in
theorem fnExactPatchState_walk (w : World) (A : Option Addr) (n c : Nat) (za : List Int) (h : IsRow .i64 w A n c za) (B : Option Addr) (m d : Nat) (ts : List TP) (h2 : PRd w B m ts) (hn : m ≤ 9223372036854775807) (hd : ∀ k, k < m → (ts.getD k (0, [])).2.length ≤ 9223372036854775807) :
    Calls Try.prog 6 #[.slice A n c, .slice B m d] w fun e w' => e = .returned (.bool true) ∧ Below w.heap.size w w' := by
  have hl := h.len.1
  have H := h.ints
  clear h
  generalize za.take n = a at H hl
  subst hl
  generalize hN : a.length = n at H
  by_cases hlong : 1048576 < n
  · go_enter Try.func6, Try.ntmps6
    go_wp2_with fail
    go_ret
    exact ⟨rfl, Below.refl _ _⟩
  subst hN
  have q0 : ¬ ((a.length : Int) > 1048576) := by omega
  have hl2 := h2.1
  have hs0 := szPatchS_any B m d ts 1048576 w h2 (by omega) (by omega) hn hd
  have HX := Lib.hid h2
  have HS := Lib.hid hs0
  clear h2 hs0 hd
  by_cases hlong : szR 1048576 ts < 0
  · go_enter Try.func6, Try.ntmps6
    go_wp2_with fail
    refine (HS.out).mono ?_
    rintro e w1 ⟨rfl, b1⟩
    go_wp2_with fail
    go_ret
    exact ⟨rfl, b1⟩
  obtain ⟨hb1, hb2⟩ := szR_ok hlong
  have hsz : pszA ts ≤ 100000000 := by unfold pszA; omega
  subst hl2
  have hm : ts.length ≤ 1000000000 := by omega
  have hea := Lib.hid (psz_each (ts := ts) (by omega))
  have bd := mkAt_bd (os := ts) (k0 := 1 + (a.length : Int)) ts.length (Nat.le_refl _) (by omega) (by omega) (by omega)
  have hn1 : ¬ (mkAt (1 + (a.length : Int)) ts ts.length < 0) := by omega
  have hrl := patR_len a ts
  have q1 : ((patR a ts).isSome != (patR a ts).isSome) = false := by simp
  generalize hR : patR a ts = r at hrl q1
  have HR := Lib.hid hR
  clear hR hb1 hb2
  have H := Lib.hid H
  have hZ := Lib.hid (Zones.start w)
  go_enter Try.func6, Try.ntmps6
  go_wp2_with fail
  refine (HS.out).mono ?_
  rintro e w1 ⟨rfl, b1⟩
  replace hZ := Lib.hid (hZ.out.below b1)
  clear b1
  go_wp2_with fail
  refine (toIntS_any _ _ _ a _ (hZ.out.arg H.out) (by omega)).mono ?_
  rintro e w' ⟨A', c', rfl, o, b⟩
  replace hZ := Lib.hid (hZ.out.pushI o b)
  clear o b
  go_wp2_with fail
  refine (toPatchS_own _ _ _ ts _ (HX.out.below hZ.out.bel) hm hea.out).mono ?_
  rintro e w' ⟨A', c', vs, rfl, o, b⟩
  replace hZ := Lib.hid (hZ.out.pushP o b)
  clear o b
  go_wp2_with fail
  refine (HR.out ▸ patchState_spec _ _ _ _ _ _ a ts _ (hZ.out.ints 1 rfl) (hZ.out.nil_ 1 rfl) (hZ.out.prd 0 rfl) (by omega) hm hea.out).mono ?_
  rintro e w' ⟨A', c', rfl, o, b⟩
  replace hZ := Lib.hid (hZ.out.pushI o b)
  clear o b
  go_wp2_with fail
  refine (toIntS_any _ _ _ a _ (hZ.out.arg H.out) (by omega)).mono ?_
  rintro e w' ⟨A', c', rfl, o, b⟩
  replace hZ := Lib.hid (hZ.out.pushI o b)
  clear o b
  go_wp2_with fail
  refine (toPatchS_own _ _ _ ts _ (HX.out.below hZ.out.bel) hm hea.out).mono ?_
  rintro e w' ⟨A', c', vs, rfl, o, b⟩
  replace hZ := Lib.hid (hZ.out.pushP o b)
  clear o b
  go_wp2_with fail
  refine (HR.out ▸ patchState_impl _ _ _ _ _ _ a ts _ (hZ.out.ints 1 rfl) (hZ.out.nil_ 1 rfl) (hZ.out.prd 0 rfl) (by omega) hm hea.out).mono ?_
  rintro e w' ⟨A', c', rfl, o, b⟩
  replace hZ := Lib.hid (hZ.out.pushI o b)
  clear o b
  go_wp2_with fail
  refine (eqIntS_same _ _ _ _ _ _ _ (hZ.out.ints 0 rfl) (hZ.out.ints 3 rfl) (by omega)).mono ?_
  rintro e w' ⟨rfl, b⟩
  replace hZ := Lib.hid (hZ.out.below b)
  clear b
  go_wp2_with fail
  refine (toIntS_any _ _ _ a _ (hZ.out.arg H.out) (by omega)).mono ?_
  rintro e w' ⟨A', c', rfl, o, b⟩
  replace hZ := Lib.hid (hZ.out.pushI o b)
  clear o b
  go_wp2_with fail
  refine (eqIntS_same _ _ _ _ _ _ _ (hZ.out.ints 3 rfl) (hZ.out.ints 0 rfl) (by omega)).mono ?_
  rintro e w' ⟨rfl, b⟩
  replace hZ := Lib.hid (hZ.out.below b)
  clear b
  go_wp2_with fail
  refine (toPatchS_own _ _ _ ts _ (HX.out.below hZ.out.bel) hm hea.out).mono ?_
  rintro e w' ⟨A', c', vs, rfl, o, b⟩
  replace hZ := Lib.hid (hZ.out.pushP o b)
  clear o b
  go_wp2_with fail
  refine (eqPatchS_same _ _ _ _ _ _ _ (hZ.out.prd 3 rfl) (hZ.out.prd 0 rfl) hm hea.out).mono ?_
  rintro e w' ⟨rfl, b⟩
  replace hZ := Lib.hid (hZ.out.below b)
  clear b
  go_wp2_with fail
  refine (markIntS_own _ _ _ _ _ 1 _ (hZ.out.own 4 rfl) (by omega) (by omega) (by omega)).mono ?_
  rintro e w' ⟨rfl, o, g⟩
  replace hZ := Lib.hid (hZ.out.markI 4 rfl o g)
  clear o g
  go_wp2_with fail
  refine (markPatchS_own _ _ _ _ _ _ (1 + (a.length : Int)) _ (hZ.out.pown 3 rfl) (by omega) (by omega) hsz).mono ?_
  rintro e w' ⟨rfl, o, g⟩
  replace hZ := Lib.hid (hZ.out.markP 3 rfl o g)
  clear o g
  go_wp2_with fail
  refine (eqIntS_same _ _ _ _ _ _ _ (hZ.out.ints 2 rfl) (hZ.out.ints 5 rfl) (by omega)).mono ?_
  rintro e w' ⟨rfl, b⟩
  replace hZ := Lib.hid (hZ.out.below b)
  clear b
  go_wp2_with fail
  refine (markIntS_own _ _ _ _ _ 1 _ (hZ.out.own 2 rfl) (by omega) (by omega) (by omega)).mono ?_
  rintro e w' ⟨rfl, o, g⟩
  replace hZ := Lib.hid (hZ.out.markI 2 rfl o g)
  clear o g
  go_wp2_with fail
  refine (heldIntS_marks _ _ _ 1 _ (hZ.out.ints 2 rfl) (by omega) (by omega) (by omega)).mono ?_
  rintro e w' ⟨rfl, b⟩
  replace hZ := Lib.hid (hZ.out.below b)
  clear b
  go_wp2_with fail
  refine (toIntS_any _ _ _ a _ (hZ.out.arg H.out) (by omega)).mono ?_
  rintro e w' ⟨A', c', rfl, o, b⟩
  replace hZ := Lib.hid (hZ.out.pushI o b)
  clear o b
  go_wp2_with fail
  refine (toPatchS_own _ _ _ ts _ (HX.out.below hZ.out.bel) hm hea.out).mono ?_
  rintro e w' ⟨A', c', vs, rfl, o, b⟩
  replace hZ := Lib.hid (hZ.out.pushP o b)
  clear o b
  go_wp2_with fail
  refine (HR.out ▸ patchState_impl _ _ _ _ _ _ a ts _ (hZ.out.ints 1 rfl) (hZ.out.nil_ 1 rfl) (hZ.out.prd 0 rfl) (by omega) hm hea.out).mono ?_
  rintro e w' ⟨A', c', rfl, o, b⟩
  replace hZ := Lib.hid (hZ.out.pushI o b)
  clear o b
  go_wp2_with fail
  refine (eqIntS_same _ _ _ _ _ _ _ (hZ.out.ints 0 rfl) (hZ.out.ints 8 rfl) (by omega)).mono ?_
  rintro e w' ⟨rfl, b⟩
  replace hZ := Lib.hid (hZ.out.below b)
  clear b
  go_wp2_with fail
  refine (heldIntS_marks _ _ _ 1 _ (hZ.out.ints 5 rfl) (by omega) (by omega) (by omega)).mono ?_
  rintro e w' ⟨rfl, b⟩
  replace hZ := Lib.hid (hZ.out.below b)
  clear b
  go_wp2_with fail
  go_ret
  exact ⟨rfl, hZ.out.bel⟩
end Go.Proofs.Ytlbalepcjamhcaa
