/-
  SpritesValid of both packages. No condition but that lengths stay in range.
-/
import Derived.Test.YtkcabllnlbcgdaaSpx
namespace Go.Proofs.Ytkcabllnlbcgdaa
open Go.RowKit
set_option linter.unusedVariables false
set_option linter.unusedSimpArgs false
set_option maxRecDepth 20000 in
set_option maxHeartbeats 2000000 in
theorem spritesValid_impl (A : Option Addr) (n c : Nat) (ss : List Spr) (T : Option Addr) (tn tc : Nat) (ts : List (List Int)) (w : World) (h : SpRd w w.heap.size A n ss) (ht : TiRd w w.heap.size T tn ts) (hn : n ≤ 100000000) (htn : tn ≤ 100000000) :
    Calls Try.prog 90 #[.slice A n c, .slice T tn tc] w fun e w' => e = .returned (.bool (spritesB ss ts)) ∧ Below w.heap.size w w' := by
  have hl := h.1
  have htl := ht.1
  subst htl
  have H := Lib.hid h
  have HT := Lib.hid ht
  clear h ht
  by_cases h12 : (n : Int) > 12
  · rw [show spritesB ss ts = false by unfold spritesB; rw [decide_eq_false (by omega), Bool.false_and]]
    go_enter Try.func90, Try.ntmps90
    go_wp2_with fail
    go_ret
    exact ⟨rfl, Below.refl _ _⟩
  cases htb : tilesB ts
  · rw [show spritesB ss ts = false by unfold spritesB; rw [htb, Bool.false_and, Bool.and_false]]
    go_enter Try.func90, Try.ntmps90
    go_wp2_with (go_at_call 84; refine (tilesValid_any T ts.length tc ts _ HT.out (by omega)).mono ?_; rintro e w5 ⟨rfl, b5⟩; rw [htb]; replace b5 := Lib.hid b5)
    go_ret
    exact ⟨rfl, b5.out⟩
  have hr : spritesB ss ts = ss.all (sprB ts.length) := by unfold spritesB; rw [decide_eq_true (by omega), htb, Bool.true_and, Bool.true_and]
  rw [hr]
  replace hr := Lib.hid hr
  go_enter Try.func90, Try.ntmps90
  go_wp2_with (go_at_call 84; refine (tilesValid_any T ts.length tc ts _ HT.out (by omega)).mono ?_; rintro e w5 ⟨rfl, b5⟩; rw [htb]; replace b5 := Lib.hid b5)
  go_loopw [17] (fun i wr => ∃ k : Nat, k ≤ n ∧ i = .int .i64 k ∧ (∀ i, i < k → sprB ts.length (ss.getD i Spr.z) = true) ∧ Below w.heap.size w wr) (fun i _ => n - (intOf i).toNat)
  case atStart => exact ⟨0, Nat.zero_le _, rfl, fun i hi => by omega, b5.out⟩
  case round =>
    obtain ⟨k, hk, rfl, hall, hb⟩ := hrel
    by_cases hlt : k < n
    · obtain ⟨b, off, e1, hb1, hc⟩ := (H.out.below hb).spot hlt
      obtain ⟨s, hs⟩ : ∃ s, ss.getD k Spr.z = s := ⟨_, rfl⟩
      rw [hs] at hc
      obtain ⟨X, Y, N, ac, dn, be⟩ := s
      obtain ⟨c0, c1, c2, c3, c4, c5⟩ := spc_of hc
      simp only [] at c0 c1 c2 c3 c4 c5
      have q0 : (0 : Int) ≤ (k : Int) := by omega
      have q1 : (k : Int) < (n : Int) := by omega
      have hz : w.heap.size ≤ wr.heap.size := hb.size
      have hne : b ≠ wr.heap.size := by omega
      have HBEL := Lib.hid hb
      have e1 := Lib.hid e1
      clear hc hb b5
      have e3 := e1.out
      subst e3
      cases b0 : inB X (-16) 64
      · have b1 := trivial
        have b2 := trivial
        have hbad := Lib.hid (spr_bad (ss := ss) (m := (ts.length : Int)) (k := k) (by omega) (by rw [hs]; simp [sprB, b0]))
        clear hall hs
        go_wp2_with (go_at_call 53; refine (within_any _ _ _ _).mono ?_; rintro e w' ⟨rfl, rfl⟩; (first | rw [b0] | rw [b1] | rw [b2]))
        go_ret
        rw [hbad.out]
        exact ⟨rfl, by first | exact HBEL.out | exact HBEL.out.alloc hz _⟩
      cases b1 : inB Y (-16) 64
      · have b2 := trivial
        have hbad := Lib.hid (spr_bad (ss := ss) (m := (ts.length : Int)) (k := k) (by omega) (by rw [hs]; simp [sprB, b0, b1]))
        clear hall hs
        go_wp2_with (go_at_call 53; refine (within_any _ _ _ _).mono ?_; rintro e w' ⟨rfl, rfl⟩; (first | rw [b0] | rw [b1] | rw [b2]))
        go_ret
        rw [hbad.out]
        exact ⟨rfl, by first | exact HBEL.out | exact HBEL.out.alloc hz _⟩
      cases b2 : inB N 0 ((ts.length : Int) - 1)
      · have hbad := Lib.hid (spr_bad (ss := ss) (m := (ts.length : Int)) (k := k) (by omega) (by rw [hs]; simp [sprB, b0, b1, b2]))
        clear hall hs
        go_wp2_with (go_at_call 53; refine (within_any _ _ _ _).mono ?_; rintro e w' ⟨rfl, rfl⟩; (first | rw [b0] | rw [b1] | rw [b2]))
        go_ret
        rw [hbad.out]
        exact ⟨rfl, by first | exact HBEL.out | exact HBEL.out.alloc hz _⟩
      have hall2 := Lib.hid (show ∀ i, i < k + 1 → sprB ts.length (ss.getD i Spr.z) = true from fun i hi => by rcases Nat.lt_or_ge i k with h | h; exact hall i h; obtain rfl : i = k := (by omega); rw [hs]; simp [sprB, b0, b1, b2])
      clear hall hs
      go_wp2_with (go_at_call 53; refine (within_any _ _ _ _).mono ?_; rintro e w' ⟨rfl, rfl⟩; (first | rw [b0] | rw [b1] | rw [b2]))
      go_roundw
      case rel => exact ⟨k + 1, by omega, by go_num, hall2.out, by first | exact HBEL.out | exact HBEL.out.alloc hz _⟩
      case measure => simp [intOf]; omega
    · obtain rfl : k = n := by omega
      have hg := Lib.hid (spr_of (ss := ss) (m := (ts.length : Int)) fun i hi => hall i (by omega))
      clear hall
      go_wp2_with fail
      go_ret
      rw [hg.out]
      exact ⟨rfl, hb⟩
set_option maxRecDepth 20000 in
set_option maxHeartbeats 2000000 in
theorem spritesValid_spec (A : Option Addr) (n c : Nat) (ss : List Spr) (T : Option Addr) (tn tc : Nat) (ts : List (List Int)) (w : World) (h : SpRd w w.heap.size A n ss) (ht : TiRd w w.heap.size T tn ts) (hn : n ≤ 100000000) (htn : tn ≤ 100000000) :
    Calls Try.prog 87 #[.slice A n c, .slice T tn tc] w fun e w' => e = .returned (.bool (spritesB ss ts)) ∧ Below w.heap.size w w' := by
  have hl := h.1
  have htl := ht.1
  subst htl
  have H := Lib.hid h
  have HT := Lib.hid ht
  clear h ht
  go_enter Try.func87, Try.ntmps87
  go_wp2_with fail
  go_loopw [5] (fun i wr => ∃ k : Nat, k ≤ ts.length ∧ i = .int .i64 k ∧ (∀ i, i < k → tileB (ts.getD i []) = true) ∧ Below w.heap.size w wr) (fun i _ => ts.length - (intOf i).toNat)
  case atStart => exact ⟨0, Nat.zero_le _, rfl, fun i hi => by omega, Below.refl _ _⟩
  case round =>
    obtain ⟨k, hk, rfl, hall, hb⟩ := hrel
    by_cases hlt : k < ts.length
    · obtain ⟨b, off, rfl, hb1, hc⟩ := (HT.out.below hb).spot hlt
      have hpl := HT.out.len hlt
      have q0 : (0 : Int) ≤ (k : Int) := by omega
      have q5 : (k : Int) < (ts.length : Int) := by omega
      cases htb : tileB (ts.getD k [])
      · have hbad := Lib.hid (tiles_bad hlt htb)
        clear hall
        generalize ts.getD k [] = px at hc hpl htb
        have HC := Lib.hid hc
        have HIN := Lib.hid (show (Try.prog.info? 83).map (·.size) = some (iv px).length by rw [iv_len, hpl]; exact tile_info)
        have HPL := Lib.hid hpl
        replace hb := Lib.hid hb
        clear hc hpl
        go_wp2_with (first | (refine wpList_load_mid rfl 83 _ rfl b (off + k * 64) rfl (iv px) _ HC.out Try.underlying83 rfl HIN.out ?_) | (go_at_call 50; refine (tileValid_spec px HPL.out _).mono ?_; rintro e w5 ⟨rfl, b5⟩; rw [htb]; have hb5 := Lib.hid (below_step hb.out b5 hb.out.size); clear b5))
        go_ret
        rw [show spritesB ss ts = false by unfold spritesB tilesB; rw [hbad.out, Bool.and_false, Bool.false_and, Bool.and_false]]
        exact ⟨rfl, hb5.out⟩
      · have hall2 := Lib.hid (show ∀ i, i < k + 1 → tileB (ts.getD i []) = true from fun i hi => by rcases Nat.lt_or_ge i k with h | h; exact hall i h; obtain rfl : i = k := (by omega); exact htb)
        clear hall
        generalize ts.getD k [] = px at hc hpl htb
        have HC := Lib.hid hc
        have HIN := Lib.hid (show (Try.prog.info? 83).map (·.size) = some (iv px).length by rw [iv_len, hpl]; exact tile_info)
        have HPL := Lib.hid hpl
        replace hb := Lib.hid hb
        clear hc hpl
        go_wp2_with (first | (refine wpList_load_mid rfl 83 _ rfl b (off + k * 64) rfl (iv px) _ HC.out Try.underlying83 rfl HIN.out ?_) | (go_at_call 50; refine (tileValid_spec px HPL.out _).mono ?_; rintro e w5 ⟨rfl, b5⟩; rw [htb]; have hb5 := Lib.hid (below_step hb.out b5 hb.out.size); clear b5))
        go_roundw
        case rel => exact ⟨k + 1, by omega, by go_num, hall2.out, hb5.out⟩
        case measure => simp [intOf]; omega
    · obtain rfl : k = ts.length := by omega
      have htg := Lib.hid (tiles_of (ts := ts) fun i hi => hall i (by omega))
      clear hall
      have HB := Lib.hid hb
      clear hb
      go_wp2_with fail
      go_loopw [6] (fun i wr2 => ∃ k : Nat, k ≤ n ∧ i = .int .i64 k ∧ (∀ i, i < k → sprB ts.length (ss.getD i Spr.z) = true) ∧ Below w.heap.size w wr2) (fun i _ => n - (intOf i).toNat)
      case atStart => exact ⟨0, Nat.zero_le _, rfl, fun i hi => by omega, HB.out⟩
      case round =>
        clear HB
        obtain ⟨k, hk, rfl, hall, hb⟩ := hrel
        by_cases hlt : k < n
        · obtain ⟨b, off, e1, hb1, hc⟩ := (H.out.below hb).spot hlt
          obtain ⟨s, hs⟩ : ∃ s, ss.getD k Spr.z = s := ⟨_, rfl⟩
          rw [hs] at hc
          obtain ⟨X, Y, N, ac, dn, be⟩ := s
          obtain ⟨c0, c1, c2, c3, c4, c5⟩ := spc_of hc
          simp only [] at c0 c1 c2 c3 c4 c5
          have q0 : (0 : Int) ≤ (k : Int) := by omega
          have q1 : (k : Int) < (n : Int) := by omega
          have HBEL := Lib.hid hb
          have e1 := Lib.hid e1
          clear hc hb
          have e3 := e1.out
          subst e3
          cases b0 : inB X (-16) 64
          · have b1 := trivial
            have b2 := trivial
            have hbad := Lib.hid (spr_bad (ss := ss) (m := (ts.length : Int)) (k := k) (by omega) (by rw [hs]; simp [sprB, b0]))
            clear hall hs
            go_wp2_with (go_at_call 49; refine (l1In_any _ _ _ _).mono ?_; rintro e w' ⟨rfl, rfl⟩; (first | rw [b0] | rw [b1] | rw [b2]))
            go_ret
            rw [show spritesB ss ts = false by unfold spritesB; rw [hbad.out, Bool.and_false, Bool.and_false]]
            exact ⟨rfl, HBEL.out⟩
          cases b1 : inB Y (-16) 64
          · have b2 := trivial
            have hbad := Lib.hid (spr_bad (ss := ss) (m := (ts.length : Int)) (k := k) (by omega) (by rw [hs]; simp [sprB, b0, b1]))
            clear hall hs
            go_wp2_with (go_at_call 49; refine (l1In_any _ _ _ _).mono ?_; rintro e w' ⟨rfl, rfl⟩; (first | rw [b0] | rw [b1] | rw [b2]))
            go_ret
            rw [show spritesB ss ts = false by unfold spritesB; rw [hbad.out, Bool.and_false, Bool.and_false]]
            exact ⟨rfl, HBEL.out⟩
          cases b2 : inB N 0 ((ts.length : Int) - 1)
          · have hbad := Lib.hid (spr_bad (ss := ss) (m := (ts.length : Int)) (k := k) (by omega) (by rw [hs]; simp [sprB, b0, b1, b2]))
            clear hall hs
            go_wp2_with (go_at_call 49; refine (l1In_any _ _ _ _).mono ?_; rintro e w' ⟨rfl, rfl⟩; (first | rw [b0] | rw [b1] | rw [b2]))
            go_ret
            rw [show spritesB ss ts = false by unfold spritesB; rw [hbad.out, Bool.and_false, Bool.and_false]]
            exact ⟨rfl, HBEL.out⟩
          have hall2 := Lib.hid (show ∀ i, i < k + 1 → sprB ts.length (ss.getD i Spr.z) = true from fun i hi => by rcases Nat.lt_or_ge i k with h | h; exact hall i h; obtain rfl : i = k := (by omega); rw [hs]; simp [sprB, b0, b1, b2])
          clear hall hs
          go_wp2_with (go_at_call 49; refine (l1In_any _ _ _ _).mono ?_; rintro e w' ⟨rfl, rfl⟩; (first | rw [b0] | rw [b1] | rw [b2]))
          go_roundw
          case rel => exact ⟨k + 1, by omega, by go_num, hall2.out, HBEL.out⟩
          case measure => simp [intOf]; omega
        · obtain rfl : k = n := by omega
          have hg := Lib.hid (spr_of (ss := ss) (m := (ts.length : Int)) fun i hi => hall i (by omega))
          clear hall
          have hr : spritesB ss ts = (decide ((k : Int) ≤ 12) && decide ((ts.length : Int) ≤ 16)) := by
            unfold spritesB tilesB
            rw [hg.out, htg.out, Bool.and_true, Bool.and_true, hl]
            congr 1 <;> apply decide_eq_decide.2 <;> omega
          replace hr := Lib.hid hr
          replace hb := Lib.hid hb
          by_cases d1 : (k : Int) ≤ 12
          · by_cases d2 : (ts.length : Int) ≤ 16
            · go_wp2_with fail
              go_ret
              rw [hr.out, decide_eq_true d1, decide_eq_true d2]
              exact ⟨rfl, hb.out⟩
            · go_wp2_with fail
              go_ret
              rw [hr.out, decide_eq_true d1, decide_eq_false (show ¬ ((ts.length : Int) ≤ 16) by omega)]
              exact ⟨rfl, hb.out⟩
          · go_wp2_with fail
            go_ret
            rw [hr.out, decide_eq_false (show ¬ ((k : Int) ≤ 12) by omega)]
            exact ⟨rfl, hb.out⟩
end Go.Proofs.Ytkcabllnlbcgdaa
