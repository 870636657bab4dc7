/-
  The drawn laws on channels: PlayVoice, VoiceShare: plain lemmas and walks. No condition.
-/
import Derived.Test.YtmenehgbhgehjaaVoL
namespace Go.Proofs.Ytmenehgbhgehjaa
open Go.RowKit
set_option linter.unusedVariables false
set_option linter.unusedSimpArgs false
theorem sampV_getD : ∀ (N k : Nat) (v : Vo), k < N → (sampV N v).getD k 0 = levV (iterV k v)
  | 0, _, _, h => by omega
  | N + 1, 0, v, _ => rfl
  | N + 1, k + 1, v, h => sampV_getD N k (nextV v) (by omega)
theorem iter_period {v : Vo} (hv : vvB v = true) : iterV (8 * v.l.toNat) v = v := by
  obtain ⟨⟨l1, l2⟩, -, -, ⟨s1, s2⟩, f1, f2⟩ := vvB_bd hv
  rw [← skip_iter _ hv]
  unfold skipV
  rw [show ((8 * v.l.toNat : Nat) : Int) = 8 * v.l by omega, Int.add_mul_ediv_right _ _ (by omega), Int.add_mul_emod_self_right, Int.ediv_eq_zero_of_lt (by omega) (by omega), Int.emod_eq_of_lt (a := v.l - v.f) (by omega) (by omega)]
  obtain ⟨l, h, a, s, f⟩ := v
  simp only at *
  congr 1 <;> omega
theorem samp_period {v : Vo} (hv : vvB v = true) {N k : Nat} (hk : k < N) (h8 : 8 * v.l.toNat ≤ k) : (sampV N v).getD (k - 8 * v.l.toNat) 0 = (sampV N v).getD k 0 := by
  rw [sampV_getD N k v hk, sampV_getD N _ v (by omega)]
  rw [show k = 8 * v.l.toNat + (k - 8 * v.l.toNat) by omega, iterV_add, iter_period hv]
  simp
theorem iter_fix : ∀ (n : Nat) (v : Vo), (iterV n v).l = v.l ∧ (iterV n v).h = v.h ∧ (iterV n v).a = v.a
  | 0, _ => ⟨rfl, rfl, rfl⟩
  | n + 1, v => by
    obtain ⟨h1, h2, h3⟩ := iter_fix n (nextV v)
    have : (nextV v).l = v.l ∧ (nextV v).h = v.h ∧ (nextV v).a = v.a := by unfold nextV; split <;> simp
    exact ⟨h1.trans this.1, h2.trans this.2.1, h3.trans this.2.2⟩
theorem samp_val {v : Vo} (hv : vvB v = true) {N k : Nat} (hk : k < N) : (sampV N v).getD k 0 = 0 ∨ (sampV N v).getD k 0 = v.a := by
  rw [sampV_getD N k v hk]
  have := (lev_bd (iter_valid k hv)).2.2
  rw [(iter_fix k v).2.2] at this
  exact this
def Give0 (W : World) (L : Nat) (xs : List Int) (R : Vo) (e : Ending) (w' : World) : Prop := ∃ A c, e = .returned (.tuple #[.slice A L c, R.val]) ∧ w'.ownsRow W.heap.size 3 1 (.slice A L c) L (iv xs) ∧ Below W.heap.size W w'
theorem give0_of {v : Vo} {n : Int} {W w' : World} {e : Ending} {L : Nat} {xs : List Int} {R : Vo} (hx : playL v n = xs) (hl : xs.length = L) (hR : playV v n = R) (h : GivesP W (playL v n) (playV v n) e w') : Give0 W L xs R e w' := by
  obtain ⟨A, c, rfl, o, b⟩ := h
  rw [hx, hl] at o
  exact ⟨A, c, by rw [hx, hl, hR], o, b⟩
theorem play_n {v : Vo} {N : Nat} (hv : vvB v = true) (hN : N ≤ 400) : playL v N = sampV N v ∧ playV v N = iterV N v :=
  play_good (by simp only [playB, hv, Bool.true_and]; exact inB_true (by omega))
theorem play_nil {v : Vo} {n : Int} (h : playB v n = false ∨ n = 0) : playL v n = [] := by
  rcases h with h | rfl
  · exact (play_bad h).1
  · unfold playL; split <;> rfl
set_option maxHeartbeats 4000000 in
theorem fnPlayVoice_walk (w : World) (A : Option Addr) (n c : Nat) (zs : List Int) (h : IsRow .u8 w A n c zs) :
    Calls Try.prog 5 #[.slice A n c] w fun e w' => e = .returned (.bool true) ∧ Below w.heap.size w w' := by
  by_cases hlong : 1048576 < n
  · go_enter Try.func5, Try.ntmps5
    go_wp2_with fail
    go_ret
    exact ⟨rfl, Below.refl _ _⟩
  have HI := Lib.hid h
  clear h
  go_enter Try.func5, Try.ntmps5
  go_wp2_with fail
  refine (drawPlayVoice_any A n c zs _ HI.out).mono ?_
  rintro e w1 ⟨u, N, rfl, hu, N0, N1, hb⟩
  have HB := Lib.hid hb
  have hw1 := hb.size
  have hE := Lib.hid (Env.start w1)
  clear hb
  obtain ⟨R, hR⟩ : ∃ R, R = playV u N := ⟨_, rfl⟩
  have hR0 := Lib.hid hR
  by_cases hbad : playB u N = false ∨ N = 0
  · have hpi := Lib.hid (fun W => (playVoice_impl u (N) W).mono fun e w' h => give0_of (L := 0) (xs := []) (R := R) (play_nil hbad) rfl hR.symm h)
    have hps := Lib.hid (fun W => (playVoice_spec u (N) W).mono fun e w' h => give0_of (L := 0) (xs := []) (R := R) (play_nil hbad) rfl hR.symm h)
    clear hR
    go_wp2_with fail
    replace hE := Lib.hid (hE.out.box5 24 (.int .i64 u.l) (.int .i64 u.h) (.int .i64 u.a) (.int .i64 u.s) (.int .i64 u.f))
    refine (hpi.out _).mono ?_
    rintro e w2 ⟨A1, c1, rfl, o, b⟩
    replace hE := Lib.hid (hE.out.push o b)
    clear o b
    obtain ⟨bu, hbu⟩ : ∃ bu, bu = w1.heap.size := ⟨_, rfl⟩
    rw [← hbu] at hE ⊢
    replace hbu := Lib.hid hbu
    obtain ⟨⟨x0, x1, x2, x3, x4⟩, xl⟩ := own_box5 (hE.out.own 1 rfl)
    go_wp2_with fail
    clear x0 x1 x2 x3 x4 xl
    replace hE := Lib.hid (hE.out.box5 24 (.int .i64 R.l) (.int .i64 R.h) (.int .i64 R.a) (.int .i64 R.s) (.int .i64 R.f))
    refine (hps.out _).mono ?_
    rintro e w3 ⟨A2, c2, rfl, o, b⟩
    replace hE := Lib.hid (hE.out.push o b)
    clear o b
    obtain ⟨br, hbr⟩ : ∃ br, br = w2.heap.size := ⟨_, rfl⟩
    rw [← hbr] at hE ⊢
    replace hbr := Lib.hid hbr
    go_wp2_with fail
    replace hE := Lib.hid (hE.out.box5 24 (.int .i64 R.l) (.int .i64 R.h) (.int .i64 R.a) (.int .i64 R.s) (.int .i64 R.f))
    refine (sameInts_same _ _ _ _ _ _ _ (hE.out.ints 3 rfl) (hE.out.ints 1 rfl) (by omega)).mono ?_
    rintro e w4 ⟨rfl, b⟩
    replace hE := Lib.hid (hE.out.below b)
    clear b
    obtain ⟨⟨y0, y1, y2, y3, y4⟩, yl⟩ := own_box5 (hE.out.own 2 rfl)
    obtain ⟨⟨z0, z1, z2, z3, z4⟩, zl⟩ := own_box5 (hE.out.own 0 rfl)
    by_cases hn : N = 0
    · subst hn
      go_wp2_with (go_at_call 19; refine (alive_any _).mono ?_; rintro e w' ⟨rfl, rfl⟩)
      go_ret
      exact ⟨rfl, HB.out.trans (hE.out.bel.mono hw1)⟩
    · have hn1 : ((0 : Int) != N) = true := by simp; omega
      go_wp2_with (go_at_call 19; refine (alive_any _).mono ?_; rintro e w' ⟨rfl, rfl⟩)
      go_ret
      exact ⟨rfl, HB.out.trans (hE.out.bel.mono hw1)⟩
  · have hgood : playB u N = true := by cases h : playB u N; exact absurd (.inl h) hbad; rfl
    have hg2 := hgood
    simp only [playB, Bool.and_eq_true, inB_iff] at hg2
    obtain ⟨hv, n0, n1⟩ := hg2
    obtain ⟨J0, rfl⟩ := Int.eq_ofNat_of_zero_le n0
    have hJ : J0 ≤ 400 := by omega
    have hJ1 : 1 ≤ J0 := by have : ¬ ((J0 : Int) = 0) := fun h => hbad (.inr h); omega
    obtain ⟨xs, hxs⟩ : ∃ xs, xs = sampV J0 u := ⟨_, rfl⟩
    have hxl : xs.length = J0 := by rw [hxs, sampV_len]
    have hpi := Lib.hid (fun W => (playVoice_impl u ((J0 : Int)) W).mono fun e w' h => give0_of (L := J0) (xs := xs) (R := R) ((play_n hv hJ).1.trans hxs.symm) hxl hR.symm h)
    have hps := Lib.hid (fun W => (playVoice_spec u ((J0 : Int)) W).mono fun e w' h => give0_of (L := J0) (xs := xs) (R := R) ((play_n hv hJ).1.trans hxs.symm) hxl hR.symm h)
    have hRi : R = iterV J0 u := hR.trans (play_n hv hJ).2
    have hRv := Lib.hid (show vvB R = true by rw [hRi]; exact iter_valid J0 hv)
    obtain ⟨M, hM⟩ : ∃ M, M = iterV (J0 / 3) u := ⟨_, rfl⟩
    have hMv : vvB M = true := by rw [hM]; exact iter_valid _ hv
    have hd : (J0 : Int) / 3 = ((J0 / 3 : Nat) : Int) := by omega
    have hd2 : (J0 : Int) - (J0 : Int) / 3 = ((J0 - J0 / 3 : Nat) : Int) := by omega
    have hq1 := Lib.hid (fun W => (playVoice_impl u ((J0 : Int) / 3) W).mono fun e w' h => give0_of (L := J0 / 3) (xs := sampV (J0 / 3) u) (R := M) (by rw [hd]; exact (play_n hv (by omega)).1) (sampV_len _ _) (by rw [hd, hM]; exact (play_n hv (by omega)).2) h)
    have hq2 := Lib.hid (fun W => (playVoice_impl M ((J0 : Int) - (J0 : Int) / 3) W).mono fun e w' h => give0_of (L := J0 - J0 / 3) (xs := sampV (J0 - J0 / 3) M) (R := R) (by rw [hd2]; exact (play_n hMv (by omega)).1) (sampV_len _ _) (by rw [hd2, (play_n hMv (by omega)).2, hRi, hM, ← iterV_add]; congr 1; omega) h)
    have hcat := Lib.hid (show sampV (J0 / 3) u ++ sampV (J0 - J0 / 3) M = xs by rw [hM, ← sampV_add, hxs, show J0 / 3 + (J0 - J0 / 3) = J0 by omega])
    have hper := Lib.hid (fun (k : Nat) (hk : k < J0) (h8 : 8 * u.l.toNat ≤ k) => (by rw [hxs]; exact samp_period hv hk h8 : xs.getD (k - 8 * u.l.toNat) 0 = xs.getD k 0))
    have hval := Lib.hid (fun (k : Nat) (hk : k < J0) => (by rw [hxs]; exact samp_val hv hk : xs.getD k 0 = 0 ∨ xs.getD k 0 = u.a))
    obtain ⟨⟨l1, l2⟩, -, ⟨a1, a2⟩, -⟩ := vvB_bd hv
    have hbn : ((J0 : Int) != (J0 : Int)) = false := by simp
    have hbz : ((J0 : Int) == 0) = false := by simp; omega
    clear hR hRi hM hMv hd hd2 hbad hgood hxs n0 n1
    replace hv := Lib.hid hv
    go_wp2_with fail
    replace hE := Lib.hid (hE.out.box5 24 (.int .i64 u.l) (.int .i64 u.h) (.int .i64 u.a) (.int .i64 u.s) (.int .i64 u.f))
    refine (hpi.out _).mono ?_
    rintro e w2 ⟨A1, c1, rfl, o, b⟩
    replace hE := Lib.hid (hE.out.push o b)
    clear o b
    obtain ⟨bu, hbu⟩ : ∃ bu, bu = w1.heap.size := ⟨_, rfl⟩
    rw [← hbu] at hE ⊢
    replace hbu := Lib.hid hbu
    obtain ⟨⟨x0, x1, x2, x3, x4⟩, xl⟩ := own_box5 (hE.out.own 1 rfl)
    go_wp2_with fail
    clear x0 x1 x2 x3 x4 xl
    replace hE := Lib.hid (hE.out.box5 24 (.int .i64 R.l) (.int .i64 R.h) (.int .i64 R.a) (.int .i64 R.s) (.int .i64 R.f))
    refine (hps.out _).mono ?_
    rintro e w3 ⟨A2, c2, rfl, o, b⟩
    replace hE := Lib.hid (hE.out.push o b)
    clear o b
    obtain ⟨br, hbr⟩ : ∃ br, br = w2.heap.size := ⟨_, rfl⟩
    rw [← hbr] at hE ⊢
    replace hbr := Lib.hid hbr
    go_wp2_with fail
    replace hE := Lib.hid (hE.out.box5 24 (.int .i64 R.l) (.int .i64 R.h) (.int .i64 R.a) (.int .i64 R.s) (.int .i64 R.f))
    refine (sameInts_same _ _ _ _ _ _ _ (hE.out.ints 3 rfl) (hE.out.ints 1 rfl) (by omega)).mono ?_
    rintro e w4 ⟨rfl, b⟩
    replace hE := Lib.hid (hE.out.below b)
    clear b
    obtain ⟨⟨y0, y1, y2, y3, y4⟩, yl⟩ := own_box5 (hE.out.own 2 rfl)
    obtain ⟨⟨z0, z1, z2, z3, z4⟩, zl⟩ := own_box5 (hE.out.own 0 rfl)
    go_wp2_with fail
    clear y0 y1 y2 y3 y4 yl
    clear z0 z1 z2 z3 z4 zl
    go_loopw [9] (fun i wr => ∃ k : Nat, k ≤ J0 ∧ i = .int .i64 k ∧ ∃ q, wr = w4.drewN q) (fun i _ => J0 - (intOf i).toNat)
    case atStart => exact ⟨0, Nat.zero_le _, rfl, 0, rfl⟩
    case round =>
      obtain ⟨k, hk, rfl, q, rfl⟩ := hrel
      by_cases hlt : k < J0
      · obtain ⟨bs, os, e1, _, hz⟩ := (hE.out.ints 3 rfl).spot hlt
        have hX := hval.out k hlt
        have q0 : (0 : Int) ≤ (k : Int) := by omega
        have q1 : (k : Int) < (J0 : Int) := by omega
        obtain ⟨⟨x0, x1, x2, x3, x4⟩, xl⟩ := own_box5 (hE.out.own 4 rfl)
        by_cases h8 : 8 * u.l ≤ (k : Int)
        · have g1 : decide ((k : Int) ≥ 8 * u.l) = true := decide_eq_true h8
          obtain ⟨k2, hk2⟩ : ∃ k2 : Nat, k2 = k - 8 * u.l.toNat := ⟨_, rfl⟩
          have hp := hper.out k hlt (by omega)
          rw [← hk2] at hp
          obtain ⟨b', o', e', _, hz2⟩ := (hE.out.ints 3 rfl).spot (show k2 < J0 by omega)
          rw [e1] at e'
          injection e' with e'
          injection e' with e2 e3
          subst e2 e3
          rw [hp] at hz2
          have w1' : IntKind.i64.wrap ((k : Int) - 8 * u.l) = (k2 : Int) := by rw [IntWalk.i64_in _ (by omega)]; omega
          have w2' : (k : Int) - 8 * u.l = (k2 : Int) := by omega
          have w3' : (k2 : Int) < (J0 : Int) := by omega
          have w4' : (0 : Int) ≤ (k2 : Int) := by omega
          generalize xs.getD k 0 = X at hz hz2 hX
          have hXX : (X != X) = false := by simp
          replace e1 := Lib.hid e1
          replace hk2 := Lib.hid hk2
          clear hp h8
          rw [e1.out]
          by_cases hX0 : X = 0
          · subst hX0
            go_wp2_with fail
            go_quiet (fail)
            go_wp2_with fail
            go_roundw
            case rel => exact ⟨k + 1, by omega, by go_num, _, by first | rfl | simp⟩
            case measure => simp [intOf]; omega
          · obtain rfl : X = u.a := hX.resolve_left hX0
            have hX1 : (u.a != 0) = true := by simpa using hX0
            go_wp2_with fail
            go_quiet (fail)
            go_wp2_with fail
            go_roundw
            case rel => exact ⟨k + 1, by omega, by go_num, _, by first | rfl | simp⟩
            case measure => simp [intOf]; omega
        · have g1 : decide ((k : Int) ≥ 8 * u.l) = false := decide_eq_false h8
          generalize xs.getD k 0 = X at hz hX
          have hXX : (X != X) = false := by simp
          replace e1 := Lib.hid e1
          clear h8
          rw [e1.out]
          by_cases hX0 : X = 0
          · subst hX0
            go_wp2_with fail
            go_quiet (fail)
            go_wp2_with fail
            go_roundw
            case rel => exact ⟨k + 1, by omega, by go_num, _, by first | rfl | simp⟩
            case measure => simp [intOf]; omega
          · obtain rfl : X = u.a := hX.resolve_left hX0
            have hX1 : (u.a != 0) = true := by simpa using hX0
            go_wp2_with fail
            go_quiet (fail)
            go_wp2_with fail
            go_roundw
            case rel => exact ⟨k + 1, by omega, by go_num, _, by first | rfl | simp⟩
            case measure => simp [intOf]; omega
      · obtain rfl : k = J0 := by omega
        replace hE := Lib.hid (hE.out.below (below_drewN (Below.refl _ _) q))
        obtain ⟨⟨x0, x1, x2, x3, x4⟩, xl⟩ := own_box5 (hE.out.own 4 rfl)
        go_wp2_with fail
        refine (hq1.out _).mono ?_
        rintro e w5 ⟨A3, c3, rfl, o, b⟩
        replace hE := Lib.hid (hE.out.push o b)
        clear o b
        clear x0 x1 x2 x3 x4 xl
        go_wp2_with fail
        replace hE := Lib.hid (hE.out.box5 24 (.int .i64 M.l) (.int .i64 M.h) (.int .i64 M.a) (.int .i64 M.s) (.int .i64 M.f))
        refine (hq2.out _).mono ?_
        rintro e w6 ⟨A4, c4, rfl, o, b⟩
        replace hE := Lib.hid (hE.out.push o b)
        clear o b
        obtain ⟨W, hW⟩ : ∃ W, W = w6.alloc (.cells #[.int .i64 R.l, .int .i64 R.h, .int .i64 R.a, .int .i64 R.s, .int .i64 R.f] 24) := ⟨_, rfl⟩
        replace hE := Lib.hid (hE.out.box5 24 (.int .i64 R.l) (.int .i64 R.h) (.int .i64 R.a) (.int .i64 R.s) (.int .i64 R.f))
        rw [← hW] at hE
        obtain ⟨bx, hbx⟩ : ∃ bx, bx = w6.heap.size := ⟨_, rfl⟩
        rw [← hbx] at hE
        have HW := Lib.hid (And.intro hW hbx)
        clear hW hbx
        go_upto_region 18 with (fail)
        rw [← HW.out.1, ← HW.out.2]
        have hlen : k / 3 + (k - k / 3) = k := by omega
        have hlen' := Lib.hid hlen
        clear hlen
        go_wp2_with (first | (at_builtin; refine push_list _ rfl _ _ rfl W.heap.size 0 0 (k / 3) c3 _ (some ⟨W.heap.size, 0, none⟩) A3 [] (sampV (k / 3) u) rfl rfl (World.ownsRow_lit W #[] 0 (Nat.le_refl _) (by simp [maxLen]) rfl) (((hE.out.below ((Below.refl _ _).alloc (Nat.le_refl _) _))).ints 3 rfl) (hE.out.nil_ 3 rfl) (by omega) (by simp) ?_; intro A5 c5 w7 o7 b7; rw [Nat.zero_add, List.nil_append] at o7; rw [Nat.zero_add]; have B7 := Lib.hid (((Below.refl W.heap.size W).alloc (Nat.le_refl _) (.cells #[] 3)).trans b7); replace o7 := Lib.hid o7; clear b7) | (at_builtin; refine push_list _ rfl _ _ rfl W.heap.size (k / 3) c5 (k - k / 3) c4 _ A5 A4 (sampV (k / 3) u) (sampV (k - k / 3) M) rfl rfl o7.out ((hE.out.below B7.out).ints 1 rfl) (hE.out.nil_ 1 rfl) (by omega) B7.out.size ?_; intro A6 c6 w8 o8 b8; rw [hlen'.out, hcat.out] at o8; rw [hlen'.out]; replace hE := Lib.hid (hE.out.push o8 (B7.out.trans b8)); clear o8 b8) | (go_at_call 29; refine (sameInts_same _ _ _ _ _ _ _ (hE.out.ints 0 rfl) (hE.out.ints 8 rfl) (by omega)).mono ?_; rintro e w9 ⟨rfl, b⟩; replace hE := Lib.hid (hE.out.below b); clear b; obtain ⟨⟨y0, y1, y2, y3, y4⟩, yl⟩ := own_box5 (hE.out.own 1 rfl); obtain ⟨⟨z0, z1, z2, z3, z4⟩, zl⟩ := own_box5 (hE.out.own 7 rfl)) | (go_at_call 21; refine (voiceValid_impl R _).mono ?_; rintro e w10 ⟨rfl, b⟩; rw [hRv.out]; replace hE := Lib.hid (hE.out.below b); clear b))
        go_ret
        exact ⟨rfl, HB.out.trans (hE.out.bel.mono hw1)⟩
end Go.Proofs.Ytmenehgbhgehjaa
