/-
  The drawn laws on channels: SkipVoice, PlayVoice: their walks. No condition.
-/
import Derived.Test.YtmenehgbhgehjaaDrwW
import Derived.Test.YtmenehgbhgehjaaTypedV
import Derived.Test.YtmenehgbhgehjaaPlayX
import Derived.Deep.RegionHeld3
import Derived.Deep.DrawnRows
namespace Go.Proofs.Ytmenehgbhgehjaa
open Go.RowKit
set_option linter.unusedVariables false
set_option linter.unusedSimpArgs false
attribute [local go_sem ↓] Go.wp_at_zero Go.wp_at_succ
set_option maxHeartbeats 400000 in
theorem alive_any (w : World) : Calls Try.prog 19 #[] w fun e w' => e = .returned (.bool true) ∧ w = w' := by
  have e8 : wrap64 (IntKind.i8.wrap 255) = -1 := by
    rw [show IntKind.i8.wrap 255 = -1 by decide]
    exact IntWalk.wrap64_in _ (by omega)
  go_enter Try.func19, Try.ntmps19
  go_wp2_with (first | (go_at_call 56; refine (within_any _ _ _ _).mono ?_; rintro e w' ⟨rfl, rfl⟩; rw [show inB 255 0 255 = true from rfl]) | go_in)
  go_ret
  exact ⟨rfl, rfl⟩
theorem Env.drewE {w0 w : World} {L : List Lot} (h : Env w0 w L) : Env w0 w.drew L := ⟨h.bel.drew, h.row, h.ord⟩
theorem skipR_good {u : Vo} {K : Nat} (hv : vvB u = true) (hK : K ≤ 100000) : skipR u (K : Int) = iterV K u := by
  rw [← skip_iter K hv]
  have : inB (K : Int) 0 100000 = true := inB_true (by omega)
  simp [skipR, hv, this]
theorem skipR_bad {u : Vo} {N : Int} (h : vvB u = false ∨ N < 0 ∨ 100000 < N) : skipR u N = ⟨0, 0, 0, 0, 0⟩ := by
  unfold skipR
  rw [if_neg]
  intro h'
  simp only [Bool.and_eq_true, inB_iff] at h'
  rcases h with h | h
  · rw [h] at h'; exact absurd h'.1 (by simp)
  · omega
set_option maxHeartbeats 4000000 in
theorem fnSkipVoice_walk (w : World) (A : Option Addr) (n c : Nat) (zs : List Int) (h : IsRow .u8 w A n c zs) :
    Calls Try.prog 3 #[.slice A n c] w fun e w' => e = .returned (.bool true) ∧ Below w.heap.size w w' := by
  by_cases hlong : 1048576 < n
  · go_enter Try.func3, Try.ntmps3
    go_wp2_with fail
    go_ret
    exact ⟨rfl, Below.refl _ _⟩
  have HI := Lib.hid h
  clear h
  go_enter Try.func3, Try.ntmps3
  go_wp2_with fail
  refine (drawSkipVoice_any A n c zs _ HI.out).mono ?_
  rintro e w1 ⟨u, N, rfl, hu, N0, N1, hb⟩
  have HB := Lib.hid hb
  have hw1 := hb.size
  have hE := Lib.hid (Env.start w1)
  clear hb
  by_cases hbad : vvB u = false ∨ N < 0 ∨ 100000 < N
  · have hz := skipR_bad hbad
    have hsi := Lib.hid (fun W => skipVoice_impl u (N) W)
    have hss := Lib.hid (fun W => skipVoice_spec u (N) W)
    obtain ⟨R, hR⟩ : ∃ R, R = skipR u (N) := ⟨_, rfl⟩
    rw [← hR] at hsi hss
    rw [hz] at hR
    replace hR := Lib.hid hR
    clear hz
    go_wp2_with fail
    replace hE := Lib.hid (hE.out.box5 24 (.int .i64 u.l) (.int .i64 u.h) (.int .i64 u.a) (.int .i64 u.s) (.int .i64 u.f))
    refine (hsi.out _).mono ?_
    rintro e w2 ⟨rfl, b⟩
    replace hE := Lib.hid (hE.out.below b)
    clear b
    obtain ⟨⟨x0, x1, x2, x3, x4⟩, xl⟩ := own_box5 (hE.out.own 0 rfl)
    obtain ⟨bu, hbu⟩ : ∃ bu, bu = w1.heap.size := ⟨_, rfl⟩
    rw [← hbu] at x0 x1 x2 x3 x4 xl hE ⊢
    replace hbu := Lib.hid hbu
    go_wp2_with fail
    clear x0 x1 x2 x3 x4 xl
    replace hE := Lib.hid (hE.out.box5 24 (.int .i64 R.l) (.int .i64 R.h) (.int .i64 R.a) (.int .i64 R.s) (.int .i64 R.f))
    obtain ⟨br, hbr⟩ : ∃ br, br = w2.heap.size := ⟨_, rfl⟩
    rw [← hbr] at hE ⊢
    replace hbr := Lib.hid hbr
    obtain ⟨⟨y0, y1, y2, y3, y4⟩, yl⟩ := own_box5 (hE.out.own 0 rfl)
    obtain ⟨⟨x0, x1, x2, x3, x4⟩, xl⟩ := own_box5 (hE.out.own 1 rfl)
    go_region_held3 (fun w' => (w'.cell? ⟨br, 0, none⟩ = some (.int .i64 R.l) ∧ w'.cell? ⟨br, 1, none⟩ = some (.int .i64 R.h) ∧ w'.cell? ⟨br, 2, none⟩ = some (.int .i64 R.a) ∧ w'.cell? ⟨br, 3, none⟩ = some (.int .i64 R.s) ∧ w'.cell? ⟨br, 4, none⟩ = some (.int .i64 R.f)) ∧ (w'.cell? ⟨bu, 0, none⟩ = some (.int .i64 u.l) ∧ w'.cell? ⟨bu, 1, none⟩ = some (.int .i64 u.h) ∧ w'.cell? ⟨bu, 2, none⟩ = some (.int .i64 u.a) ∧ w'.cell? ⟨bu, 3, none⟩ = some (.int .i64 u.s) ∧ w'.cell? ⟨bu, 4, none⟩ = some (.int .i64 u.f))) (first | exact ⟨⟨y0, y1, y2, y3, y4⟩, x0, x1, x2, x3, x4⟩ | exact ⟨(own_box5 (hE.out.own 0 rfl)).1, (own_box5 (hE.out.own 1 rfl)).1⟩) ((go_at_call 17; refine (hss.out _).mono ?_; rintro e w3 ⟨rfl, b⟩; replace hE := Lib.hid (hE.out.drewE.below b); clear b))
    clear x0 x1 x2 x3 x4 xl
    clear y0 y1 y2 y3 y4 yl
    obtain ⟨⟨x0, x1, x2, x3, x4⟩, xl⟩ := own_box5 (hE.out.own 1 rfl)
    go_wp2_with fail
    refine (voiceValid_spec u _).mono ?_
    rintro e w4 ⟨rfl, b⟩
    replace hE := Lib.hid (hE.out.below b)
    clear b
    clear x0 x1 x2 x3 x4 xl
    obtain ⟨⟨y0, y1, y2, y3, y4⟩, yl⟩ := own_box5 (hE.out.own 0 rfl)
    rw [hR.out] at y0 y1 y2 y3 y4
    cases hv : vvB u
    · go_wp2_with (go_at_call 19; refine (alive_any _).mono ?_; rintro e w' ⟨rfl, rfl⟩)
      go_ret
      exact ⟨rfl, HB.out.trans (hE.out.bel.mono hw1)⟩
    · by_cases hn : N < 0
      · go_wp2_with (go_at_call 19; refine (alive_any _).mono ?_; rintro e w' ⟨rfl, rfl⟩)
        go_ret
        exact ⟨rfl, HB.out.trans (hE.out.bel.mono hw1)⟩
      · have hn2 : 100000 < N := by rcases hbad with h | h | h; rw [hv] at h; cases h; omega; exact h
        go_wp2_with (go_at_call 19; refine (alive_any _).mono ?_; rintro e w' ⟨rfl, rfl⟩)
        go_ret
        exact ⟨rfl, HB.out.trans (hE.out.bel.mono hw1)⟩
  · have hv : vvB u = true := by cases h : vvB u; exact absurd (.inl h) hbad; rfl
    obtain ⟨J0, rfl⟩ := Int.eq_ofNat_of_zero_le (show 0 ≤ N by omega)
    have hK : J0 ≤ 100000 := by omega
    have hq1 : ¬ ((J0 : Int) < 0) := by omega
    have hq2 : ¬ ((J0 : Int) > 100000) := by omega
    have hsi := Lib.hid (fun W => skipVoice_impl u ((J0 : Int)) W)
    have hss := Lib.hid (fun W => skipVoice_spec u ((J0 : Int)) W)
    obtain ⟨R, hR⟩ : ∃ R, R = skipR u ((J0 : Int)) := ⟨_, rfl⟩
    rw [← hR] at hsi hss
    rw [skipR_good hv hK] at hR
    have hRv := Lib.hid (show vvB R = true by rw [hR]; exact iter_valid J0 hv)
    have hd : (J0 : Int) / 3 = ((J0 / 3 : Nat) : Int) := by omega
    obtain ⟨M, hM⟩ : ∃ M, M = iterV (J0 / 3) u := ⟨_, rfl⟩
    have hs1 := Lib.hid (fun W => skipVoice_impl u ((J0 : Int) / 3) W)
    have hs2 := Lib.hid (fun W => skipVoice_impl M ((J0 : Int) - (J0 : Int) / 3) W)
    rw [show skipR u ((J0 : Int) / 3) = M by rw [hd, skipR_good hv (by omega), hM]] at hs1
    rw [show skipR M ((J0 : Int) - (J0 : Int) / 3) = R by rw [show (J0 : Int) - (J0 : Int) / 3 = ((J0 - J0 / 3 : Nat) : Int) by omega, hM, skipR_good (iter_valid _ hv) (by omega), ← iterV_add, hR]; congr 1; omega] at hs2
    replace hM := Lib.hid hM
    have hRR := Lib.hid hR
    have hvv := Lib.hid hv
    clear hbad hd hR
    go_wp2_with fail
    replace hE := Lib.hid (hE.out.box5 24 (.int .i64 u.l) (.int .i64 u.h) (.int .i64 u.a) (.int .i64 u.s) (.int .i64 u.f))
    refine (hsi.out _).mono ?_
    rintro e w2 ⟨rfl, b⟩
    replace hE := Lib.hid (hE.out.below b)
    clear b
    obtain ⟨⟨x0, x1, x2, x3, x4⟩, xl⟩ := own_box5 (hE.out.own 0 rfl)
    obtain ⟨bu, hbu⟩ : ∃ bu, bu = w1.heap.size := ⟨_, rfl⟩
    rw [← hbu] at x0 x1 x2 x3 x4 xl hE ⊢
    replace hbu := Lib.hid hbu
    go_wp2_with fail
    clear x0 x1 x2 x3 x4 xl
    replace hE := Lib.hid (hE.out.box5 24 (.int .i64 R.l) (.int .i64 R.h) (.int .i64 R.a) (.int .i64 R.s) (.int .i64 R.f))
    obtain ⟨br, hbr⟩ : ∃ br, br = w2.heap.size := ⟨_, rfl⟩
    rw [← hbr] at hE ⊢
    replace hbr := Lib.hid hbr
    obtain ⟨⟨y0, y1, y2, y3, y4⟩, yl⟩ := own_box5 (hE.out.own 0 rfl)
    obtain ⟨⟨x0, x1, x2, x3, x4⟩, xl⟩ := own_box5 (hE.out.own 1 rfl)
    go_region_held3 (fun w' => (w'.cell? ⟨br, 0, none⟩ = some (.int .i64 R.l) ∧ w'.cell? ⟨br, 1, none⟩ = some (.int .i64 R.h) ∧ w'.cell? ⟨br, 2, none⟩ = some (.int .i64 R.a) ∧ w'.cell? ⟨br, 3, none⟩ = some (.int .i64 R.s) ∧ w'.cell? ⟨br, 4, none⟩ = some (.int .i64 R.f)) ∧ (w'.cell? ⟨bu, 0, none⟩ = some (.int .i64 u.l) ∧ w'.cell? ⟨bu, 1, none⟩ = some (.int .i64 u.h) ∧ w'.cell? ⟨bu, 2, none⟩ = some (.int .i64 u.a) ∧ w'.cell? ⟨bu, 3, none⟩ = some (.int .i64 u.s) ∧ w'.cell? ⟨bu, 4, none⟩ = some (.int .i64 u.f))) (first | exact ⟨⟨y0, y1, y2, y3, y4⟩, x0, x1, x2, x3, x4⟩ | exact ⟨(own_box5 (hE.out.own 0 rfl)).1, (own_box5 (hE.out.own 1 rfl)).1⟩) ((go_at_call 17; refine (hss.out _).mono ?_; rintro e w3 ⟨rfl, b⟩; replace hE := Lib.hid (hE.out.drewE.below b); clear b))
    clear x0 x1 x2 x3 x4 xl
    clear y0 y1 y2 y3 y4 yl
    obtain ⟨⟨x0, x1, x2, x3, x4⟩, xl⟩ := own_box5 (hE.out.own 1 rfl)
    go_wp2_with fail
    refine (voiceValid_spec u _).mono ?_
    rintro e w4 ⟨rfl, b⟩
    replace hE := Lib.hid (hE.out.below b)
    clear b
    clear x0 x1 x2 x3 x4 xl
    rw [hvv.out]
    by_cases h4 : J0 ≤ 400
    · have h5 : (J0 : Int) ≤ 400 := by omega
      have hp := Lib.hid (fun W => playVoice_impl u (J0 : Int) W)
      rw [(play_good (show playB u J0 = true by simp only [playB, hvv.out, Bool.true_and]; exact inB_true (by omega))).2, ← hRR.out] at hp
      obtain ⟨⟨x0, x1, x2, x3, x4⟩, xl⟩ := own_box5 (hE.out.own 1 rfl)
      go_wp2_with fail
      refine (hp.out _).mono ?_
      rintro e w5 ⟨A5, c5, rfl, o, b⟩
      replace hE := Lib.hid (hE.out.push o b)
      clear o b
      clear x0 x1 x2 x3 x4 xl
      obtain ⟨⟨y0, y1, y2, y3, y4⟩, yl⟩ := own_box5 (hE.out.own 1 rfl)
      go_wp2_with fail
      replace hE := Lib.hid (hE.out.box5 24 (.int .i64 R.l) (.int .i64 R.h) (.int .i64 R.a) (.int .i64 R.s) (.int .i64 R.f))
      clear y0 y1 y2 y3 y4 yl
      obtain ⟨⟨y0, y1, y2, y3, y4⟩, yl⟩ := own_box5 (hE.out.own 2 rfl)
      obtain ⟨⟨x0, x1, x2, x3, x4⟩, xl⟩ := own_box5 (hE.out.own 3 rfl)
      have hbu0 : HasV (w5.alloc (.cells #[.int .i64 R.l, .int .i64 R.h, .int .i64 R.a, .int .i64 R.s, .int .i64 R.f] 24)) bu u := hE.out.own 3 rfl
      have hbr0 : HasV (w5.alloc (.cells #[.int .i64 R.l, .int .i64 R.h, .int .i64 R.a, .int .i64 R.s, .int .i64 R.f] 24)) br R := hE.out.own 2 rfl
      clear x0 x1 x2 x3 x4 xl y0 y1 y2 y3 y4 yl
      have hs3 := Lib.hid (fun W => (voiceValid_impl R W).mono fun e w' h => (by rw [hRv.out] at h; exact h : e = .returned (.bool true) ∧ Below W.heap.size W w'))
      have k0 : 0 ≤ (J0 : Int) / 3 ∧ (J0 : Int) / 3 ≤ (J0 : Int) := by omega
      refine region_list none (IsVal ((R).val) :: IsVal (.bool true) :: IsVal (.bool true) :: IsVal ((u).val) :: IntIn (((J0 : Int) / 3)) (((J0 : Int) / 3)) :: IsVal ((M).val) :: IntIn ((J0 : Int)) ((J0 : Int)) :: IntIn (((J0 : Int) / 3)) (((J0 : Int) / 3)) :: IntIn ((J0 : Int) - (((J0 : Int) / 3))) ((J0 : Int) - (((J0 : Int) / 3))) :: IsVal ((R).val) :: IsVal ((R).val) :: IsVal (.bool true) :: IsVal (.bool true) :: IsVal (.bool true) :: []) (fun _ w' => Below ((w5.alloc (.cells #[.int .i64 R.l, .int .i64 R.h, .int .i64 R.a, .int .i64 R.s, .int .i64 R.f] 24))).heap.size ((w5.alloc (.cells #[.int .i64 R.l, .int .i64 R.h, .int .i64 R.a, .int .i64 R.s, .int .i64 R.f] 24))) w') ?_ ?_ ?_ ?_ ?_ ?_ ?_
      · kernel_rfl
      · exact ⟨(fun _ _ _ _ h => h), (fun _ _ _ _ h => h), (fun _ _ _ _ h => h), (fun _ _ _ _ h => h), (fun _ _ _ _ h => h), (fun _ _ _ _ h => h), (fun _ _ _ _ h => h), (fun _ _ _ _ h => h), (fun _ _ _ _ h => h), (fun _ _ _ _ h => h), (fun _ _ _ _ h => h), (fun _ _ _ _ h => h), (fun _ _ _ _ h => h), (fun _ _ _ _ h => h), trivial⟩
      · exact of_decide_eq_true (by kernel_rfl)
      · kernel_rfl
      · exact (Below.refl _ _).drew
      · refine each_cons ?_ (each_cons ?_ (each_cons ?_ (each_cons ?_ (each_cons ?_ (each_cons ?_ (each_cons ?_ (each_cons ?_ (each_cons ?_ (each_cons ?_ (each_cons ?_ (each_cons ?_ (each_cons ?_ (each_cons ?_ ( trivial))))))))))))))
        · intro n vs aa w' haa hJ hd K hK
          refine ob_plain rfl ?_
          have hbv := (hbr0).below hJ
          refine ob_loadV _ (b := br) (u := R) rfl (ev_of haa (by kernel_rfl)) hbv ?_
          refine hK _ _ ?_ (World.grownBy.refl _ _) hJ
          show (IsVal ((R).val)) w' _
          exact rfl
        · intro n vs aa w' haa hJ hd K hK
          refine ob_plain rfl ?_
          have d0 : (IsVal ((R).val)) w' (vs 0) := hd.1 rfl
          refine ob_call 21 _ _ #[vs 0] rfl (evs_of haa (by kernel_rfl)) (fun _ _ => by kernel_rfl) ?_
          refine (pc1 hs3.out d0).mono ?_
          rintro e w2 ⟨v, rfl, hv, hb2⟩
          refine ⟨_, rfl, ?_⟩
          refine hK _ _ ?_ (grown_of_below hb2 _) (below_step hJ hb2 hJ.size)
          show (IsVal (.bool true)) w2 _
          exact hv
        · intro n vs aa w' haa hJ hd K hK
          refine ob_plain rfl ?_
          have d1 : (IsVal (.bool true)) w' (vs 1) := hd.1 rfl
          refine ob_move _ (v := vs 1) rfl (ev_of haa (by kernel_rfl)) ?_
          refine hK _ _ ?_ (World.grownBy.refl _ _) hJ
          show (IsVal (.bool true)) w' _
          exact d1
        · intro n vs aa w' haa hJ hd K hK
          refine ob_guarded (v := vs 2) rfl rfl (ev_of haa (by kernel_rfl)) (hd.1 rfl) ?_
          have hbv := (hbu0).below hJ
          refine ob_loadV _ (b := bu) (u := u) rfl (ev_of haa (by kernel_rfl)) hbv ?_
          refine hK _ _ ?_ (World.grownBy.refl _ _) hJ
          show (IsVal ((u).val)) w' _
          exact rfl
        · intro n vs aa w' haa hJ hd K hK
          refine ob_guarded (v := vs 2) rfl rfl (ev_of haa (by kernel_rfl)) (hd.1 rfl) ?_
          refine ob_move _ (v := .int .i64 (((J0 : Int) / 3))) rfl (ev_of haa (by kernel_rfl)) ?_
          refine hK _ _ ?_ (World.grownBy.refl _ _) hJ
          show (IntIn (((J0 : Int) / 3)) (((J0 : Int) / 3))) w' _
          exact ⟨_, rfl, Int.le_refl _, Int.le_refl _⟩
        · intro n vs aa w' haa hJ hd K hK
          refine ob_guarded (v := vs 2) rfl rfl (ev_of haa (by kernel_rfl)) (hd.2.2.1 rfl) ?_
          have d3 : (IsVal ((u).val)) w' (vs 3) := hd.1 rfl
          have d4 : (IntIn (((J0 : Int) / 3)) (((J0 : Int) / 3))) w' (vs 4) := hd.2.1 rfl
          refine ob_call 16 _ _ #[vs 3, vs 4] rfl (evs_of haa (by kernel_rfl)) (fun _ _ => by kernel_rfl) ?_
          refine (pc2 hs1.out d3 d4).mono ?_
          rintro e w2 ⟨v, rfl, hv, hb2⟩
          refine ⟨_, rfl, ?_⟩
          refine hK _ _ ?_ (grown_of_below hb2 _) (below_step hJ hb2 hJ.size)
          show (IsVal ((M).val)) w2 _
          exact hv
        · intro n vs aa w' haa hJ hd K hK
          refine ob_guarded (v := vs 2) rfl rfl (ev_of haa (by kernel_rfl)) (hd.1 rfl) ?_
          refine ob_move _ (v := .int .i64 ((J0 : Int))) rfl (ev_of haa (by kernel_rfl)) ?_
          refine hK _ _ ?_ (World.grownBy.refl _ _) hJ
          show (IntIn ((J0 : Int)) ((J0 : Int))) w' _
          exact ⟨_, rfl, Int.le_refl _, Int.le_refl _⟩
        · intro n vs aa w' haa hJ hd K hK
          refine ob_guarded (v := vs 2) rfl rfl (ev_of haa (by kernel_rfl)) (hd.1 rfl) ?_
          refine ob_move _ (v := .int .i64 (((J0 : Int) / 3))) rfl (ev_of haa (by kernel_rfl)) ?_
          refine hK _ _ ?_ (World.grownBy.refl _ _) hJ
          show (IntIn (((J0 : Int) / 3)) (((J0 : Int) / 3))) w' _
          exact ⟨_, rfl, Int.le_refl _, Int.le_refl _⟩
        · intro n vs aa w' haa hJ hd K hK
          refine ob_guarded (v := vs 2) rfl rfl (ev_of haa (by kernel_rfl)) (hd.2.2.1 rfl) ?_
          have d6 : (IntIn ((J0 : Int)) ((J0 : Int))) w' (vs 6) := hd.1 rfl
          obtain ⟨x6, e6, l6, u6⟩ := d6
          have d7 : (IntIn (((J0 : Int) / 3)) (((J0 : Int) / 3))) w' (vs 7) := hd.2.1 rfl
          obtain ⟨x7, e7, l7, u7⟩ := d7
          refine ob_sub _ _ (u := x6) (v := x7) rfl (Eq.trans (b := vs 6) (ev_of haa (by kernel_rfl)) e6) (Eq.trans (b := vs 7) (ev_of haa (by kernel_rfl)) e7) (by omega) ?_
          refine hK _ _ ?_ (World.grownBy.refl _ _) hJ
          show (IntIn ((J0 : Int) - (((J0 : Int) / 3))) ((J0 : Int) - (((J0 : Int) / 3)))) w' _
          exact ⟨_, rfl, by omega, by omega⟩
        · intro n vs aa w' haa hJ hd K hK
          refine ob_guarded (v := vs 2) rfl rfl (ev_of haa (by kernel_rfl)) (hd.2.2.2.1 rfl) ?_
          have d5 : (IsVal ((M).val)) w' (vs 5) := hd.1 rfl
          have d8 : (IntIn ((J0 : Int) - (((J0 : Int) / 3))) ((J0 : Int) - (((J0 : Int) / 3)))) w' (vs 8) := hd.2.1 rfl
          refine ob_call 16 _ _ #[vs 5, vs 8] rfl (evs_of haa (by kernel_rfl)) (fun _ _ => by kernel_rfl) ?_
          refine (pc2 hs2.out d5 d8).mono ?_
          rintro e w2 ⟨v, rfl, hv, hb2⟩
          refine ⟨_, rfl, ?_⟩
          refine hK _ _ ?_ (grown_of_below hb2 _) (below_step hJ hb2 hJ.size)
          show (IsVal ((R).val)) w2 _
          exact hv
        · intro n vs aa w' haa hJ hd K hK
          refine ob_guarded (v := vs 2) rfl rfl (ev_of haa (by kernel_rfl)) (hd.1 rfl) ?_
          have hbv := (hbr0).below hJ
          refine ob_loadV _ (b := br) (u := R) rfl (ev_of haa (by kernel_rfl)) hbv ?_
          refine hK _ _ ?_ (World.grownBy.refl _ _) hJ
          show (IsVal ((R).val)) w' _
          exact rfl
        · intro n vs aa w' haa hJ hd K hK
          refine ob_guarded (v := vs 2) rfl rfl (ev_of haa (by kernel_rfl)) (hd.2.2.1 rfl) ?_
          have d9 : (IsVal ((R).val)) w' (vs 9) := hd.1 rfl
          have e9 := d9
          have d10 : (IsVal ((R).val)) w' (vs 10) := hd.2.1 rfl
          have e10 := d10
          refine ob_eqlV _ _ (u := R) rfl (Eq.trans (b := vs 9) (ev_of haa (by kernel_rfl)) e9) (Eq.trans (b := vs 10) (ev_of haa (by kernel_rfl)) e10) ?_
          refine hK _ _ ?_ (World.grownBy.refl _ _) hJ
          show (IsVal (.bool true)) w' _
          exact rfl
        · intro n vs aa w' haa hJ hd K hK
          refine ob_plain rfl ?_
          have d2 : (IsVal (.bool true)) w' (vs 2) := hd.1 rfl
          have e2 := d2
          have d11 : (IsVal (.bool true)) w' (vs 11) := hd.2.1 rfl
          have e11 := d11
          refine ob_pickT _ _ _ (v := .bool true) rfl (Eq.trans (b := vs 2) (ev_of haa (by kernel_rfl)) e2) (Eq.trans (b := vs 11) (ev_of haa (by kernel_rfl)) e11) ?_
          refine hK _ _ ?_ (World.grownBy.refl _ _) hJ
          show (IsVal (.bool true)) w' _
          exact rfl
        · intro n vs aa w' haa hJ hd K hK
          refine ob_plain rfl ?_
          have d12 : (IsVal (.bool true)) w' (vs 12) := hd.1 rfl
          refine ob_assign _ (v := vs 12) rfl (ev_of haa (by kernel_rfl)) ?_
          refine hK _ _ ?_ (World.grownBy.refl _ _) hJ
          show (IsVal (.bool true)) w' _
          exact d12
      intro vs w' hJ hall
      have hx : vs 12 = .bool true := hall 12 (by decide)
      have hy : vs 13 = .bool true := hall 13 (by decide)
      clear hall
      replace hE := Lib.hid (hE.out.below hJ)
      clear hJ
      simp only [List.take_succ_cons, List.take_zero, List.drop_succ_cons, List.drop_zero, fill, Act.put, List.toList_toArray, List.setIfInBounds_toArray, List.set_cons_zero, List.set_cons_succ, Nat.zero_add, Nat.reduceAdd, hx, hy]
      go_wp2_with fail
      go_ret
      exact ⟨rfl, HB.out.trans (hE.out.bel.mono hw1)⟩
    · have h5 : ¬ (J0 : Int) ≤ 400 := by omega
      go_wp2_with fail
      obtain ⟨⟨y0, y1, y2, y3, y4⟩, yl⟩ := own_box5 (hE.out.own 0 rfl)
      obtain ⟨⟨x0, x1, x2, x3, x4⟩, xl⟩ := own_box5 (hE.out.own 1 rfl)
      have hbu0 : HasV w4 bu u := hE.out.own 1 rfl
      have hbr0 : HasV w4 br R := hE.out.own 0 rfl
      clear x0 x1 x2 x3 x4 xl y0 y1 y2 y3 y4 yl
      have hs3 := Lib.hid (fun W => (voiceValid_impl R W).mono fun e w' h => (by rw [hRv.out] at h; exact h : e = .returned (.bool true) ∧ Below W.heap.size W w'))
      have k0 : 0 ≤ (J0 : Int) / 3 ∧ (J0 : Int) / 3 ≤ (J0 : Int) := by omega
      refine region_list none (IsVal ((R).val) :: IsVal (.bool true) :: IsVal (.bool true) :: IsVal ((u).val) :: IntIn (((J0 : Int) / 3)) (((J0 : Int) / 3)) :: IsVal ((M).val) :: IntIn ((J0 : Int)) ((J0 : Int)) :: IntIn (((J0 : Int) / 3)) (((J0 : Int) / 3)) :: IntIn ((J0 : Int) - (((J0 : Int) / 3))) ((J0 : Int) - (((J0 : Int) / 3))) :: IsVal ((R).val) :: IsVal ((R).val) :: IsVal (.bool true) :: IsVal (.bool true) :: IsVal (.bool true) :: []) (fun _ w' => Below (w4).heap.size (w4) w') ?_ ?_ ?_ ?_ ?_ ?_ ?_
      · kernel_rfl
      · exact ⟨(fun _ _ _ _ h => h), (fun _ _ _ _ h => h), (fun _ _ _ _ h => h), (fun _ _ _ _ h => h), (fun _ _ _ _ h => h), (fun _ _ _ _ h => h), (fun _ _ _ _ h => h), (fun _ _ _ _ h => h), (fun _ _ _ _ h => h), (fun _ _ _ _ h => h), (fun _ _ _ _ h => h), (fun _ _ _ _ h => h), (fun _ _ _ _ h => h), (fun _ _ _ _ h => h), trivial⟩
      · exact of_decide_eq_true (by kernel_rfl)
      · kernel_rfl
      · exact (Below.refl _ _).drew
      · refine each_cons ?_ (each_cons ?_ (each_cons ?_ (each_cons ?_ (each_cons ?_ (each_cons ?_ (each_cons ?_ (each_cons ?_ (each_cons ?_ (each_cons ?_ (each_cons ?_ (each_cons ?_ (each_cons ?_ (each_cons ?_ ( trivial))))))))))))))
        · intro n vs aa w' haa hJ hd K hK
          refine ob_plain rfl ?_
          have hbv := (hbr0).below hJ
          refine ob_loadV _ (b := br) (u := R) rfl (ev_of haa (by kernel_rfl)) hbv ?_
          refine hK _ _ ?_ (World.grownBy.refl _ _) hJ
          show (IsVal ((R).val)) w' _
          exact rfl
        · intro n vs aa w' haa hJ hd K hK
          refine ob_plain rfl ?_
          have d0 : (IsVal ((R).val)) w' (vs 0) := hd.1 rfl
          refine ob_call 21 _ _ #[vs 0] rfl (evs_of haa (by kernel_rfl)) (fun _ _ => by kernel_rfl) ?_
          refine (pc1 hs3.out d0).mono ?_
          rintro e w2 ⟨v, rfl, hv, hb2⟩
          refine ⟨_, rfl, ?_⟩
          refine hK _ _ ?_ (grown_of_below hb2 _) (below_step hJ hb2 hJ.size)
          show (IsVal (.bool true)) w2 _
          exact hv
        · intro n vs aa w' haa hJ hd K hK
          refine ob_plain rfl ?_
          have d1 : (IsVal (.bool true)) w' (vs 1) := hd.1 rfl
          refine ob_move _ (v := vs 1) rfl (ev_of haa (by kernel_rfl)) ?_
          refine hK _ _ ?_ (World.grownBy.refl _ _) hJ
          show (IsVal (.bool true)) w' _
          exact d1
        · intro n vs aa w' haa hJ hd K hK
          refine ob_guarded (v := vs 2) rfl rfl (ev_of haa (by kernel_rfl)) (hd.1 rfl) ?_
          have hbv := (hbu0).below hJ
          refine ob_loadV _ (b := bu) (u := u) rfl (ev_of haa (by kernel_rfl)) hbv ?_
          refine hK _ _ ?_ (World.grownBy.refl _ _) hJ
          show (IsVal ((u).val)) w' _
          exact rfl
        · intro n vs aa w' haa hJ hd K hK
          refine ob_guarded (v := vs 2) rfl rfl (ev_of haa (by kernel_rfl)) (hd.1 rfl) ?_
          refine ob_move _ (v := .int .i64 (((J0 : Int) / 3))) rfl (ev_of haa (by kernel_rfl)) ?_
          refine hK _ _ ?_ (World.grownBy.refl _ _) hJ
          show (IntIn (((J0 : Int) / 3)) (((J0 : Int) / 3))) w' _
          exact ⟨_, rfl, Int.le_refl _, Int.le_refl _⟩
        · intro n vs aa w' haa hJ hd K hK
          refine ob_guarded (v := vs 2) rfl rfl (ev_of haa (by kernel_rfl)) (hd.2.2.1 rfl) ?_
          have d3 : (IsVal ((u).val)) w' (vs 3) := hd.1 rfl
          have d4 : (IntIn (((J0 : Int) / 3)) (((J0 : Int) / 3))) w' (vs 4) := hd.2.1 rfl
          refine ob_call 16 _ _ #[vs 3, vs 4] rfl (evs_of haa (by kernel_rfl)) (fun _ _ => by kernel_rfl) ?_
          refine (pc2 hs1.out d3 d4).mono ?_
          rintro e w2 ⟨v, rfl, hv, hb2⟩
          refine ⟨_, rfl, ?_⟩
          refine hK _ _ ?_ (grown_of_below hb2 _) (below_step hJ hb2 hJ.size)
          show (IsVal ((M).val)) w2 _
          exact hv
        · intro n vs aa w' haa hJ hd K hK
          refine ob_guarded (v := vs 2) rfl rfl (ev_of haa (by kernel_rfl)) (hd.1 rfl) ?_
          refine ob_move _ (v := .int .i64 ((J0 : Int))) rfl (ev_of haa (by kernel_rfl)) ?_
          refine hK _ _ ?_ (World.grownBy.refl _ _) hJ
          show (IntIn ((J0 : Int)) ((J0 : Int))) w' _
          exact ⟨_, rfl, Int.le_refl _, Int.le_refl _⟩
        · intro n vs aa w' haa hJ hd K hK
          refine ob_guarded (v := vs 2) rfl rfl (ev_of haa (by kernel_rfl)) (hd.1 rfl) ?_
          refine ob_move _ (v := .int .i64 (((J0 : Int) / 3))) rfl (ev_of haa (by kernel_rfl)) ?_
          refine hK _ _ ?_ (World.grownBy.refl _ _) hJ
          show (IntIn (((J0 : Int) / 3)) (((J0 : Int) / 3))) w' _
          exact ⟨_, rfl, Int.le_refl _, Int.le_refl _⟩
        · intro n vs aa w' haa hJ hd K hK
          refine ob_guarded (v := vs 2) rfl rfl (ev_of haa (by kernel_rfl)) (hd.2.2.1 rfl) ?_
          have d6 : (IntIn ((J0 : Int)) ((J0 : Int))) w' (vs 6) := hd.1 rfl
          obtain ⟨x6, e6, l6, u6⟩ := d6
          have d7 : (IntIn (((J0 : Int) / 3)) (((J0 : Int) / 3))) w' (vs 7) := hd.2.1 rfl
          obtain ⟨x7, e7, l7, u7⟩ := d7
          refine ob_sub _ _ (u := x6) (v := x7) rfl (Eq.trans (b := vs 6) (ev_of haa (by kernel_rfl)) e6) (Eq.trans (b := vs 7) (ev_of haa (by kernel_rfl)) e7) (by omega) ?_
          refine hK _ _ ?_ (World.grownBy.refl _ _) hJ
          show (IntIn ((J0 : Int) - (((J0 : Int) / 3))) ((J0 : Int) - (((J0 : Int) / 3)))) w' _
          exact ⟨_, rfl, by omega, by omega⟩
        · intro n vs aa w' haa hJ hd K hK
          refine ob_guarded (v := vs 2) rfl rfl (ev_of haa (by kernel_rfl)) (hd.2.2.2.1 rfl) ?_
          have d5 : (IsVal ((M).val)) w' (vs 5) := hd.1 rfl
          have d8 : (IntIn ((J0 : Int) - (((J0 : Int) / 3))) ((J0 : Int) - (((J0 : Int) / 3)))) w' (vs 8) := hd.2.1 rfl
          refine ob_call 16 _ _ #[vs 5, vs 8] rfl (evs_of haa (by kernel_rfl)) (fun _ _ => by kernel_rfl) ?_
          refine (pc2 hs2.out d5 d8).mono ?_
          rintro e w2 ⟨v, rfl, hv, hb2⟩
          refine ⟨_, rfl, ?_⟩
          refine hK _ _ ?_ (grown_of_below hb2 _) (below_step hJ hb2 hJ.size)
          show (IsVal ((R).val)) w2 _
          exact hv
        · intro n vs aa w' haa hJ hd K hK
          refine ob_guarded (v := vs 2) rfl rfl (ev_of haa (by kernel_rfl)) (hd.1 rfl) ?_
          have hbv := (hbr0).below hJ
          refine ob_loadV _ (b := br) (u := R) rfl (ev_of haa (by kernel_rfl)) hbv ?_
          refine hK _ _ ?_ (World.grownBy.refl _ _) hJ
          show (IsVal ((R).val)) w' _
          exact rfl
        · intro n vs aa w' haa hJ hd K hK
          refine ob_guarded (v := vs 2) rfl rfl (ev_of haa (by kernel_rfl)) (hd.2.2.1 rfl) ?_
          have d9 : (IsVal ((R).val)) w' (vs 9) := hd.1 rfl
          have e9 := d9
          have d10 : (IsVal ((R).val)) w' (vs 10) := hd.2.1 rfl
          have e10 := d10
          refine ob_eqlV _ _ (u := R) rfl (Eq.trans (b := vs 9) (ev_of haa (by kernel_rfl)) e9) (Eq.trans (b := vs 10) (ev_of haa (by kernel_rfl)) e10) ?_
          refine hK _ _ ?_ (World.grownBy.refl _ _) hJ
          show (IsVal (.bool true)) w' _
          exact rfl
        · intro n vs aa w' haa hJ hd K hK
          refine ob_plain rfl ?_
          have d2 : (IsVal (.bool true)) w' (vs 2) := hd.1 rfl
          have e2 := d2
          have d11 : (IsVal (.bool true)) w' (vs 11) := hd.2.1 rfl
          have e11 := d11
          refine ob_pickT _ _ _ (v := .bool true) rfl (Eq.trans (b := vs 2) (ev_of haa (by kernel_rfl)) e2) (Eq.trans (b := vs 11) (ev_of haa (by kernel_rfl)) e11) ?_
          refine hK _ _ ?_ (World.grownBy.refl _ _) hJ
          show (IsVal (.bool true)) w' _
          exact rfl
        · intro n vs aa w' haa hJ hd K hK
          refine ob_plain rfl ?_
          have d12 : (IsVal (.bool true)) w' (vs 12) := hd.1 rfl
          refine ob_assign _ (v := vs 12) rfl (ev_of haa (by kernel_rfl)) ?_
          refine hK _ _ ?_ (World.grownBy.refl _ _) hJ
          show (IsVal (.bool true)) w' _
          exact d12
      intro vs w' hJ hall
      have hx : vs 12 = .bool true := hall 12 (by decide)
      have hy : vs 13 = .bool true := hall 13 (by decide)
      clear hall
      replace hE := Lib.hid (hE.out.below hJ)
      clear hJ
      simp only [List.take_succ_cons, List.take_zero, List.drop_succ_cons, List.drop_zero, fill, Act.put, List.toList_toArray, List.setIfInBounds_toArray, List.set_cons_zero, List.set_cons_succ, Nat.zero_add, Nat.reduceAdd, hx, hy]
      go_wp2_with fail
      go_ret
      exact ⟨rfl, HB.out.trans (hE.out.bel.mono hw1)⟩
end Go.Proofs.Ytmenehgbhgehjaa
