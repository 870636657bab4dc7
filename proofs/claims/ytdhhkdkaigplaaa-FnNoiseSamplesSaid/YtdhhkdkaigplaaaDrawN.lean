/-
  What the statements draw for the noise generator: contracts. No condition.
-/
import Derived.Test.YtdhhkdkaigplaaaPick
import Derived.Test.YtdhhkdkaigplaaaNoise
import Derived.Deep.Cut
namespace Go.Proofs.Ytdhhkdkaigplaaa
open Go.RowKit
set_option linter.unusedVariables false
set_option linter.unusedSimpArgs false
/-- What a drawing function comes to: its value meets Pr; the reader has moved by at most c. -/
def Draws (g : Nat) (A : Option Addr) (len cap p c : Nat) (w : World) (Pr : World → Value → Prop) (e : Ending) (w' : World) : Prop :=
  ∃ v, e = .returned v ∧ Pr w' v ∧ w.grownBy w' (some g) ∧ ∃ p', p' ≤ p + c ∧ Rd w' g A len cap p'
/-- A drawn number. -/
def DrawsInt (lo hi : Int) (w : World) (e : Ending) (w' : World) : Prop := ∃ x : Int, e = .returned (.int .i64 x) ∧ lo ≤ x ∧ x ≤ hi ∧ Below w.heap.size w w'
/-- Two drawn numbers. -/
def DrawsInt2 (lo hi lo2 hi2 : Int) (w : World) (e : Ending) (w' : World) : Prop :=
  ∃ x y : Int, e = .returned (.tuple #[.int .i64 x, .int .i64 y]) ∧ lo ≤ x ∧ x ≤ hi ∧ lo2 ≤ y ∧ y ≤ hi2 ∧ Below w.heap.size w w'
def DrawsInt3 (lo hi lo2 hi2 lo3 hi3 : Int) (w : World) (e : Ending) (w' : World) : Prop :=
  ∃ x y z : Int, e = .returned (.tuple #[.int .i64 x, .int .i64 y, .int .i64 z]) ∧ lo ≤ x ∧ x ≤ hi ∧ lo2 ≤ y ∧ y ≤ hi2 ∧ lo3 ≤ z ∧ z ≤ hi3 ∧ Below w.heap.size w w'
theorem below_rd {w w1 w2 : World} (hb : Below w.heap.size w w1) (hg : w1.grownBy w2 (some w.heap.size)) : Below w.heap.size w w2 :=
  hb.trans (below_of_grown hg hb.size (by intro k hk; injection hk with hk; omega))
set_option maxRecDepth 100000 in
set_option maxHeartbeats 1000000 in
theorem l20Noise_any (g : Nat) (A : Option Addr) (len cap p : Nat) (w : World) (hR : Rd w g A len cap p) (hp : p ≤ 900000000) :
    Calls Try.prog 44 #[.pointer (some ⟨g, 0, none⟩)] w (Draws g A len cap p 13 w (IntIn 0 32768)) := by
  have H := Lib.hid hR
  clear hR
  go_enter Try.func44, Try.ntmps44
  go_upto_region 1 with (fail)
  have hR := H.out
  refine region_list0 (some g) (IsPtr g :: IntIn (0) (255) :: IntIn (0) (32385) :: IntIn (1) (32386) :: ArrIn g 5 (0) (32768) :: ArrIn g 9 (0) (4) :: IsPtr g :: IntIn (0) (8) :: ElAt g (0) (4) :: IntIn (0) (4) :: ElAt g (0) (32768) :: IntIn (0) (32768) :: IntIn (0) (32768) :: []) (fun n w' => World.grownBy w w' (some g) ∧ ∃ p' : Nat, p' + 1 * n ≤ p + 13 ∧ Rd w' g A len cap p') ?_ ?_ ?_ ?_ ?_ ?_
  · exact ⟨st_ptr _ _, st_int _ _ _, st_int _ _ _, st_int _ _ _, st_arr _ _ _ _, st_arr _ _ _ _, st_ptr _ _, st_int _ _ _, st_el _ _ _, st_int _ _ _, st_el _ _ _, st_int _ _ _, st_int _ _ _, trivial⟩
  · exact of_decide_eq_true (by kernel_rfl)
  · kernel_rfl
  · exact ⟨World.grownBy.refl _ _, p, by simp, hR⟩
  · refine each_cons ?_ (each_cons ?_ (each_cons ?_ (each_cons ?_ (each_cons ?_ (each_cons ?_ (each_cons ?_ (each_cons ?_ (each_cons ?_ (each_cons ?_ (each_cons ?_ (each_cons ?_ (each_cons ?_ ( trivial)))))))))))))
    · intro n vs aa w' haa hJ hd K hK
      refine ob_plain rfl ?_
      refine ob_move _ (v := .pointer (some ⟨g, 0, none⟩)) rfl (ev_of haa (by kernel_rfl)) ?_
      refine hK _ _ ?_ (World.grownBy.refl _ _) ⟨hJ.1, by obtain ⟨p', h1, h2⟩ := hJ.2; exact ⟨p', by omega, h2⟩⟩
      show (IsPtr g) w' _
      exact rfl
    · intro n vs aa w' haa hJ hd K hK
      refine ob_plain rfl ?_
      have d0 : (IsPtr g) w' (vs 0) := hd.1 rfl
      have e0 := d0
      obtain ⟨hg', p', hp', hr'⟩ := hJ
      refine ob_call 42 _ _ #[.pointer (some ⟨g, 0, none⟩), .int .i64 (256)] rfl (Eq.trans (b := #[vs 0, .int .i64 (256)]) (evs_of haa (by kernel_rfl)) (by rw [e0])) (fun _ _ => by kernel_rfl) ?_
      refine (pick_any g A len cap p' (256) _ hr' (by omega) (by omega) (by omega)).mono ?_
      rintro e w2 ⟨x, rfl, x0, x1, hr2, hg2⟩
      refine ⟨_, rfl, ?_⟩
      refine hK _ _ ?_ hg2 ⟨hg'.trans hg2, p' + 1, by omega, hr2⟩
      show (IntIn (0) (255)) w' _
      exact ⟨x, rfl, x0, by omega⟩
    · intro n vs aa w' haa hJ hd K hK
      refine ob_plain rfl ?_
      have d1 : (IntIn (0) (255)) w' (vs 1) := hd.1 rfl
      obtain ⟨x1, e1, l1, u1⟩ := d1
      refine ob_mul _ _ (u := x1) (v := (127)) rfl (Eq.trans (b := vs 1) (ev_of haa (by kernel_rfl)) e1) (ev_of haa (by kernel_rfl)) (by omega) ?_
      refine hK _ _ ?_ (World.grownBy.refl _ _) ⟨hJ.1, by obtain ⟨p', h1, h2⟩ := hJ.2; exact ⟨p', by omega, h2⟩⟩
      show (IntIn (0) (32385)) w' _
      exact ⟨_, rfl, by omega, by omega⟩
    · intro n vs aa w' haa hJ hd K hK
      refine ob_plain rfl ?_
      have d2 : (IntIn (0) (32385)) w' (vs 2) := hd.1 rfl
      obtain ⟨x2, e2, l2, u2⟩ := d2
      refine ob_add _ _ (u := (1)) (v := x2) rfl (ev_of haa (by kernel_rfl)) (Eq.trans (b := vs 2) (ev_of haa (by kernel_rfl)) e2) (by omega) ?_
      refine hK _ _ ?_ (World.grownBy.refl _ _) ⟨hJ.1, by obtain ⟨p', h1, h2⟩ := hJ.2; exact ⟨p', by omega, h2⟩⟩
      show (IntIn (1) (32386)) w' _
      exact ⟨_, rfl, by omega, by omega⟩
    · intro n vs aa w' haa hJ hd K hK
      refine ob_plain rfl ?_
      have d3 : (IntIn (1) (32386)) w' (vs 3) := hd.1 rfl
      obtain ⟨x3, e3, l3, u3⟩ := d3
      refine ob_build5 _ _ _ _ _ (u0 := x3) (u1 := (1)) (u2 := (32767)) (u3 := (0)) (u4 := (32768)) rfl (Eq.trans (b := vs 3) (ev_of haa (by kernel_rfl)) e3) (ev_of haa (by kernel_rfl)) (ev_of haa (by kernel_rfl)) (ev_of haa (by kernel_rfl)) (ev_of haa (by kernel_rfl)) ?_
      refine hK _ _ ⟨_, rfl, Nat.ne_of_gt hJ.2.choose_spec.2.lt, by simp, fun k hk => ?_⟩ (World.grownBy_alloc _ _ _) ⟨hJ.1.trans (World.grownBy_alloc _ _ _), by obtain ⟨p', h1, h2⟩ := hJ.2; exact ⟨p', by omega, h2.alloc _⟩⟩
      match k, hk with
      | 0, _ => exact ⟨x3, by simp [go_sem], by omega, by omega⟩
      | 1, _ => exact ⟨(1), by simp [go_sem], by omega, by omega⟩
      | 2, _ => exact ⟨(32767), by simp [go_sem], by omega, by omega⟩
      | 3, _ => exact ⟨(0), by simp [go_sem], by omega, by omega⟩
      | 4, _ => exact ⟨(32768), by simp [go_sem], by omega, by omega⟩
    · intro n vs aa w' haa hJ hd K hK
      refine ob_plain rfl ?_
      refine ob_build9 _ _ _ _ _ _ _ _ _ (u0 := (0)) (u1 := (0)) (u2 := (0)) (u3 := (0)) (u4 := (0)) (u5 := (1)) (u6 := (2)) (u7 := (3)) (u8 := (4)) rfl (ev_of haa (by kernel_rfl)) (ev_of haa (by kernel_rfl)) (ev_of haa (by kernel_rfl)) (ev_of haa (by kernel_rfl)) (ev_of haa (by kernel_rfl)) (ev_of haa (by kernel_rfl)) (ev_of haa (by kernel_rfl)) (ev_of haa (by kernel_rfl)) (ev_of haa (by kernel_rfl)) ?_
      refine hK _ _ ⟨_, rfl, Nat.ne_of_gt hJ.2.choose_spec.2.lt, by simp, fun k hk => ?_⟩ (World.grownBy_alloc _ _ _) ⟨hJ.1.trans (World.grownBy_alloc _ _ _), by obtain ⟨p', h1, h2⟩ := hJ.2; exact ⟨p', by omega, h2.alloc _⟩⟩
      match k, hk with
      | 0, _ => exact ⟨(0), by simp [go_sem], by omega, by omega⟩
      | 1, _ => exact ⟨(0), by simp [go_sem], by omega, by omega⟩
      | 2, _ => exact ⟨(0), by simp [go_sem], by omega, by omega⟩
      | 3, _ => exact ⟨(0), by simp [go_sem], by omega, by omega⟩
      | 4, _ => exact ⟨(0), by simp [go_sem], by omega, by omega⟩
      | 5, _ => exact ⟨(1), by simp [go_sem], by omega, by omega⟩
      | 6, _ => exact ⟨(2), by simp [go_sem], by omega, by omega⟩
      | 7, _ => exact ⟨(3), by simp [go_sem], by omega, by omega⟩
      | 8, _ => exact ⟨(4), by simp [go_sem], by omega, by omega⟩
    · intro n vs aa w' haa hJ hd K hK
      refine ob_plain rfl ?_
      refine ob_move _ (v := .pointer (some ⟨g, 0, none⟩)) rfl (ev_of haa (by kernel_rfl)) ?_
      refine hK _ _ ?_ (World.grownBy.refl _ _) ⟨hJ.1, by obtain ⟨p', h1, h2⟩ := hJ.2; exact ⟨p', by omega, h2⟩⟩
      show (IsPtr g) w' _
      exact rfl
    · intro n vs aa w' haa hJ hd K hK
      refine ob_plain rfl ?_
      have d6 : (IsPtr g) w' (vs 6) := hd.1 rfl
      have e6 := d6
      obtain ⟨hg', p', hp', hr'⟩ := hJ
      refine ob_call 42 _ _ #[.pointer (some ⟨g, 0, none⟩), .int .i64 (9)] rfl (Eq.trans (b := #[vs 6, .int .i64 (9)]) (evs_of haa (by kernel_rfl)) (by rw [e6])) (fun _ _ => by kernel_rfl) ?_
      refine (pick_any g A len cap p' (9) _ hr' (by omega) (by omega) (by omega)).mono ?_
      rintro e w2 ⟨x, rfl, x0, x1, hr2, hg2⟩
      refine ⟨_, rfl, ?_⟩
      refine hK _ _ ?_ hg2 ⟨hg'.trans hg2, p' + 1, by omega, hr2⟩
      show (IntIn (0) (8)) w' _
      exact ⟨x, rfl, x0, by omega⟩
    · intro n vs aa w' haa hJ hd K hK
      refine ob_plain rfl ?_
      have d5 : (ArrIn g 9 (0) (4)) w' (vs 5) := hd.1 rfl
      obtain ⟨b5, e5, n5, z5, c5⟩ := d5
      have d7 : (IntIn (0) (8)) w' (vs 7) := hd.2.1 rfl
      obtain ⟨x7, e7, l7, u7⟩ := d7
      refine ob_index _ _ _ (by simp) (u := x7) rfl (Eq.trans (b := vs 5) (ev_of haa (by kernel_rfl)) e5) (Eq.trans (b := vs 7) (ev_of haa (by kernel_rfl)) e7) (by omega) (by omega) ?_
      obtain ⟨y, hy, y0, y1⟩ := c5 x7.toNat (by omega)
      refine hK _ _ ?_ (World.grownBy.refl _ _) ⟨hJ.1, by obtain ⟨p', h1, h2⟩ := hJ.2; exact ⟨p', by omega, h2⟩⟩
      show (ElAt g (0) (4)) w' _
      exact ⟨b5, _, rfl, n5, z5, y, by rw [Nat.zero_add]; exact hy, y0, y1⟩
    · intro n vs aa w' haa hJ hd K hK
      refine ob_plain rfl ?_
      have d8 : (ElAt g (0) (4)) w' (vs 8) := hd.1 rfl
      obtain ⟨b8, j8, e8, n8, z8, x8, c8, l8, u8⟩ := d8
      refine ob_load _ _ (by simp) rfl (Eq.trans (b := vs 8) (ev_of haa (by kernel_rfl)) e8) c8 ?_
      refine hK _ _ ?_ (World.grownBy.refl _ _) ⟨hJ.1, by obtain ⟨p', h1, h2⟩ := hJ.2; exact ⟨p', by omega, h2⟩⟩
      show (IntIn (0) (4)) w' _
      exact ⟨_, rfl, l8, u8⟩
    · intro n vs aa w' haa hJ hd K hK
      refine ob_plain rfl ?_
      have d4 : (ArrIn g 5 (0) (32768)) w' (vs 4) := hd.1 rfl
      obtain ⟨b4, e4, n4, z4, c4⟩ := d4
      have d9 : (IntIn (0) (4)) w' (vs 9) := hd.2.1 rfl
      obtain ⟨x9, e9, l9, u9⟩ := d9
      refine ob_index _ _ _ (by simp) (u := x9) rfl (Eq.trans (b := vs 4) (ev_of haa (by kernel_rfl)) e4) (Eq.trans (b := vs 9) (ev_of haa (by kernel_rfl)) e9) (by omega) (by omega) ?_
      obtain ⟨y, hy, y0, y1⟩ := c4 x9.toNat (by omega)
      refine hK _ _ ?_ (World.grownBy.refl _ _) ⟨hJ.1, by obtain ⟨p', h1, h2⟩ := hJ.2; exact ⟨p', by omega, h2⟩⟩
      show (ElAt g (0) (32768)) w' _
      exact ⟨b4, _, rfl, n4, z4, y, by rw [Nat.zero_add]; exact hy, y0, y1⟩
    · intro n vs aa w' haa hJ hd K hK
      refine ob_plain rfl ?_
      have d10 : (ElAt g (0) (32768)) w' (vs 10) := hd.1 rfl
      obtain ⟨b10, j10, e10, n10, z10, x10, c10, l10, u10⟩ := d10
      refine ob_load _ _ (by simp) rfl (Eq.trans (b := vs 10) (ev_of haa (by kernel_rfl)) e10) c10 ?_
      refine hK _ _ ?_ (World.grownBy.refl _ _) ⟨hJ.1, by obtain ⟨p', h1, h2⟩ := hJ.2; exact ⟨p', by omega, h2⟩⟩
      show (IntIn (0) (32768)) w' _
      exact ⟨_, rfl, l10, u10⟩
    · intro n vs aa w' haa hJ hd K hK
      refine ob_plain rfl ?_
      have d11 : (IntIn (0) (32768)) w' (vs 11) := hd.1 rfl
      refine ob_assign _ (v := vs 11) rfl (ev_of haa (by kernel_rfl)) ?_
      refine hK _ _ ?_ (World.grownBy.refl _ _) ⟨hJ.1, by obtain ⟨p', h1, h2⟩ := hJ.2; exact ⟨p', by omega, h2⟩⟩
      show (IntIn (0) (32768)) w' _
      exact d11
  intro vs w' hJ hall
  obtain ⟨x, hx, x0, x1⟩ : IntIn 0 32768 w' (vs 12) := hall 12 (by decide)
  clear hall
  obtain ⟨hg, p', hp', hr'⟩ := hJ
  have HR := Lib.hid hr'
  have HG := Lib.hid hg
  clear hr' hg hR
  simp only [fill, Act.put, List.toList_toArray, List.setIfInBounds_toArray, List.set_cons_zero, List.set_cons_succ, Nat.zero_add, Nat.reduceAdd, hx]
  go_wp2_with fail
  go_ret
  exact ⟨_, rfl, ⟨x, rfl, x0, x1⟩, HG.out, p', by omega, HR.out⟩
set_option maxHeartbeats 1000000 in
theorem drawNextNoise_any (A : Option Addr) (n c : Nat) (zs : List Int) (w : World) (h : IsRow .u8 w A n c zs) :
    Calls Try.prog 26 #[.slice A n c] w (DrawsInt 0 32768 w) := by
  have HI := Lib.hid h
  clear h
  go_enter Try.func26, Try.ntmps26
  go_wp2_with fail
  refine (open_any A n c zs _ HI.out).mono ?_
  rintro e w1 ⟨len, cap, rfl, hR, hb1⟩
  obtain ⟨g, hg0⟩ : ∃ g, g = w.heap.size := ⟨_, rfl⟩
  rw [← hg0] at hR ⊢
  replace hR := Lib.hid hR
  replace hb1 := Lib.hid hb1
  replace hg0 := Lib.hid hg0
  go_wp2_with fail
  refine (l20Noise_any g A len cap 0 _ hR.out (by omega)).mono ?_
  rintro e w2 ⟨v, rfl, ⟨x, rfl, x0, x1⟩, hg, p', hp', hr'⟩
  have HG := Lib.hid hg
  clear hg hr'
  go_wp2_with fail
  go_ret
  exact ⟨x, rfl, x0, x1, below_rd hb1.out (by rw [← hg0.out]; exact HG.out)⟩
set_option maxRecDepth 100000 in
set_option maxHeartbeats 2000000 in
theorem drawFadeVolume_any (A : Option Addr) (n c : Nat) (zs : List Int) (w : World) (h : IsRow .u8 w A n c zs) :
    Calls Try.prog 24 #[.slice A n c] w (DrawsInt3 (-1) 16 (-1) 1001 0 101 w) := by
  have HI := Lib.hid h
  clear h
  go_enter Try.func24, Try.ntmps24
  go_wp2_with fail
  refine (open_any A n c zs _ HI.out).mono ?_
  rintro e w1 ⟨len, cap, rfl, hR, hb1⟩
  obtain ⟨g, hg0⟩ : ∃ g, g = w.heap.size := ⟨_, rfl⟩
  rw [← hg0] at hR ⊢
  replace hR := Lib.hid hR
  replace hb1 := Lib.hid hb1
  replace hg0 := Lib.hid hg0
  go_upto_region 2 with (fail)
  obtain ⟨p, hp0⟩ : ∃ p : Nat, p = 0 := ⟨_, rfl⟩
  have hR := hR.out
  rw [← hp0] at hR
  have hp : p ≤ 0 := by omega
  replace hp0 := Lib.hid hp0
  refine region_list (some g) (IsPtr g :: IntIn (0) (17) :: IntIn (-1) (16) :: IsPtr g :: IntIn (0) (59) :: ArrIn g 4 (-1) (1001) :: ArrIn g 7 (0) (3) :: IsPtr g :: IntIn (0) (6) :: ElAt g (0) (3) :: IntIn (0) (3) :: ElAt g (-1) (1001) :: IntIn (-1) (1001) :: IsPtr g :: IntIn (0) (8) :: IntIn (1) (9) :: ArrIn g 4 (0) (101) :: ArrIn g 7 (0) (3) :: IsPtr g :: IntIn (0) (6) :: ElAt g (0) (3) :: IntIn (0) (3) :: ElAt g (0) (101) :: IntIn (0) (101) :: IntIn (-1) (16) :: IntIn (-1) (1001) :: IntIn (0) (101) :: []) (fun n w' => World.grownBy w1 w' (some g) ∧ ∃ p' : Nat, p' + 1 * n ≤ p + 27 ∧ Rd w' g A len cap p') ?_ ?_ ?_ ?_ ?_ ?_ ?_
  · kernel_rfl
  · exact ⟨st_ptr _ _, st_int _ _ _, st_int _ _ _, st_ptr _ _, st_int _ _ _, st_arr _ _ _ _, st_arr _ _ _ _, st_ptr _ _, st_int _ _ _, st_el _ _ _, st_int _ _ _, st_el _ _ _, st_int _ _ _, st_ptr _ _, st_int _ _ _, st_int _ _ _, st_arr _ _ _ _, st_arr _ _ _ _, st_ptr _ _, st_int _ _ _, st_el _ _ _, st_int _ _ _, st_el _ _ _, st_int _ _ _, st_int _ _ _, st_int _ _ _, st_int _ _ _, trivial⟩
  · exact of_decide_eq_true (by kernel_rfl)
  · kernel_rfl
  · exact ⟨grown_drew _ _, p, by simp, hR⟩
  · refine each_cons ?_ (each_cons ?_ (each_cons ?_ (each_cons ?_ (each_cons ?_ (each_cons ?_ (each_cons ?_ (each_cons ?_ (each_cons ?_ (each_cons ?_ (each_cons ?_ (each_cons ?_ (each_cons ?_ (each_cons ?_ (each_cons ?_ (each_cons ?_ (each_cons ?_ (each_cons ?_ (each_cons ?_ (each_cons ?_ (each_cons ?_ (each_cons ?_ (each_cons ?_ (each_cons ?_ (each_cons ?_ (each_cons ?_ (each_cons ?_ ( trivial)))))))))))))))))))))))))))
    · intro n vs aa w' haa hJ hd K hK
      refine ob_plain rfl ?_
      refine ob_move _ (v := .pointer (some ⟨g, 0, none⟩)) rfl (ev_of haa (by kernel_rfl)) ?_
      refine hK _ _ ?_ (World.grownBy.refl _ _) ⟨hJ.1, by obtain ⟨p', h1, h2⟩ := hJ.2; exact ⟨p', by omega, h2⟩⟩
      show (IsPtr g) w' _
      exact rfl
    · intro n vs aa w' haa hJ hd K hK
      refine ob_plain rfl ?_
      have d0 : (IsPtr g) w' (vs 0) := hd.1 rfl
      have e0 := d0
      obtain ⟨hg', p', hp', hr'⟩ := hJ
      refine ob_call 42 _ _ #[.pointer (some ⟨g, 0, none⟩), .int .i64 (18)] rfl (Eq.trans (b := #[vs 0, .int .i64 (18)]) (evs_of haa (by kernel_rfl)) (by rw [e0])) (fun _ _ => by kernel_rfl) ?_
      refine (pick_any g A len cap p' (18) _ hr' (by omega) (by omega) (by omega)).mono ?_
      rintro e w2 ⟨x, rfl, x0, x1, hr2, hg2⟩
      refine ⟨_, rfl, ?_⟩
      refine hK _ _ ?_ hg2 ⟨hg'.trans hg2, p' + 1, by omega, hr2⟩
      show (IntIn (0) (17)) w' _
      exact ⟨x, rfl, x0, by omega⟩
    · intro n vs aa w' haa hJ hd K hK
      refine ob_plain rfl ?_
      have d1 : (IntIn (0) (17)) w' (vs 1) := hd.1 rfl
      obtain ⟨x1, e1, l1, u1⟩ := d1
      refine ob_sub _ _ (u := x1) (v := (1)) rfl (Eq.trans (b := vs 1) (ev_of haa (by kernel_rfl)) e1) (ev_of haa (by kernel_rfl)) (by omega) ?_
      refine hK _ _ ?_ (World.grownBy.refl _ _) ⟨hJ.1, by obtain ⟨p', h1, h2⟩ := hJ.2; exact ⟨p', by omega, h2⟩⟩
      show (IntIn (-1) (16)) w' _
      exact ⟨_, rfl, by omega, by omega⟩
    · intro n vs aa w' haa hJ hd K hK
      refine ob_plain rfl ?_
      refine ob_move _ (v := .pointer (some ⟨g, 0, none⟩)) rfl (ev_of haa (by kernel_rfl)) ?_
      refine hK _ _ ?_ (World.grownBy.refl _ _) ⟨hJ.1, by obtain ⟨p', h1, h2⟩ := hJ.2; exact ⟨p', by omega, h2⟩⟩
      show (IsPtr g) w' _
      exact rfl
    · intro n vs aa w' haa hJ hd K hK
      refine ob_plain rfl ?_
      have d3 : (IsPtr g) w' (vs 3) := hd.1 rfl
      have e3 := d3
      obtain ⟨hg', p', hp', hr'⟩ := hJ
      refine ob_call 42 _ _ #[.pointer (some ⟨g, 0, none⟩), .int .i64 (60)] rfl (Eq.trans (b := #[vs 3, .int .i64 (60)]) (evs_of haa (by kernel_rfl)) (by rw [e3])) (fun _ _ => by kernel_rfl) ?_
      refine (pick_any g A len cap p' (60) _ hr' (by omega) (by omega) (by omega)).mono ?_
      rintro e w2 ⟨x, rfl, x0, x1, hr2, hg2⟩
      refine ⟨_, rfl, ?_⟩
      refine hK _ _ ?_ hg2 ⟨hg'.trans hg2, p' + 1, by omega, hr2⟩
      show (IntIn (0) (59)) w' _
      exact ⟨x, rfl, x0, by omega⟩
    · intro n vs aa w' haa hJ hd K hK
      refine ob_plain rfl ?_
      have d4 : (IntIn (0) (59)) w' (vs 4) := hd.1 rfl
      obtain ⟨x4, e4, l4, u4⟩ := d4
      refine ob_build4 _ _ _ _ (u0 := x4) (u1 := (1000)) (u2 := (1001)) (u3 := (-1)) rfl (Eq.trans (b := vs 4) (ev_of haa (by kernel_rfl)) e4) (ev_of haa (by kernel_rfl)) (ev_of haa (by kernel_rfl)) (ev_of haa (by kernel_rfl)) ?_
      refine hK _ _ ⟨_, rfl, Nat.ne_of_gt hJ.2.choose_spec.2.lt, by simp, fun k hk => ?_⟩ (World.grownBy_alloc _ _ _) ⟨hJ.1.trans (World.grownBy_alloc _ _ _), by obtain ⟨p', h1, h2⟩ := hJ.2; exact ⟨p', by omega, h2.alloc _⟩⟩
      match k, hk with
      | 0, _ => exact ⟨x4, by simp [go_sem], by omega, by omega⟩
      | 1, _ => exact ⟨(1000), by simp [go_sem], by omega, by omega⟩
      | 2, _ => exact ⟨(1001), by simp [go_sem], by omega, by omega⟩
      | 3, _ => exact ⟨(-1), by simp [go_sem], by omega, by omega⟩
    · intro n vs aa w' haa hJ hd K hK
      refine ob_plain rfl ?_
      refine ob_build7 _ _ _ _ _ _ _ (u0 := (0)) (u1 := (0)) (u2 := (0)) (u3 := (0)) (u4 := (1)) (u5 := (2)) (u6 := (3)) rfl (ev_of haa (by kernel_rfl)) (ev_of haa (by kernel_rfl)) (ev_of haa (by kernel_rfl)) (ev_of haa (by kernel_rfl)) (ev_of haa (by kernel_rfl)) (ev_of haa (by kernel_rfl)) (ev_of haa (by kernel_rfl)) ?_
      refine hK _ _ ⟨_, rfl, Nat.ne_of_gt hJ.2.choose_spec.2.lt, by simp, fun k hk => ?_⟩ (World.grownBy_alloc _ _ _) ⟨hJ.1.trans (World.grownBy_alloc _ _ _), by obtain ⟨p', h1, h2⟩ := hJ.2; exact ⟨p', by omega, h2.alloc _⟩⟩
      match k, hk with
      | 0, _ => exact ⟨(0), by simp [go_sem], by omega, by omega⟩
      | 1, _ => exact ⟨(0), by simp [go_sem], by omega, by omega⟩
      | 2, _ => exact ⟨(0), by simp [go_sem], by omega, by omega⟩
      | 3, _ => exact ⟨(0), by simp [go_sem], by omega, by omega⟩
      | 4, _ => exact ⟨(1), by simp [go_sem], by omega, by omega⟩
      | 5, _ => exact ⟨(2), by simp [go_sem], by omega, by omega⟩
      | 6, _ => exact ⟨(3), by simp [go_sem], by omega, by omega⟩
    · intro n vs aa w' haa hJ hd K hK
      refine ob_plain rfl ?_
      refine ob_move _ (v := .pointer (some ⟨g, 0, none⟩)) rfl (ev_of haa (by kernel_rfl)) ?_
      refine hK _ _ ?_ (World.grownBy.refl _ _) ⟨hJ.1, by obtain ⟨p', h1, h2⟩ := hJ.2; exact ⟨p', by omega, h2⟩⟩
      show (IsPtr g) w' _
      exact rfl
    · intro n vs aa w' haa hJ hd K hK
      refine ob_plain rfl ?_
      have d7 : (IsPtr g) w' (vs 7) := hd.1 rfl
      have e7 := d7
      obtain ⟨hg', p', hp', hr'⟩ := hJ
      refine ob_call 42 _ _ #[.pointer (some ⟨g, 0, none⟩), .int .i64 (7)] rfl (Eq.trans (b := #[vs 7, .int .i64 (7)]) (evs_of haa (by kernel_rfl)) (by rw [e7])) (fun _ _ => by kernel_rfl) ?_
      refine (pick_any g A len cap p' (7) _ hr' (by omega) (by omega) (by omega)).mono ?_
      rintro e w2 ⟨x, rfl, x0, x1, hr2, hg2⟩
      refine ⟨_, rfl, ?_⟩
      refine hK _ _ ?_ hg2 ⟨hg'.trans hg2, p' + 1, by omega, hr2⟩
      show (IntIn (0) (6)) w' _
      exact ⟨x, rfl, x0, by omega⟩
    · intro n vs aa w' haa hJ hd K hK
      refine ob_plain rfl ?_
      have d6 : (ArrIn g 7 (0) (3)) w' (vs 6) := hd.1 rfl
      obtain ⟨b6, e6, n6, z6, c6⟩ := d6
      have d8 : (IntIn (0) (6)) w' (vs 8) := hd.2.1 rfl
      obtain ⟨x8, e8, l8, u8⟩ := d8
      refine ob_index _ _ _ (by simp) (u := x8) rfl (Eq.trans (b := vs 6) (ev_of haa (by kernel_rfl)) e6) (Eq.trans (b := vs 8) (ev_of haa (by kernel_rfl)) e8) (by omega) (by omega) ?_
      obtain ⟨y, hy, y0, y1⟩ := c6 x8.toNat (by omega)
      refine hK _ _ ?_ (World.grownBy.refl _ _) ⟨hJ.1, by obtain ⟨p', h1, h2⟩ := hJ.2; exact ⟨p', by omega, h2⟩⟩
      show (ElAt g (0) (3)) w' _
      exact ⟨b6, _, rfl, n6, z6, y, by rw [Nat.zero_add]; exact hy, y0, y1⟩
    · intro n vs aa w' haa hJ hd K hK
      refine ob_plain rfl ?_
      have d9 : (ElAt g (0) (3)) w' (vs 9) := hd.1 rfl
      obtain ⟨b9, j9, e9, n9, z9, x9, c9, l9, u9⟩ := d9
      refine ob_load _ _ (by simp) rfl (Eq.trans (b := vs 9) (ev_of haa (by kernel_rfl)) e9) c9 ?_
      refine hK _ _ ?_ (World.grownBy.refl _ _) ⟨hJ.1, by obtain ⟨p', h1, h2⟩ := hJ.2; exact ⟨p', by omega, h2⟩⟩
      show (IntIn (0) (3)) w' _
      exact ⟨_, rfl, l9, u9⟩
    · intro n vs aa w' haa hJ hd K hK
      refine ob_plain rfl ?_
      have d5 : (ArrIn g 4 (-1) (1001)) w' (vs 5) := hd.1 rfl
      obtain ⟨b5, e5, n5, z5, c5⟩ := d5
      have d10 : (IntIn (0) (3)) w' (vs 10) := hd.2.1 rfl
      obtain ⟨x10, e10, l10, u10⟩ := d10
      refine ob_index _ _ _ (by simp) (u := x10) rfl (Eq.trans (b := vs 5) (ev_of haa (by kernel_rfl)) e5) (Eq.trans (b := vs 10) (ev_of haa (by kernel_rfl)) e10) (by omega) (by omega) ?_
      obtain ⟨y, hy, y0, y1⟩ := c5 x10.toNat (by omega)
      refine hK _ _ ?_ (World.grownBy.refl _ _) ⟨hJ.1, by obtain ⟨p', h1, h2⟩ := hJ.2; exact ⟨p', by omega, h2⟩⟩
      show (ElAt g (-1) (1001)) w' _
      exact ⟨b5, _, rfl, n5, z5, y, by rw [Nat.zero_add]; exact hy, y0, y1⟩
    · intro n vs aa w' haa hJ hd K hK
      refine ob_plain rfl ?_
      have d11 : (ElAt g (-1) (1001)) w' (vs 11) := hd.1 rfl
      obtain ⟨b11, j11, e11, n11, z11, x11, c11, l11, u11⟩ := d11
      refine ob_load _ _ (by simp) rfl (Eq.trans (b := vs 11) (ev_of haa (by kernel_rfl)) e11) c11 ?_
      refine hK _ _ ?_ (World.grownBy.refl _ _) ⟨hJ.1, by obtain ⟨p', h1, h2⟩ := hJ.2; exact ⟨p', by omega, h2⟩⟩
      show (IntIn (-1) (1001)) w' _
      exact ⟨_, rfl, l11, u11⟩
    · intro n vs aa w' haa hJ hd K hK
      refine ob_plain rfl ?_
      refine ob_move _ (v := .pointer (some ⟨g, 0, none⟩)) rfl (ev_of haa (by kernel_rfl)) ?_
      refine hK _ _ ?_ (World.grownBy.refl _ _) ⟨hJ.1, by obtain ⟨p', h1, h2⟩ := hJ.2; exact ⟨p', by omega, h2⟩⟩
      show (IsPtr g) w' _
      exact rfl
    · intro n vs aa w' haa hJ hd K hK
      refine ob_plain rfl ?_
      have d13 : (IsPtr g) w' (vs 13) := hd.1 rfl
      have e13 := d13
      obtain ⟨hg', p', hp', hr'⟩ := hJ
      refine ob_call 42 _ _ #[.pointer (some ⟨g, 0, none⟩), .int .i64 (9)] rfl (Eq.trans (b := #[vs 13, .int .i64 (9)]) (evs_of haa (by kernel_rfl)) (by rw [e13])) (fun _ _ => by kernel_rfl) ?_
      refine (pick_any g A len cap p' (9) _ hr' (by omega) (by omega) (by omega)).mono ?_
      rintro e w2 ⟨x, rfl, x0, x1, hr2, hg2⟩
      refine ⟨_, rfl, ?_⟩
      refine hK _ _ ?_ hg2 ⟨hg'.trans hg2, p' + 1, by omega, hr2⟩
      show (IntIn (0) (8)) w' _
      exact ⟨x, rfl, x0, by omega⟩
    · intro n vs aa w' haa hJ hd K hK
      refine ob_plain rfl ?_
      have d14 : (IntIn (0) (8)) w' (vs 14) := hd.1 rfl
      obtain ⟨x14, e14, l14, u14⟩ := d14
      refine ob_add _ _ (u := (1)) (v := x14) rfl (ev_of haa (by kernel_rfl)) (Eq.trans (b := vs 14) (ev_of haa (by kernel_rfl)) e14) (by omega) ?_
      refine hK _ _ ?_ (World.grownBy.refl _ _) ⟨hJ.1, by obtain ⟨p', h1, h2⟩ := hJ.2; exact ⟨p', by omega, h2⟩⟩
      show (IntIn (1) (9)) w' _
      exact ⟨_, rfl, by omega, by omega⟩
    · intro n vs aa w' haa hJ hd K hK
      refine ob_plain rfl ?_
      have d15 : (IntIn (1) (9)) w' (vs 15) := hd.1 rfl
      obtain ⟨x15, e15, l15, u15⟩ := d15
      refine ob_build4 _ _ _ _ (u0 := x15) (u1 := (0)) (u2 := (101)) (u3 := (100)) rfl (Eq.trans (b := vs 15) (ev_of haa (by kernel_rfl)) e15) (ev_of haa (by kernel_rfl)) (ev_of haa (by kernel_rfl)) (ev_of haa (by kernel_rfl)) ?_
      refine hK _ _ ⟨_, rfl, Nat.ne_of_gt hJ.2.choose_spec.2.lt, by simp, fun k hk => ?_⟩ (World.grownBy_alloc _ _ _) ⟨hJ.1.trans (World.grownBy_alloc _ _ _), by obtain ⟨p', h1, h2⟩ := hJ.2; exact ⟨p', by omega, h2.alloc _⟩⟩
      match k, hk with
      | 0, _ => exact ⟨x15, by simp [go_sem], by omega, by omega⟩
      | 1, _ => exact ⟨(0), by simp [go_sem], by omega, by omega⟩
      | 2, _ => exact ⟨(101), by simp [go_sem], by omega, by omega⟩
      | 3, _ => exact ⟨(100), by simp [go_sem], by omega, by omega⟩
    · intro n vs aa w' haa hJ hd K hK
      refine ob_plain rfl ?_
      refine ob_build7 _ _ _ _ _ _ _ (u0 := (0)) (u1 := (0)) (u2 := (0)) (u3 := (0)) (u4 := (1)) (u5 := (2)) (u6 := (3)) rfl (ev_of haa (by kernel_rfl)) (ev_of haa (by kernel_rfl)) (ev_of haa (by kernel_rfl)) (ev_of haa (by kernel_rfl)) (ev_of haa (by kernel_rfl)) (ev_of haa (by kernel_rfl)) (ev_of haa (by kernel_rfl)) ?_
      refine hK _ _ ⟨_, rfl, Nat.ne_of_gt hJ.2.choose_spec.2.lt, by simp, fun k hk => ?_⟩ (World.grownBy_alloc _ _ _) ⟨hJ.1.trans (World.grownBy_alloc _ _ _), by obtain ⟨p', h1, h2⟩ := hJ.2; exact ⟨p', by omega, h2.alloc _⟩⟩
      match k, hk with
      | 0, _ => exact ⟨(0), by simp [go_sem], by omega, by omega⟩
      | 1, _ => exact ⟨(0), by simp [go_sem], by omega, by omega⟩
      | 2, _ => exact ⟨(0), by simp [go_sem], by omega, by omega⟩
      | 3, _ => exact ⟨(0), by simp [go_sem], by omega, by omega⟩
      | 4, _ => exact ⟨(1), by simp [go_sem], by omega, by omega⟩
      | 5, _ => exact ⟨(2), by simp [go_sem], by omega, by omega⟩
      | 6, _ => exact ⟨(3), by simp [go_sem], by omega, by omega⟩
    · intro n vs aa w' haa hJ hd K hK
      refine ob_plain rfl ?_
      refine ob_move _ (v := .pointer (some ⟨g, 0, none⟩)) rfl (ev_of haa (by kernel_rfl)) ?_
      refine hK _ _ ?_ (World.grownBy.refl _ _) ⟨hJ.1, by obtain ⟨p', h1, h2⟩ := hJ.2; exact ⟨p', by omega, h2⟩⟩
      show (IsPtr g) w' _
      exact rfl
    · intro n vs aa w' haa hJ hd K hK
      refine ob_plain rfl ?_
      have d18 : (IsPtr g) w' (vs 18) := hd.1 rfl
      have e18 := d18
      obtain ⟨hg', p', hp', hr'⟩ := hJ
      refine ob_call 42 _ _ #[.pointer (some ⟨g, 0, none⟩), .int .i64 (7)] rfl (Eq.trans (b := #[vs 18, .int .i64 (7)]) (evs_of haa (by kernel_rfl)) (by rw [e18])) (fun _ _ => by kernel_rfl) ?_
      refine (pick_any g A len cap p' (7) _ hr' (by omega) (by omega) (by omega)).mono ?_
      rintro e w2 ⟨x, rfl, x0, x1, hr2, hg2⟩
      refine ⟨_, rfl, ?_⟩
      refine hK _ _ ?_ hg2 ⟨hg'.trans hg2, p' + 1, by omega, hr2⟩
      show (IntIn (0) (6)) w' _
      exact ⟨x, rfl, x0, by omega⟩
    · intro n vs aa w' haa hJ hd K hK
      refine ob_plain rfl ?_
      have d17 : (ArrIn g 7 (0) (3)) w' (vs 17) := hd.1 rfl
      obtain ⟨b17, e17, n17, z17, c17⟩ := d17
      have d19 : (IntIn (0) (6)) w' (vs 19) := hd.2.1 rfl
      obtain ⟨x19, e19, l19, u19⟩ := d19
      refine ob_index _ _ _ (by simp) (u := x19) rfl (Eq.trans (b := vs 17) (ev_of haa (by kernel_rfl)) e17) (Eq.trans (b := vs 19) (ev_of haa (by kernel_rfl)) e19) (by omega) (by omega) ?_
      obtain ⟨y, hy, y0, y1⟩ := c17 x19.toNat (by omega)
      refine hK _ _ ?_ (World.grownBy.refl _ _) ⟨hJ.1, by obtain ⟨p', h1, h2⟩ := hJ.2; exact ⟨p', by omega, h2⟩⟩
      show (ElAt g (0) (3)) w' _
      exact ⟨b17, _, rfl, n17, z17, y, by rw [Nat.zero_add]; exact hy, y0, y1⟩
    · intro n vs aa w' haa hJ hd K hK
      refine ob_plain rfl ?_
      have d20 : (ElAt g (0) (3)) w' (vs 20) := hd.1 rfl
      obtain ⟨b20, j20, e20, n20, z20, x20, c20, l20, u20⟩ := d20
      refine ob_load _ _ (by simp) rfl (Eq.trans (b := vs 20) (ev_of haa (by kernel_rfl)) e20) c20 ?_
      refine hK _ _ ?_ (World.grownBy.refl _ _) ⟨hJ.1, by obtain ⟨p', h1, h2⟩ := hJ.2; exact ⟨p', by omega, h2⟩⟩
      show (IntIn (0) (3)) w' _
      exact ⟨_, rfl, l20, u20⟩
    · intro n vs aa w' haa hJ hd K hK
      refine ob_plain rfl ?_
      have d16 : (ArrIn g 4 (0) (101)) w' (vs 16) := hd.1 rfl
      obtain ⟨b16, e16, n16, z16, c16⟩ := d16
      have d21 : (IntIn (0) (3)) w' (vs 21) := hd.2.1 rfl
      obtain ⟨x21, e21, l21, u21⟩ := d21
      refine ob_index _ _ _ (by simp) (u := x21) rfl (Eq.trans (b := vs 16) (ev_of haa (by kernel_rfl)) e16) (Eq.trans (b := vs 21) (ev_of haa (by kernel_rfl)) e21) (by omega) (by omega) ?_
      obtain ⟨y, hy, y0, y1⟩ := c16 x21.toNat (by omega)
      refine hK _ _ ?_ (World.grownBy.refl _ _) ⟨hJ.1, by obtain ⟨p', h1, h2⟩ := hJ.2; exact ⟨p', by omega, h2⟩⟩
      show (ElAt g (0) (101)) w' _
      exact ⟨b16, _, rfl, n16, z16, y, by rw [Nat.zero_add]; exact hy, y0, y1⟩
    · intro n vs aa w' haa hJ hd K hK
      refine ob_plain rfl ?_
      have d22 : (ElAt g (0) (101)) w' (vs 22) := hd.1 rfl
      obtain ⟨b22, j22, e22, n22, z22, x22, c22, l22, u22⟩ := d22
      refine ob_load _ _ (by simp) rfl (Eq.trans (b := vs 22) (ev_of haa (by kernel_rfl)) e22) c22 ?_
      refine hK _ _ ?_ (World.grownBy.refl _ _) ⟨hJ.1, by obtain ⟨p', h1, h2⟩ := hJ.2; exact ⟨p', by omega, h2⟩⟩
      show (IntIn (0) (101)) w' _
      exact ⟨_, rfl, l22, u22⟩
    · intro n vs aa w' haa hJ hd K hK
      refine ob_plain rfl ?_
      have d2 : (IntIn (-1) (16)) w' (vs 2) := hd.1 rfl
      refine ob_assign _ (v := vs 2) rfl (ev_of haa (by kernel_rfl)) ?_
      refine hK _ _ ?_ (World.grownBy.refl _ _) ⟨hJ.1, by obtain ⟨p', h1, h2⟩ := hJ.2; exact ⟨p', by omega, h2⟩⟩
      show (IntIn (-1) (16)) w' _
      exact d2
    · intro n vs aa w' haa hJ hd K hK
      refine ob_plain rfl ?_
      have d12 : (IntIn (-1) (1001)) w' (vs 12) := hd.1 rfl
      refine ob_assign _ (v := vs 12) rfl (ev_of haa (by kernel_rfl)) ?_
      refine hK _ _ ?_ (World.grownBy.refl _ _) ⟨hJ.1, by obtain ⟨p', h1, h2⟩ := hJ.2; exact ⟨p', by omega, h2⟩⟩
      show (IntIn (-1) (1001)) w' _
      exact d12
    · intro n vs aa w' haa hJ hd K hK
      refine ob_plain rfl ?_
      have d23 : (IntIn (0) (101)) w' (vs 23) := hd.1 rfl
      refine ob_assign _ (v := vs 23) rfl (ev_of haa (by kernel_rfl)) ?_
      refine hK _ _ ?_ (World.grownBy.refl _ _) ⟨hJ.1, by obtain ⟨p', h1, h2⟩ := hJ.2; exact ⟨p', by omega, h2⟩⟩
      show (IntIn (0) (101)) w' _
      exact d23
  intro vs w' hJ hall
  obtain ⟨x, hx, x0, x1⟩ : IntIn (-1) 16 w' (vs 24) := hall 24 (by decide)
  obtain ⟨y, hy, y0, y1⟩ : IntIn (-1) 1001 w' (vs 25) := hall 25 (by decide)
  obtain ⟨z, hz, z0, z1⟩ : IntIn 0 101 w' (vs 26) := hall 26 (by decide)
  clear hall
  obtain ⟨hg, _⟩ := hJ
  have HG := Lib.hid hg
  clear hg hR
  simp only [fill, Act.put, List.toList_toArray, List.setIfInBounds_toArray, List.set_cons_zero, List.set_cons_succ, Nat.zero_add, Nat.reduceAdd, hx, hy, hz]
  go_wp2_with fail
  go_ret3
  exact ⟨x, y, z, rfl, x0, x1, y0, y1, z0, z1, below_rd hb1.out (by rw [← hg0.out]; exact HG.out)⟩
set_option maxRecDepth 100000 in
set_option maxHeartbeats 2000000 in
theorem drawNoiseSamples_any (A : Option Addr) (n c : Nat) (zs : List Int) (w : World) (h : IsRow .u8 w A n c zs) :
    Calls Try.prog 37 #[.slice A n c] w (DrawsInt2 0 32768 (-1) 401 w) := by
  have HI := Lib.hid h
  clear h
  go_enter Try.func37, Try.ntmps37
  go_wp2_with fail
  refine (open_any A n c zs _ HI.out).mono ?_
  rintro e w1 ⟨len, cap, rfl, hR, hb1⟩
  obtain ⟨g, hg0⟩ : ∃ g, g = w.heap.size := ⟨_, rfl⟩
  rw [← hg0] at hR ⊢
  replace hR := Lib.hid hR
  replace hb1 := Lib.hid hb1
  replace hg0 := Lib.hid hg0
  go_wp2_with fail
  refine (l20Noise_any g A len cap 0 _ hR.out (by omega)).mono ?_
  rintro e w2 ⟨v, rfl, ⟨s, rfl, s0, s1⟩, hg2, p, hp, hr'⟩
  have HG2 := Lib.hid hg2
  have hr' := Lib.hid hr'
  clear hg2
  go_upto_region 3 with (fail)
  have hR := hr'.out
  refine region_list (some g) (IntIn (0) (32768) :: IsPtr g :: IntIn (0) (59) :: ArrIn g 3 (-1) (401) :: ArrIn g 6 (0) (2) :: IsPtr g :: IntIn (0) (5) :: ElAt g (0) (2) :: IntIn (0) (2) :: ElAt g (-1) (401) :: IntIn (-1) (401) :: IntIn (0) (32768) :: IntIn (-1) (401) :: []) (fun n w' => World.grownBy w2 w' (some g) ∧ ∃ p' : Nat, p' + 1 * n ≤ p + 13 ∧ Rd w' g A len cap p') ?_ ?_ ?_ ?_ ?_ ?_ ?_
  · kernel_rfl
  · exact ⟨st_int _ _ _, st_ptr _ _, st_int _ _ _, st_arr _ _ _ _, st_arr _ _ _ _, st_ptr _ _, st_int _ _ _, st_el _ _ _, st_int _ _ _, st_el _ _ _, st_int _ _ _, st_int _ _ _, st_int _ _ _, trivial⟩
  · exact of_decide_eq_true (by kernel_rfl)
  · kernel_rfl
  · exact ⟨grown_drew _ _, p, by simp, hR⟩
  · refine each_cons ?_ (each_cons ?_ (each_cons ?_ (each_cons ?_ (each_cons ?_ (each_cons ?_ (each_cons ?_ (each_cons ?_ (each_cons ?_ (each_cons ?_ (each_cons ?_ (each_cons ?_ (each_cons ?_ ( trivial)))))))))))))
    · intro n vs aa w' haa hJ hd K hK
      refine ob_plain rfl ?_
      refine ob_move _ (v := .int .i64 (s)) rfl (ev_of haa (by kernel_rfl)) ?_
      refine hK _ _ ?_ (World.grownBy.refl _ _) ⟨hJ.1, by obtain ⟨p', h1, h2⟩ := hJ.2; exact ⟨p', by omega, h2⟩⟩
      show (IntIn (0) (32768)) w' _
      exact ⟨_, rfl, by omega, by omega⟩
    · intro n vs aa w' haa hJ hd K hK
      refine ob_plain rfl ?_
      refine ob_move _ (v := .pointer (some ⟨g, 0, none⟩)) rfl (ev_of haa (by kernel_rfl)) ?_
      refine hK _ _ ?_ (World.grownBy.refl _ _) ⟨hJ.1, by obtain ⟨p', h1, h2⟩ := hJ.2; exact ⟨p', by omega, h2⟩⟩
      show (IsPtr g) w' _
      exact rfl
    · intro n vs aa w' haa hJ hd K hK
      refine ob_plain rfl ?_
      have d1 : (IsPtr g) w' (vs 1) := hd.1 rfl
      have e1 := d1
      obtain ⟨hg', p', hp', hr'⟩ := hJ
      refine ob_call 42 _ _ #[.pointer (some ⟨g, 0, none⟩), .int .i64 (60)] rfl (Eq.trans (b := #[vs 1, .int .i64 (60)]) (evs_of haa (by kernel_rfl)) (by rw [e1])) (fun _ _ => by kernel_rfl) ?_
      refine (pick_any g A len cap p' (60) _ hr' (by omega) (by omega) (by omega)).mono ?_
      rintro e w2 ⟨x, rfl, x0, x1, hr2, hg2⟩
      refine ⟨_, rfl, ?_⟩
      refine hK _ _ ?_ hg2 ⟨hg'.trans hg2, p' + 1, by omega, hr2⟩
      show (IntIn (0) (59)) w' _
      exact ⟨x, rfl, x0, by omega⟩
    · intro n vs aa w' haa hJ hd K hK
      refine ob_plain rfl ?_
      have d2 : (IntIn (0) (59)) w' (vs 2) := hd.1 rfl
      obtain ⟨x2, e2, l2, u2⟩ := d2
      refine ob_build3 _ _ _ (u0 := x2) (u1 := (-1)) (u2 := (401)) rfl (Eq.trans (b := vs 2) (ev_of haa (by kernel_rfl)) e2) (ev_of haa (by kernel_rfl)) (ev_of haa (by kernel_rfl)) ?_
      refine hK _ _ ⟨_, rfl, Nat.ne_of_gt hJ.2.choose_spec.2.lt, by simp, fun k hk => ?_⟩ (World.grownBy_alloc _ _ _) ⟨hJ.1.trans (World.grownBy_alloc _ _ _), by obtain ⟨p', h1, h2⟩ := hJ.2; exact ⟨p', by omega, h2.alloc _⟩⟩
      match k, hk with
      | 0, _ => exact ⟨x2, by simp [go_sem], by omega, by omega⟩
      | 1, _ => exact ⟨(-1), by simp [go_sem], by omega, by omega⟩
      | 2, _ => exact ⟨(401), by simp [go_sem], by omega, by omega⟩
    · intro n vs aa w' haa hJ hd K hK
      refine ob_plain rfl ?_
      refine ob_build6 _ _ _ _ _ _ (u0 := (0)) (u1 := (0)) (u2 := (0)) (u3 := (0)) (u4 := (1)) (u5 := (2)) rfl (ev_of haa (by kernel_rfl)) (ev_of haa (by kernel_rfl)) (ev_of haa (by kernel_rfl)) (ev_of haa (by kernel_rfl)) (ev_of haa (by kernel_rfl)) (ev_of haa (by kernel_rfl)) ?_
      refine hK _ _ ⟨_, rfl, Nat.ne_of_gt hJ.2.choose_spec.2.lt, by simp, fun k hk => ?_⟩ (World.grownBy_alloc _ _ _) ⟨hJ.1.trans (World.grownBy_alloc _ _ _), by obtain ⟨p', h1, h2⟩ := hJ.2; exact ⟨p', by omega, h2.alloc _⟩⟩
      match k, hk with
      | 0, _ => exact ⟨(0), by simp [go_sem], by omega, by omega⟩
      | 1, _ => exact ⟨(0), by simp [go_sem], by omega, by omega⟩
      | 2, _ => exact ⟨(0), by simp [go_sem], by omega, by omega⟩
      | 3, _ => exact ⟨(0), by simp [go_sem], by omega, by omega⟩
      | 4, _ => exact ⟨(1), by simp [go_sem], by omega, by omega⟩
      | 5, _ => exact ⟨(2), by simp [go_sem], by omega, by omega⟩
    · intro n vs aa w' haa hJ hd K hK
      refine ob_plain rfl ?_
      refine ob_move _ (v := .pointer (some ⟨g, 0, none⟩)) rfl (ev_of haa (by kernel_rfl)) ?_
      refine hK _ _ ?_ (World.grownBy.refl _ _) ⟨hJ.1, by obtain ⟨p', h1, h2⟩ := hJ.2; exact ⟨p', by omega, h2⟩⟩
      show (IsPtr g) w' _
      exact rfl
    · intro n vs aa w' haa hJ hd K hK
      refine ob_plain rfl ?_
      have d5 : (IsPtr g) w' (vs 5) := hd.1 rfl
      have e5 := d5
      obtain ⟨hg', p', hp', hr'⟩ := hJ
      refine ob_call 42 _ _ #[.pointer (some ⟨g, 0, none⟩), .int .i64 (6)] rfl (Eq.trans (b := #[vs 5, .int .i64 (6)]) (evs_of haa (by kernel_rfl)) (by rw [e5])) (fun _ _ => by kernel_rfl) ?_
      refine (pick_any g A len cap p' (6) _ hr' (by omega) (by omega) (by omega)).mono ?_
      rintro e w2 ⟨x, rfl, x0, x1, hr2, hg2⟩
      refine ⟨_, rfl, ?_⟩
      refine hK _ _ ?_ hg2 ⟨hg'.trans hg2, p' + 1, by omega, hr2⟩
      show (IntIn (0) (5)) w' _
      exact ⟨x, rfl, x0, by omega⟩
    · intro n vs aa w' haa hJ hd K hK
      refine ob_plain rfl ?_
      have d4 : (ArrIn g 6 (0) (2)) w' (vs 4) := hd.1 rfl
      obtain ⟨b4, e4, n4, z4, c4⟩ := d4
      have d6 : (IntIn (0) (5)) w' (vs 6) := hd.2.1 rfl
      obtain ⟨x6, e6, l6, u6⟩ := d6
      refine ob_index _ _ _ (by simp) (u := x6) rfl (Eq.trans (b := vs 4) (ev_of haa (by kernel_rfl)) e4) (Eq.trans (b := vs 6) (ev_of haa (by kernel_rfl)) e6) (by omega) (by omega) ?_
      obtain ⟨y, hy, y0, y1⟩ := c4 x6.toNat (by omega)
      refine hK _ _ ?_ (World.grownBy.refl _ _) ⟨hJ.1, by obtain ⟨p', h1, h2⟩ := hJ.2; exact ⟨p', by omega, h2⟩⟩
      show (ElAt g (0) (2)) w' _
      exact ⟨b4, _, rfl, n4, z4, y, by rw [Nat.zero_add]; exact hy, y0, y1⟩
    · intro n vs aa w' haa hJ hd K hK
      refine ob_plain rfl ?_
      have d7 : (ElAt g (0) (2)) w' (vs 7) := hd.1 rfl
      obtain ⟨b7, j7, e7, n7, z7, x7, c7, l7, u7⟩ := d7
      refine ob_load _ _ (by simp) rfl (Eq.trans (b := vs 7) (ev_of haa (by kernel_rfl)) e7) c7 ?_
      refine hK _ _ ?_ (World.grownBy.refl _ _) ⟨hJ.1, by obtain ⟨p', h1, h2⟩ := hJ.2; exact ⟨p', by omega, h2⟩⟩
      show (IntIn (0) (2)) w' _
      exact ⟨_, rfl, l7, u7⟩
    · intro n vs aa w' haa hJ hd K hK
      refine ob_plain rfl ?_
      have d3 : (ArrIn g 3 (-1) (401)) w' (vs 3) := hd.1 rfl
      obtain ⟨b3, e3, n3, z3, c3⟩ := d3
      have d8 : (IntIn (0) (2)) w' (vs 8) := hd.2.1 rfl
      obtain ⟨x8, e8, l8, u8⟩ := d8
      refine ob_index _ _ _ (by simp) (u := x8) rfl (Eq.trans (b := vs 3) (ev_of haa (by kernel_rfl)) e3) (Eq.trans (b := vs 8) (ev_of haa (by kernel_rfl)) e8) (by omega) (by omega) ?_
      obtain ⟨y, hy, y0, y1⟩ := c3 x8.toNat (by omega)
      refine hK _ _ ?_ (World.grownBy.refl _ _) ⟨hJ.1, by obtain ⟨p', h1, h2⟩ := hJ.2; exact ⟨p', by omega, h2⟩⟩
      show (ElAt g (-1) (401)) w' _
      exact ⟨b3, _, rfl, n3, z3, y, by rw [Nat.zero_add]; exact hy, y0, y1⟩
    · intro n vs aa w' haa hJ hd K hK
      refine ob_plain rfl ?_
      have d9 : (ElAt g (-1) (401)) w' (vs 9) := hd.1 rfl
      obtain ⟨b9, j9, e9, n9, z9, x9, c9, l9, u9⟩ := d9
      refine ob_load _ _ (by simp) rfl (Eq.trans (b := vs 9) (ev_of haa (by kernel_rfl)) e9) c9 ?_
      refine hK _ _ ?_ (World.grownBy.refl _ _) ⟨hJ.1, by obtain ⟨p', h1, h2⟩ := hJ.2; exact ⟨p', by omega, h2⟩⟩
      show (IntIn (-1) (401)) w' _
      exact ⟨_, rfl, l9, u9⟩
    · intro n vs aa w' haa hJ hd K hK
      refine ob_plain rfl ?_
      have d0 : (IntIn (0) (32768)) w' (vs 0) := hd.1 rfl
      refine ob_assign _ (v := vs 0) rfl (ev_of haa (by kernel_rfl)) ?_
      refine hK _ _ ?_ (World.grownBy.refl _ _) ⟨hJ.1, by obtain ⟨p', h1, h2⟩ := hJ.2; exact ⟨p', by omega, h2⟩⟩
      show (IntIn (0) (32768)) w' _
      exact d0
    · intro n vs aa w' haa hJ hd K hK
      refine ob_plain rfl ?_
      have d10 : (IntIn (-1) (401)) w' (vs 10) := hd.1 rfl
      refine ob_assign _ (v := vs 10) rfl (ev_of haa (by kernel_rfl)) ?_
      refine hK _ _ ?_ (World.grownBy.refl _ _) ⟨hJ.1, by obtain ⟨p', h1, h2⟩ := hJ.2; exact ⟨p', by omega, h2⟩⟩
      show (IntIn (-1) (401)) w' _
      exact d10
  intro vs w' hJ hall
  obtain ⟨x, hx, x0, x1⟩ : IntIn 0 32768 w' (vs 11) := hall 11 (by decide)
  obtain ⟨y, hy, y0, y1⟩ : IntIn (-1) 401 w' (vs 12) := hall 12 (by decide)
  clear hall
  obtain ⟨hg, _⟩ := hJ
  have HG := Lib.hid hg
  clear hg hR
  simp only [fill, Act.put, List.toList_toArray, List.setIfInBounds_toArray, List.set_cons_zero, List.set_cons_succ, Nat.zero_add, Nat.reduceAdd, hx, hy]
  go_wp2_with fail
  go_ret2
  exact ⟨x, y, rfl, x0, x1, y0, y1, below_rd hb1.out (by rw [← hg0.out]; exact HG2.out.trans HG.out)⟩
set_option maxHeartbeats 2000000 in
theorem drawNoiseDistance_any (A : Option Addr) (n c : Nat) (zs : List Int) (w : World) (h : IsRow .u8 w A n c zs) :
    Calls Try.prog 30 #[.slice A n c] w (DrawsInt2 0 32768 0 32768 w) := by
  have HI := Lib.hid h
  clear h
  go_enter Try.func30, Try.ntmps30
  go_wp2_with fail
  refine (open_any A n c zs _ HI.out).mono ?_
  rintro e w1 ⟨len, cap, rfl, hR, hb1⟩
  obtain ⟨g, hg0⟩ : ∃ g, g = w.heap.size := ⟨_, rfl⟩
  rw [← hg0] at hR ⊢
  replace hR := Lib.hid hR
  replace hb1 := Lib.hid hb1
  replace hg0 := Lib.hid hg0
  go_wp2_with fail
  refine (l20Noise_any g A len cap 0 _ hR.out (by omega)).mono ?_
  rintro e w2 ⟨v, rfl, ⟨s, rfl, s0, s1⟩, hg2, p, hp, hr'⟩
  have HG2 := Lib.hid hg2
  have hr' := Lib.hid hr'
  clear hg2
  go_wp2_with fail
  refine (pick_any g A len cap p 40 _ hr'.out (by omega) (by omega) (by omega)).mono ?_
  rintro e w3 ⟨x, rfl, x0, x1, hr3, hg3⟩
  have HG3 := Lib.hid hg3
  have hr3 := Lib.hid hr3
  clear hg3
  go_wp2_with fail
  go_loop [6, 7] (fun b k => ∃ y z : Int, b = .int .i64 y ∧ k = .int .i64 z ∧ 0 ≤ y ∧ y ≤ 32768 ∧ 0 ≤ z ∧ z ≤ 39) (fun _ k => (intOf k).toNat)
  case atStart => exact ⟨_, _, rfl, rfl, s0, s1, x0, by omega⟩
  case round =>
    obtain ⟨y, z, rfl, rfl, y0, y1, z0, z1⟩ := hrel
    by_cases hz : 0 < z
    · have hb := nextN_bd y
      go_wp2_with (go_at_call 17; refine (next_spec _ _).mono ?_; rintro e w' ⟨rfl, rfl⟩)
      go_round
      case rel => exact ⟨_, _, rfl, rfl, hb.1, by omega, by omega, by omega⟩
      case measure => simp [intOf]; omega
    · go_wp2_with fail
      refine (odd_any g A len cap (p + 1) 4 _ hr3.out (by omega) (by omega) (by omega)).mono ?_
      rintro e w4 ⟨o, p4, rfl, hp4, hr4, hg4⟩
      have HG4 := Lib.hid hg4
      have hr4 := Lib.hid hr4
      clear hg4
      cases o
      · go_wp2_with fail
        go_ret2
        exact ⟨s, y, rfl, s0, s1, y0, y1, below_rd hb1.out (by rw [← hg0.out]; exact (HG2.out.trans HG3.out).trans HG4.out)⟩
      · go_wp2_with fail
        refine (l20Noise_any g A len cap p4 _ hr4.out (by omega)).mono ?_
        rintro e w5 ⟨v, rfl, ⟨t, rfl, t0, t1⟩, hg5, p5, hp5, hr5⟩
        have HG5 := Lib.hid hg5
        clear hg5 hr5
        go_wp2_with fail
        go_ret2
        exact ⟨s, t, rfl, s0, s1, t0, t1, below_rd hb1.out (by rw [← hg0.out]; exact ((HG2.out.trans HG3.out).trans HG4.out).trans HG5.out)⟩
end Go.Proofs.Ytdhhkdkaigplaaa
