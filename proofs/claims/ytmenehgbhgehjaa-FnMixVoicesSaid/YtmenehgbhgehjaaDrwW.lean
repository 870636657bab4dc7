/-
  What the statements on channels draw: a channel and a number; channels and a number. No condition.
-/
import Derived.Test.YtmenehgbhgehjaaDrwG
namespace Go.Proofs.Ytmenehgbhgehjaa
open Go.RowKit
set_option linter.unusedVariables false
set_option linter.unusedSimpArgs false
def GivesVN (lo hi : Int) (w : World) (e : Ending) (w' : World) : Prop := ∃ (u : Vo) (n : Int), e = .returned (.tuple #[u.val, .int .i64 n]) ∧ VoBd u ∧ lo ≤ n ∧ n ≤ hi ∧ Below w.heap.size w w'
set_option maxRecDepth 100000 in
set_option maxHeartbeats 4000000 in
theorem drawPlayVoice_any (A : Option Addr) (n c : Nat) (zs : List Int) (w : World) (h : IsRow .u8 w A n c zs) :
    Calls Try.prog 28 #[.slice A n c] w (GivesVN (-1) 401 w) := by
  obtain ⟨W0, hW0⟩ : ∃ W0, W0 = w.alloc (.cells #[.int .i64 0, .int .i64 0, .int .i64 0, .int .i64 0, .int .i64 0] 24) := ⟨_, rfl⟩
  have HI := Lib.hid (show IsRow .u8 W0 A n c zs by rw [hW0]; exact h.alloc _)
  have HZ := Lib.hid (show HasV W0 w.heap.size ⟨0, 0, 0, 0, 0⟩ by rw [hW0]; exact HasV.new w ⟨0, 0, 0, 0, 0⟩)
  have HB0 := Lib.hid (show Below w.heap.size w W0 by rw [hW0]; exact (Below.refl _ _).alloc (Nat.le_refl _) _)
  have hs0 : W0.heap.size = w.heap.size + 1 := by rw [hW0, World.size_alloc]
  replace hW0 := Lib.hid hW0
  have HX0 := Lib.hid h
  clear h
  go_enter Try.func28, Try.ntmps28
  go_wp2_with fail
  rw [← hW0.out]
  refine (open_any2 A n c zs _ HI.out).mono ?_
  rintro e w1 ⟨len, cap, rfl, hR, hb1, hlen⟩
  have hcr := code_far HX0.out hlen (Nat.le_refl w.heap.size)
  have HR := Lib.hid (HZ.out.below hb1)
  have HB := Lib.hid (below_step HB0.out hb1 (by omega))
  obtain ⟨g, hg0⟩ : ∃ g, g = W0.heap.size := ⟨_, rfl⟩
  rw [← hg0] at hR ⊢
  rw [hs0] at hg0
  have hgw : w.heap.size < g := by omega
  have HG0 := Lib.hid hg0
  clear hg0
  have HD := Lib.hid (Drs.start hR)
  have hgl := hR.lt
  clear hR hb1 HZ HB0 HI hs0
  go_wp2_with fail
  refine (l20Voice_d HD.out 12 (by omega) (by omega) (by omega)).mono ?_
  rintro e W' ⟨v, rfl, ⟨u, rfl, hu⟩, hD, hgr⟩
  replace HD := Lib.hid hD
  clear hD
  replace HR := Lib.hid (HR.out.kept hgr (ne_some (by omega)))
  clear hgr
  have hs := HD.out.size
  have hbr := HR.out.lt
  obtain ⟨W2, hW2⟩ : ∃ W2, W2 = W'.alloc (.cells #[.int .i64 u.l, .int .i64 u.h, .int .i64 u.a, .int .i64 u.s, .int .i64 u.f] 24) := ⟨_, rfl⟩
  have HV := Lib.hid (show HasV W2 W'.heap.size u by rw [hW2]; exact HasV.new W' u)
  replace HR := Lib.hid (show HasV W2 w.heap.size ⟨0, 0, 0, 0, 0⟩ by rw [hW2]; exact HR.out.alloc _)
  replace HD := Lib.hid (show Drs w1 W2 g A len cap 0 _ by rw [hW2]; exact HD.out.alloc _)
  obtain ⟨bx, hbx⟩ : ∃ bx, bx = W'.heap.size := ⟨_, rfl⟩
  rw [← hbx] at HV hs hbr
  have HW2 := Lib.hid (And.intro hW2 hbx)
  clear hW2 hbx
  obtain ⟨r, hr⟩ : ∃ r, r = w.heap.size := ⟨_, rfl⟩
  have hne : bx ≠ g ∧ bx ≠ r := ⟨by omega, by omega⟩
  have hgr2 : g ≠ r := by omega
  rw [← hr] at HR hcr
  have HRW := Lib.hid hr
  clear hr
  go_upto_region 3 with (fail)
  rw [← HW2.out.1, ← HW2.out.2, ← HRW.out]
  obtain ⟨p, hp1, hR⟩ := HD.out.rd
  have hp : p ≤ 100 := by omega
  refine region_tailG 12 (G2 g r u) (IsVal ((u).val) :: IsPtr g :: IntIn (0) (59) :: Arr2 g r 4 (-1) (401) :: Arr2 g r 7 (0) (3) :: IsPtr g :: IntIn (0) (6) :: El2 g r (0) (3) :: IntIn (0) (3) :: El2 g r (-1) (401) :: IntIn (-1) (401) :: (fun w _ => HasV w r u) :: []) (fun n w' => G2 g r u W2 w' ∧ (∃ p' : Nat, p' + 1 * n ≤ p + 12 ∧ Rd w' g A len cap p') ∧ ∃ z, HasV w' r z) ?_ ?_ ?_ ?_ ?_ ?_ ?_ ?_ ?_ ?_ ?_
  · kernel_rfl
  · exact ⟨(fun _ _ _ _ h => h), (fun _ _ _ _ h => h), (fun _ _ _ _ h => h), stG_arr _ _ _ _ _ _, stG_arr _ _ _ _ _ _, (fun _ _ _ _ h => h), (fun _ _ _ _ h => h), stG_el _ _ _ _ _, (fun _ _ _ _ h => h), stG_el _ _ _ _ _, (fun _ _ _ _ h => h), (fun _ _ _ h hv => h.2.2.2 hv), trivial⟩
  · simp
  · exact of_decide_eq_true (by kernel_rfl)
  · kernel_rfl
  · kernel_rfl
  · kernel_rfl
  · kernel_rfl
  · exact ⟨G2.of (grown_drew _ _) hgr2, ⟨p, by simp, hR⟩, _, HR.out⟩
  · refine each_cons ?_ (each_cons ?_ (each_cons ?_ (each_cons ?_ (each_cons ?_ (each_cons ?_ (each_cons ?_ (each_cons ?_ (each_cons ?_ (each_cons ?_ (each_cons ?_ (each_cons ?_ ( trivial))))))))))))
    · intro n vs aa w' haa hJ hd K hK
      refine ob_plain rfl ?_
      have hbv := (HV.out).keptG hJ.1 hne
      refine ob_loadV _ (b := bx) (u := u) rfl (ev_of haa (by kernel_rfl)) hbv ?_
      refine hK _ _ ?_ (G2.refl _ _ _ _) ⟨hJ.1, (by obtain ⟨p', h1, h2⟩ := hJ.2.1; exact ⟨p', by omega, h2⟩), hJ.2.2⟩
      show (IsVal ((u).val)) w' _
      exact rfl
    · intro n vs aa w' haa hJ hd K hK
      refine ob_plain rfl ?_
      refine ob_move _ (v := .pointer (some ⟨g, 0, none⟩)) rfl (ev_of haa (by kernel_rfl)) ?_
      refine hK _ _ ?_ (G2.refl _ _ _ _) ⟨hJ.1, (by obtain ⟨p', h1, h2⟩ := hJ.2.1; exact ⟨p', by omega, h2⟩), hJ.2.2⟩
      show (IsPtr g) w' _
      exact rfl
    · intro n vs aa w' haa hJ hd K hK
      refine ob_plain rfl ?_
      have d1 : (IsPtr g) w' (vs 1) := hd.1 rfl
      have e1 := d1
      obtain ⟨hg', ⟨p', hp', hr'⟩, z, hz⟩ := hJ
      refine ob_call 55 _ _ #[.pointer (some ⟨g, 0, none⟩), .int .i64 (60)] rfl (Eq.trans (b := #[vs 1, .int .i64 (60)]) (evs_of haa (by kernel_rfl)) (by rw [e1])) (fun _ _ => by kernel_rfl) ?_
      refine (pick_any g A len cap p' (60) _ hr' (by omega) (by omega) (by omega)).mono ?_
      rintro e w2 ⟨x, rfl, x0, x1, hr2, hg2⟩
      refine ⟨_, rfl, ?_⟩
      refine hK _ _ ?_ (G2.of hg2 hgr2) ⟨hg'.trans (G2.of hg2 hgr2), ⟨p' + 1, by omega, hr2⟩, z, hz.kept hg2 (ne_some hgr2)⟩
      show (IntIn (0) (59)) w' _
      exact ⟨x, rfl, x0, by omega⟩
    · intro n vs aa w' haa hJ hd K hK
      refine ob_plain rfl ?_
      have d2 : (IntIn (0) (59)) w' (vs 2) := hd.1 rfl
      obtain ⟨x2, e2, l2, u2⟩ := d2
      refine ob_build4 _ _ _ _ (u0 := x2) (u1 := (400)) (u2 := (-1)) (u3 := (401)) rfl (Eq.trans (b := vs 2) (ev_of haa (by kernel_rfl)) e2) (ev_of haa (by kernel_rfl)) (ev_of haa (by kernel_rfl)) (ev_of haa (by kernel_rfl)) ?_
      refine hK _ _ ⟨_, rfl, ⟨Nat.ne_of_gt hJ.2.1.choose_spec.2.lt, Nat.ne_of_gt hJ.2.2.choose_spec.lt⟩, by simp, fun k hk => ?_⟩ (G2.of (World.grownBy_alloc _ _ _) hgr2) ⟨hJ.1.trans (G2.of (World.grownBy_alloc _ _ _) hgr2), (by obtain ⟨p', h1, h2⟩ := hJ.2.1; exact ⟨p', by omega, h2.alloc _⟩), _, hJ.2.2.choose_spec.alloc _⟩
      match k, hk with
      | 0, _ => exact ⟨x2, by simp [go_sem], by omega, by omega⟩
      | 1, _ => exact ⟨(400), by simp [go_sem], by omega, by omega⟩
      | 2, _ => exact ⟨(-1), by simp [go_sem], by omega, by omega⟩
      | 3, _ => exact ⟨(401), by simp [go_sem], by omega, by omega⟩
    · intro n vs aa w' haa hJ hd K hK
      refine ob_plain rfl ?_
      refine ob_build7 _ _ _ _ _ _ _ (u0 := (0)) (u1 := (0)) (u2 := (0)) (u3 := (0)) (u4 := (1)) (u5 := (2)) (u6 := (3)) rfl (ev_of haa (by kernel_rfl)) (ev_of haa (by kernel_rfl)) (ev_of haa (by kernel_rfl)) (ev_of haa (by kernel_rfl)) (ev_of haa (by kernel_rfl)) (ev_of haa (by kernel_rfl)) (ev_of haa (by kernel_rfl)) ?_
      refine hK _ _ ⟨_, rfl, ⟨Nat.ne_of_gt hJ.2.1.choose_spec.2.lt, Nat.ne_of_gt hJ.2.2.choose_spec.lt⟩, by simp, fun k hk => ?_⟩ (G2.of (World.grownBy_alloc _ _ _) hgr2) ⟨hJ.1.trans (G2.of (World.grownBy_alloc _ _ _) hgr2), (by obtain ⟨p', h1, h2⟩ := hJ.2.1; exact ⟨p', by omega, h2.alloc _⟩), _, hJ.2.2.choose_spec.alloc _⟩
      match k, hk with
      | 0, _ => exact ⟨(0), by simp [go_sem], by omega, by omega⟩
      | 1, _ => exact ⟨(0), by simp [go_sem], by omega, by omega⟩
      | 2, _ => exact ⟨(0), by simp [go_sem], by omega, by omega⟩
      | 3, _ => exact ⟨(0), by simp [go_sem], by omega, by omega⟩
      | 4, _ => exact ⟨(1), by simp [go_sem], by omega, by omega⟩
      | 5, _ => exact ⟨(2), by simp [go_sem], by omega, by omega⟩
      | 6, _ => exact ⟨(3), by simp [go_sem], by omega, by omega⟩
    · intro n vs aa w' haa hJ hd K hK
      refine ob_plain rfl ?_
      refine ob_move _ (v := .pointer (some ⟨g, 0, none⟩)) rfl (ev_of haa (by kernel_rfl)) ?_
      refine hK _ _ ?_ (G2.refl _ _ _ _) ⟨hJ.1, (by obtain ⟨p', h1, h2⟩ := hJ.2.1; exact ⟨p', by omega, h2⟩), hJ.2.2⟩
      show (IsPtr g) w' _
      exact rfl
    · intro n vs aa w' haa hJ hd K hK
      refine ob_plain rfl ?_
      have d5 : (IsPtr g) w' (vs 5) := hd.1 rfl
      have e5 := d5
      obtain ⟨hg', ⟨p', hp', hr'⟩, z, hz⟩ := hJ
      refine ob_call 55 _ _ #[.pointer (some ⟨g, 0, none⟩), .int .i64 (7)] rfl (Eq.trans (b := #[vs 5, .int .i64 (7)]) (evs_of haa (by kernel_rfl)) (by rw [e5])) (fun _ _ => by kernel_rfl) ?_
      refine (pick_any g A len cap p' (7) _ hr' (by omega) (by omega) (by omega)).mono ?_
      rintro e w2 ⟨x, rfl, x0, x1, hr2, hg2⟩
      refine ⟨_, rfl, ?_⟩
      refine hK _ _ ?_ (G2.of hg2 hgr2) ⟨hg'.trans (G2.of hg2 hgr2), ⟨p' + 1, by omega, hr2⟩, z, hz.kept hg2 (ne_some hgr2)⟩
      show (IntIn (0) (6)) w' _
      exact ⟨x, rfl, x0, by omega⟩
    · intro n vs aa w' haa hJ hd K hK
      refine ob_plain rfl ?_
      have d4 : (Arr2 g r 7 (0) (3)) w' (vs 4) := hd.1 rfl
      obtain ⟨b4, e4, n4, z4, c4⟩ := d4
      have d6 : (IntIn (0) (6)) w' (vs 6) := hd.2.1 rfl
      obtain ⟨x6, e6, l6, u6⟩ := d6
      refine ob_index _ _ _ (by simp) (u := x6) rfl (Eq.trans (b := vs 4) (ev_of haa (by kernel_rfl)) e4) (Eq.trans (b := vs 6) (ev_of haa (by kernel_rfl)) e6) (by omega) (by omega) ?_
      obtain ⟨y, hy, y0, y1⟩ := c4 x6.toNat (by omega)
      refine hK _ _ ?_ (G2.refl _ _ _ _) ⟨hJ.1, (by obtain ⟨p', h1, h2⟩ := hJ.2.1; exact ⟨p', by omega, h2⟩), hJ.2.2⟩
      show (El2 g r (0) (3)) w' _
      exact ⟨b4, _, rfl, n4, z4, y, by rw [Nat.zero_add]; exact hy, y0, y1⟩
    · intro n vs aa w' haa hJ hd K hK
      refine ob_plain rfl ?_
      have d7 : (El2 g r (0) (3)) w' (vs 7) := hd.1 rfl
      obtain ⟨b7, j7, e7, n7, z7, x7, c7, l7, u7⟩ := d7
      refine ob_load _ _ (by simp) rfl (Eq.trans (b := vs 7) (ev_of haa (by kernel_rfl)) e7) c7 ?_
      refine hK _ _ ?_ (G2.refl _ _ _ _) ⟨hJ.1, (by obtain ⟨p', h1, h2⟩ := hJ.2.1; exact ⟨p', by omega, h2⟩), hJ.2.2⟩
      show (IntIn (0) (3)) w' _
      exact ⟨_, rfl, l7, u7⟩
    · intro n vs aa w' haa hJ hd K hK
      refine ob_plain rfl ?_
      have d3 : (Arr2 g r 4 (-1) (401)) w' (vs 3) := hd.1 rfl
      obtain ⟨b3, e3, n3, z3, c3⟩ := d3
      have d8 : (IntIn (0) (3)) w' (vs 8) := hd.2.1 rfl
      obtain ⟨x8, e8, l8, u8⟩ := d8
      refine ob_index _ _ _ (by simp) (u := x8) rfl (Eq.trans (b := vs 3) (ev_of haa (by kernel_rfl)) e3) (Eq.trans (b := vs 8) (ev_of haa (by kernel_rfl)) e8) (by omega) (by omega) ?_
      obtain ⟨y, hy, y0, y1⟩ := c3 x8.toNat (by omega)
      refine hK _ _ ?_ (G2.refl _ _ _ _) ⟨hJ.1, (by obtain ⟨p', h1, h2⟩ := hJ.2.1; exact ⟨p', by omega, h2⟩), hJ.2.2⟩
      show (El2 g r (-1) (401)) w' _
      exact ⟨b3, _, rfl, n3, z3, y, by rw [Nat.zero_add]; exact hy, y0, y1⟩
    · intro n vs aa w' haa hJ hd K hK
      refine ob_plain rfl ?_
      have d9 : (El2 g r (-1) (401)) w' (vs 9) := hd.1 rfl
      obtain ⟨b9, j9, e9, n9, z9, x9, c9, l9, u9⟩ := d9
      refine ob_load _ _ (by simp) rfl (Eq.trans (b := vs 9) (ev_of haa (by kernel_rfl)) e9) c9 ?_
      refine hK _ _ ?_ (G2.refl _ _ _ _) ⟨hJ.1, (by obtain ⟨p', h1, h2⟩ := hJ.2.1; exact ⟨p', by omega, h2⟩), hJ.2.2⟩
      show (IntIn (-1) (401)) w' _
      exact ⟨_, rfl, l9, u9⟩
    · intro n vs aa w' haa hJ hd K hK
      refine ob_plain rfl ?_
      have d0 : (IsVal ((u).val)) w' (vs 0) := hd.1 rfl
      have e0 := d0
      refine ob_storeV _ _ (r := r) (u := u) rfl rfl (ev_of haa (by kernel_rfl)) (Eq.trans (b := vs 0) (ev_of haa (by kernel_rfl)) e0) hJ.2.2.choose_spec ?_
      have hst := hJ.2.2.choose_spec.set u
      refine hK undef _ ?_ (G2.store hJ.2.2.choose_spec) ⟨hJ.1.trans (G2.store hJ.2.2.choose_spec), (by obtain ⟨p', h1, h2⟩ := hJ.2.1; exact ⟨p', by omega, h2.store2 hst.2 hgr2 hcr⟩), _, hst.1⟩
      exact hst.1
  intro vs w' hJ hall
  obtain ⟨N, hN, N0, N1⟩ : IntIn (-1) 401 w' (vs 10) := hall 10 (by decide)
  have hru := hall 11 (by decide)
  clear hall
  replace hru : HasV w' r u := hru
  obtain ⟨hg, ⟨p', hp', hr'⟩, -⟩ := hJ
  have HG := Lib.hid hg
  obtain ⟨r0, r1, r2, r3, r4⟩ := hru.cells
  clear hr' hg hR
  simp only [List.take_succ_cons, List.take_zero, List.drop_succ_cons, List.drop_zero, fill, Act.put, List.toList_toArray, List.setIfInBounds_toArray, List.set_cons_zero, List.set_cons_succ, Nat.zero_add, Nat.reduceAdd, hN]
  go_wp2_with fail
  refine bodyPost_ret (v := .tuple #[u.val, .int .i64 N]) (by simp [results, Try.results28, go_sem, r0, r1, r2, r3, r4]) rfl ?_
  have h2 := HB.out.grown HD.out.hg HB.out.size (by intro k hk; injection hk with hk; omega)
  refine ⟨u, N, rfl, hu, N0, N1, ⟨HG.out.1.1.trans h2.os, HG.out.1.2.1.trans h2.tape, HG.out.1.2.2.trans h2.output, Nat.le_trans h2.size HG.out.2.1, fun k hk => ?_⟩⟩
  exact (HG.out.2.2.1 k (Nat.lt_of_lt_of_le hk h2.size) (by omega) (by have := HRW.out; omega)).trans (h2.block k hk)
set_option maxRecDepth 100000 in
set_option maxHeartbeats 4000000 in
theorem drawSkipVoice_any (A : Option Addr) (n c : Nat) (zs : List Int) (w : World) (h : IsRow .u8 w A n c zs) :
    Calls Try.prog 15 #[.slice A n c] w (GivesVN (-1) 100001 w) := by
  obtain ⟨W0, hW0⟩ : ∃ W0, W0 = w.alloc (.cells #[.int .i64 0, .int .i64 0, .int .i64 0, .int .i64 0, .int .i64 0] 24) := ⟨_, rfl⟩
  have HI := Lib.hid (show IsRow .u8 W0 A n c zs by rw [hW0]; exact h.alloc _)
  have HZ := Lib.hid (show HasV W0 w.heap.size ⟨0, 0, 0, 0, 0⟩ by rw [hW0]; exact HasV.new w ⟨0, 0, 0, 0, 0⟩)
  have HB0 := Lib.hid (show Below w.heap.size w W0 by rw [hW0]; exact (Below.refl _ _).alloc (Nat.le_refl _) _)
  have hs0 : W0.heap.size = w.heap.size + 1 := by rw [hW0, World.size_alloc]
  replace hW0 := Lib.hid hW0
  have HX0 := Lib.hid h
  clear h
  go_enter Try.func15, Try.ntmps15
  go_wp2_with fail
  rw [← hW0.out]
  refine (open_any2 A n c zs _ HI.out).mono ?_
  rintro e w1 ⟨len, cap, rfl, hR, hb1, hlen⟩
  have hcr := code_far HX0.out hlen (Nat.le_refl w.heap.size)
  have HR := Lib.hid (HZ.out.below hb1)
  have HB := Lib.hid (below_step HB0.out hb1 (by omega))
  obtain ⟨g, hg0⟩ : ∃ g, g = W0.heap.size := ⟨_, rfl⟩
  rw [← hg0] at hR ⊢
  rw [hs0] at hg0
  have hgw : w.heap.size < g := by omega
  have HG0 := Lib.hid hg0
  clear hg0
  have HD := Lib.hid (Drs.start hR)
  have hgl := hR.lt
  clear hR hb1 HZ HB0 HI hs0
  go_wp2_with fail
  refine (l20Voice_d HD.out 12 (by omega) (by omega) (by omega)).mono ?_
  rintro e W' ⟨v, rfl, ⟨u, rfl, hu⟩, hD, hgr⟩
  replace HD := Lib.hid hD
  clear hD
  replace HR := Lib.hid (HR.out.kept hgr (ne_some (by omega)))
  clear hgr
  have hs := HD.out.size
  have hbr := HR.out.lt
  obtain ⟨W2, hW2⟩ : ∃ W2, W2 = W'.alloc (.cells #[.int .i64 u.l, .int .i64 u.h, .int .i64 u.a, .int .i64 u.s, .int .i64 u.f] 24) := ⟨_, rfl⟩
  have HV := Lib.hid (show HasV W2 W'.heap.size u by rw [hW2]; exact HasV.new W' u)
  replace HR := Lib.hid (show HasV W2 w.heap.size ⟨0, 0, 0, 0, 0⟩ by rw [hW2]; exact HR.out.alloc _)
  replace HD := Lib.hid (show Drs w1 W2 g A len cap 0 _ by rw [hW2]; exact HD.out.alloc _)
  obtain ⟨bx, hbx⟩ : ∃ bx, bx = W'.heap.size := ⟨_, rfl⟩
  rw [← hbx] at HV hs hbr
  have HW2 := Lib.hid (And.intro hW2 hbx)
  clear hW2 hbx
  obtain ⟨r, hr⟩ : ∃ r, r = w.heap.size := ⟨_, rfl⟩
  have hne : bx ≠ g ∧ bx ≠ r := ⟨by omega, by omega⟩
  have hgr2 : g ≠ r := by omega
  rw [← hr] at HR hcr
  have HRW := Lib.hid hr
  clear hr
  go_upto_region 3 with (fail)
  rw [← HW2.out.1, ← HW2.out.2, ← HRW.out]
  obtain ⟨p, hp1, hR⟩ := HD.out.rd
  have hp : p ≤ 100 := by omega
  refine region_tailG 15 (G2 g r u) (IsVal ((u).val) :: IsPtr g :: IntIn (0) (59) :: IsPtr g :: IntIn (0) (255) :: IntIn (0) (99450) :: Arr2 g r 4 (-1) (100001) :: Arr2 g r 7 (0) (3) :: IsPtr g :: IntIn (0) (6) :: El2 g r (0) (3) :: IntIn (0) (3) :: El2 g r (-1) (100001) :: IntIn (-1) (100001) :: (fun w _ => HasV w r u) :: []) (fun n w' => G2 g r u W2 w' ∧ (∃ p' : Nat, p' + 1 * n ≤ p + 15 ∧ Rd w' g A len cap p') ∧ ∃ z, HasV w' r z) ?_ ?_ ?_ ?_ ?_ ?_ ?_ ?_ ?_ ?_ ?_
  · kernel_rfl
  · exact ⟨(fun _ _ _ _ h => h), (fun _ _ _ _ h => h), (fun _ _ _ _ h => h), (fun _ _ _ _ h => h), (fun _ _ _ _ h => h), (fun _ _ _ _ h => h), stG_arr _ _ _ _ _ _, stG_arr _ _ _ _ _ _, (fun _ _ _ _ h => h), (fun _ _ _ _ h => h), stG_el _ _ _ _ _, (fun _ _ _ _ h => h), stG_el _ _ _ _ _, (fun _ _ _ _ h => h), (fun _ _ _ h hv => h.2.2.2 hv), trivial⟩
  · simp
  · exact of_decide_eq_true (by kernel_rfl)
  · kernel_rfl
  · kernel_rfl
  · kernel_rfl
  · kernel_rfl
  · exact ⟨G2.of (grown_drew _ _) hgr2, ⟨p, by simp, hR⟩, _, HR.out⟩
  · refine each_cons ?_ (each_cons ?_ (each_cons ?_ (each_cons ?_ (each_cons ?_ (each_cons ?_ (each_cons ?_ (each_cons ?_ (each_cons ?_ (each_cons ?_ (each_cons ?_ (each_cons ?_ (each_cons ?_ (each_cons ?_ (each_cons ?_ ( trivial)))))))))))))))
    · intro n vs aa w' haa hJ hd K hK
      refine ob_plain rfl ?_
      have hbv := (HV.out).keptG hJ.1 hne
      refine ob_loadV _ (b := bx) (u := u) rfl (ev_of haa (by kernel_rfl)) hbv ?_
      refine hK _ _ ?_ (G2.refl _ _ _ _) ⟨hJ.1, (by obtain ⟨p', h1, h2⟩ := hJ.2.1; exact ⟨p', by omega, h2⟩), hJ.2.2⟩
      show (IsVal ((u).val)) w' _
      exact rfl
    · intro n vs aa w' haa hJ hd K hK
      refine ob_plain rfl ?_
      refine ob_move _ (v := .pointer (some ⟨g, 0, none⟩)) rfl (ev_of haa (by kernel_rfl)) ?_
      refine hK _ _ ?_ (G2.refl _ _ _ _) ⟨hJ.1, (by obtain ⟨p', h1, h2⟩ := hJ.2.1; exact ⟨p', by omega, h2⟩), hJ.2.2⟩
      show (IsPtr g) w' _
      exact rfl
    · intro n vs aa w' haa hJ hd K hK
      refine ob_plain rfl ?_
      have d1 : (IsPtr g) w' (vs 1) := hd.1 rfl
      have e1 := d1
      obtain ⟨hg', ⟨p', hp', hr'⟩, z, hz⟩ := hJ
      refine ob_call 55 _ _ #[.pointer (some ⟨g, 0, none⟩), .int .i64 (60)] rfl (Eq.trans (b := #[vs 1, .int .i64 (60)]) (evs_of haa (by kernel_rfl)) (by rw [e1])) (fun _ _ => by kernel_rfl) ?_
      refine (pick_any g A len cap p' (60) _ hr' (by omega) (by omega) (by omega)).mono ?_
      rintro e w2 ⟨x, rfl, x0, x1, hr2, hg2⟩
      refine ⟨_, rfl, ?_⟩
      refine hK _ _ ?_ (G2.of hg2 hgr2) ⟨hg'.trans (G2.of hg2 hgr2), ⟨p' + 1, by omega, hr2⟩, z, hz.kept hg2 (ne_some hgr2)⟩
      show (IntIn (0) (59)) w' _
      exact ⟨x, rfl, x0, by omega⟩
    · intro n vs aa w' haa hJ hd K hK
      refine ob_plain rfl ?_
      refine ob_move _ (v := .pointer (some ⟨g, 0, none⟩)) rfl (ev_of haa (by kernel_rfl)) ?_
      refine hK _ _ ?_ (G2.refl _ _ _ _) ⟨hJ.1, (by obtain ⟨p', h1, h2⟩ := hJ.2.1; exact ⟨p', by omega, h2⟩), hJ.2.2⟩
      show (IsPtr g) w' _
      exact rfl
    · intro n vs aa w' haa hJ hd K hK
      refine ob_plain rfl ?_
      have d3 : (IsPtr g) w' (vs 3) := hd.1 rfl
      have e3 := d3
      obtain ⟨hg', ⟨p', hp', hr'⟩, z, hz⟩ := hJ
      refine ob_call 55 _ _ #[.pointer (some ⟨g, 0, none⟩), .int .i64 (256)] rfl (Eq.trans (b := #[vs 3, .int .i64 (256)]) (evs_of haa (by kernel_rfl)) (by rw [e3])) (fun _ _ => by kernel_rfl) ?_
      refine (pick_any g A len cap p' (256) _ hr' (by omega) (by omega) (by omega)).mono ?_
      rintro e w2 ⟨x, rfl, x0, x1, hr2, hg2⟩
      refine ⟨_, rfl, ?_⟩
      refine hK _ _ ?_ (G2.of hg2 hgr2) ⟨hg'.trans (G2.of hg2 hgr2), ⟨p' + 1, by omega, hr2⟩, z, hz.kept hg2 (ne_some hgr2)⟩
      show (IntIn (0) (255)) w' _
      exact ⟨x, rfl, x0, by omega⟩
    · intro n vs aa w' haa hJ hd K hK
      refine ob_plain rfl ?_
      have d4 : (IntIn (0) (255)) w' (vs 4) := hd.1 rfl
      obtain ⟨x4, e4, l4, u4⟩ := d4
      refine ob_mul _ _ (u := x4) (v := (390)) rfl (Eq.trans (b := vs 4) (ev_of haa (by kernel_rfl)) e4) (ev_of haa (by kernel_rfl)) (by omega) ?_
      refine hK _ _ ?_ (G2.refl _ _ _ _) ⟨hJ.1, (by obtain ⟨p', h1, h2⟩ := hJ.2.1; exact ⟨p', by omega, h2⟩), hJ.2.2⟩
      show (IntIn (0) (99450)) w' _
      exact ⟨_, rfl, by omega, by omega⟩
    · intro n vs aa w' haa hJ hd K hK
      refine ob_plain rfl ?_
      have d2 : (IntIn (0) (59)) w' (vs 2) := hd.1 rfl
      obtain ⟨x2, e2, l2, u2⟩ := d2
      have d5 : (IntIn (0) (99450)) w' (vs 5) := hd.2.1 rfl
      obtain ⟨x5, e5, l5, u5⟩ := d5
      refine ob_build4 _ _ _ _ (u0 := x2) (u1 := x5) (u2 := (-1)) (u3 := (100001)) rfl (Eq.trans (b := vs 2) (ev_of haa (by kernel_rfl)) e2) (Eq.trans (b := vs 5) (ev_of haa (by kernel_rfl)) e5) (ev_of haa (by kernel_rfl)) (ev_of haa (by kernel_rfl)) ?_
      refine hK _ _ ⟨_, rfl, ⟨Nat.ne_of_gt hJ.2.1.choose_spec.2.lt, Nat.ne_of_gt hJ.2.2.choose_spec.lt⟩, by simp, fun k hk => ?_⟩ (G2.of (World.grownBy_alloc _ _ _) hgr2) ⟨hJ.1.trans (G2.of (World.grownBy_alloc _ _ _) hgr2), (by obtain ⟨p', h1, h2⟩ := hJ.2.1; exact ⟨p', by omega, h2.alloc _⟩), _, hJ.2.2.choose_spec.alloc _⟩
      match k, hk with
      | 0, _ => exact ⟨x2, by simp [go_sem], by omega, by omega⟩
      | 1, _ => exact ⟨x5, by simp [go_sem], by omega, by omega⟩
      | 2, _ => exact ⟨(-1), by simp [go_sem], by omega, by omega⟩
      | 3, _ => exact ⟨(100001), by simp [go_sem], by omega, by omega⟩
    · intro n vs aa w' haa hJ hd K hK
      refine ob_plain rfl ?_
      refine ob_build7 _ _ _ _ _ _ _ (u0 := (0)) (u1 := (0)) (u2 := (0)) (u3 := (0)) (u4 := (1)) (u5 := (2)) (u6 := (3)) rfl (ev_of haa (by kernel_rfl)) (ev_of haa (by kernel_rfl)) (ev_of haa (by kernel_rfl)) (ev_of haa (by kernel_rfl)) (ev_of haa (by kernel_rfl)) (ev_of haa (by kernel_rfl)) (ev_of haa (by kernel_rfl)) ?_
      refine hK _ _ ⟨_, rfl, ⟨Nat.ne_of_gt hJ.2.1.choose_spec.2.lt, Nat.ne_of_gt hJ.2.2.choose_spec.lt⟩, by simp, fun k hk => ?_⟩ (G2.of (World.grownBy_alloc _ _ _) hgr2) ⟨hJ.1.trans (G2.of (World.grownBy_alloc _ _ _) hgr2), (by obtain ⟨p', h1, h2⟩ := hJ.2.1; exact ⟨p', by omega, h2.alloc _⟩), _, hJ.2.2.choose_spec.alloc _⟩
      match k, hk with
      | 0, _ => exact ⟨(0), by simp [go_sem], by omega, by omega⟩
      | 1, _ => exact ⟨(0), by simp [go_sem], by omega, by omega⟩
      | 2, _ => exact ⟨(0), by simp [go_sem], by omega, by omega⟩
      | 3, _ => exact ⟨(0), by simp [go_sem], by omega, by omega⟩
      | 4, _ => exact ⟨(1), by simp [go_sem], by omega, by omega⟩
      | 5, _ => exact ⟨(2), by simp [go_sem], by omega, by omega⟩
      | 6, _ => exact ⟨(3), by simp [go_sem], by omega, by omega⟩
    · intro n vs aa w' haa hJ hd K hK
      refine ob_plain rfl ?_
      refine ob_move _ (v := .pointer (some ⟨g, 0, none⟩)) rfl (ev_of haa (by kernel_rfl)) ?_
      refine hK _ _ ?_ (G2.refl _ _ _ _) ⟨hJ.1, (by obtain ⟨p', h1, h2⟩ := hJ.2.1; exact ⟨p', by omega, h2⟩), hJ.2.2⟩
      show (IsPtr g) w' _
      exact rfl
    · intro n vs aa w' haa hJ hd K hK
      refine ob_plain rfl ?_
      have d8 : (IsPtr g) w' (vs 8) := hd.1 rfl
      have e8 := d8
      obtain ⟨hg', ⟨p', hp', hr'⟩, z, hz⟩ := hJ
      refine ob_call 55 _ _ #[.pointer (some ⟨g, 0, none⟩), .int .i64 (7)] rfl (Eq.trans (b := #[vs 8, .int .i64 (7)]) (evs_of haa (by kernel_rfl)) (by rw [e8])) (fun _ _ => by kernel_rfl) ?_
      refine (pick_any g A len cap p' (7) _ hr' (by omega) (by omega) (by omega)).mono ?_
      rintro e w2 ⟨x, rfl, x0, x1, hr2, hg2⟩
      refine ⟨_, rfl, ?_⟩
      refine hK _ _ ?_ (G2.of hg2 hgr2) ⟨hg'.trans (G2.of hg2 hgr2), ⟨p' + 1, by omega, hr2⟩, z, hz.kept hg2 (ne_some hgr2)⟩
      show (IntIn (0) (6)) w' _
      exact ⟨x, rfl, x0, by omega⟩
    · intro n vs aa w' haa hJ hd K hK
      refine ob_plain rfl ?_
      have d7 : (Arr2 g r 7 (0) (3)) w' (vs 7) := hd.1 rfl
      obtain ⟨b7, e7, n7, z7, c7⟩ := d7
      have d9 : (IntIn (0) (6)) w' (vs 9) := hd.2.1 rfl
      obtain ⟨x9, e9, l9, u9⟩ := d9
      refine ob_index _ _ _ (by simp) (u := x9) rfl (Eq.trans (b := vs 7) (ev_of haa (by kernel_rfl)) e7) (Eq.trans (b := vs 9) (ev_of haa (by kernel_rfl)) e9) (by omega) (by omega) ?_
      obtain ⟨y, hy, y0, y1⟩ := c7 x9.toNat (by omega)
      refine hK _ _ ?_ (G2.refl _ _ _ _) ⟨hJ.1, (by obtain ⟨p', h1, h2⟩ := hJ.2.1; exact ⟨p', by omega, h2⟩), hJ.2.2⟩
      show (El2 g r (0) (3)) w' _
      exact ⟨b7, _, rfl, n7, z7, y, by rw [Nat.zero_add]; exact hy, y0, y1⟩
    · intro n vs aa w' haa hJ hd K hK
      refine ob_plain rfl ?_
      have d10 : (El2 g r (0) (3)) w' (vs 10) := hd.1 rfl
      obtain ⟨b10, j10, e10, n10, z10, x10, c10, l10, u10⟩ := d10
      refine ob_load _ _ (by simp) rfl (Eq.trans (b := vs 10) (ev_of haa (by kernel_rfl)) e10) c10 ?_
      refine hK _ _ ?_ (G2.refl _ _ _ _) ⟨hJ.1, (by obtain ⟨p', h1, h2⟩ := hJ.2.1; exact ⟨p', by omega, h2⟩), hJ.2.2⟩
      show (IntIn (0) (3)) w' _
      exact ⟨_, rfl, l10, u10⟩
    · intro n vs aa w' haa hJ hd K hK
      refine ob_plain rfl ?_
      have d6 : (Arr2 g r 4 (-1) (100001)) w' (vs 6) := hd.1 rfl
      obtain ⟨b6, e6, n6, z6, c6⟩ := d6
      have d11 : (IntIn (0) (3)) w' (vs 11) := hd.2.1 rfl
      obtain ⟨x11, e11, l11, u11⟩ := d11
      refine ob_index _ _ _ (by simp) (u := x11) rfl (Eq.trans (b := vs 6) (ev_of haa (by kernel_rfl)) e6) (Eq.trans (b := vs 11) (ev_of haa (by kernel_rfl)) e11) (by omega) (by omega) ?_
      obtain ⟨y, hy, y0, y1⟩ := c6 x11.toNat (by omega)
      refine hK _ _ ?_ (G2.refl _ _ _ _) ⟨hJ.1, (by obtain ⟨p', h1, h2⟩ := hJ.2.1; exact ⟨p', by omega, h2⟩), hJ.2.2⟩
      show (El2 g r (-1) (100001)) w' _
      exact ⟨b6, _, rfl, n6, z6, y, by rw [Nat.zero_add]; exact hy, y0, y1⟩
    · intro n vs aa w' haa hJ hd K hK
      refine ob_plain rfl ?_
      have d12 : (El2 g r (-1) (100001)) w' (vs 12) := hd.1 rfl
      obtain ⟨b12, j12, e12, n12, z12, x12, c12, l12, u12⟩ := d12
      refine ob_load _ _ (by simp) rfl (Eq.trans (b := vs 12) (ev_of haa (by kernel_rfl)) e12) c12 ?_
      refine hK _ _ ?_ (G2.refl _ _ _ _) ⟨hJ.1, (by obtain ⟨p', h1, h2⟩ := hJ.2.1; exact ⟨p', by omega, h2⟩), hJ.2.2⟩
      show (IntIn (-1) (100001)) w' _
      exact ⟨_, rfl, l12, u12⟩
    · intro n vs aa w' haa hJ hd K hK
      refine ob_plain rfl ?_
      have d0 : (IsVal ((u).val)) w' (vs 0) := hd.1 rfl
      have e0 := d0
      refine ob_storeV _ _ (r := r) (u := u) rfl rfl (ev_of haa (by kernel_rfl)) (Eq.trans (b := vs 0) (ev_of haa (by kernel_rfl)) e0) hJ.2.2.choose_spec ?_
      have hst := hJ.2.2.choose_spec.set u
      refine hK undef _ ?_ (G2.store hJ.2.2.choose_spec) ⟨hJ.1.trans (G2.store hJ.2.2.choose_spec), (by obtain ⟨p', h1, h2⟩ := hJ.2.1; exact ⟨p', by omega, h2.store2 hst.2 hgr2 hcr⟩), _, hst.1⟩
      exact hst.1
  intro vs w' hJ hall
  obtain ⟨N, hN, N0, N1⟩ : IntIn (-1) 100001 w' (vs 13) := hall 13 (by decide)
  have hru := hall 14 (by decide)
  clear hall
  replace hru : HasV w' r u := hru
  obtain ⟨hg, ⟨p', hp', hr'⟩, -⟩ := hJ
  have HG := Lib.hid hg
  obtain ⟨r0, r1, r2, r3, r4⟩ := hru.cells
  clear hr' hg hR
  simp only [List.take_succ_cons, List.take_zero, List.drop_succ_cons, List.drop_zero, fill, Act.put, List.toList_toArray, List.setIfInBounds_toArray, List.set_cons_zero, List.set_cons_succ, Nat.zero_add, Nat.reduceAdd, hN]
  go_wp2_with fail
  refine bodyPost_ret (v := .tuple #[u.val, .int .i64 N]) (by simp [results, Try.results15, go_sem, r0, r1, r2, r3, r4]) rfl ?_
  have h2 := HB.out.grown HD.out.hg HB.out.size (by intro k hk; injection hk with hk; omega)
  refine ⟨u, N, rfl, hu, N0, N1, ⟨HG.out.1.1.trans h2.os, HG.out.1.2.1.trans h2.tape, HG.out.1.2.2.trans h2.output, Nat.le_trans h2.size HG.out.2.1, fun k hk => ?_⟩⟩
  exact (HG.out.2.2.1 k (Nat.lt_of_lt_of_le hk h2.size) (by omega) (by have := HRW.out; omega)).trans (h2.block k hk)
def GivesLN (w : World) (e : Ending) (w' : World) : Prop := ∃ (A : Option Addr) (c : Nat) (ts : List TVoice) (n : Int), e = .returned (.tuple #[.slice A ts.length c, .int .i64 n]) ∧ (ts.length ≤ c ∧ (A = none → c = 0)) ∧ Reads w' w'.heap.size 5 A ts.length (iv (flVoice ts)) ∧ ts.length ≤ 5 ∧ (-1 ≤ n ∧ n ≤ 39) ∧ Below w.heap.size w w'
theorem div13 {x : Int} (h0 : 0 ≤ x) (h1 : x ≤ 13) : 0 ≤ x / 13 ∧ x / 13 ≤ 1 := by omega
theorem own_nilc {w : World} {base e size n c : Nat} {A : Option Addr} {xs : List Value} (o : w.ownsRow base e size (.slice A n c) n xs) : A = none → c = 0 := by
  rintro rfl
  rcases own_block o with ⟨_, _, h⟩ | ⟨g, e, _⟩
  · exact h
  · cases e
set_option maxHeartbeats 4000000 in
theorem drawMixVoices_any (A : Option Addr) (n c : Nat) (zs : List Int) (w : World) (h : IsRow .u8 w A n c zs) :
    Calls Try.prog 30 #[.slice A n c] w (GivesLN w) := by
  have HI := Lib.hid h
  clear h
  go_enter Try.func30, Try.ntmps30
  go_wp2_with fail
  refine (open_any A n c zs _ HI.out).mono ?_
  rintro e w1 ⟨len, cap, rfl, hR, hb1⟩
  obtain ⟨g, hg0⟩ : ∃ g, g = w.heap.size := ⟨_, rfl⟩
  rw [← hg0] at hR ⊢
  have HD := Lib.hid (Drs.start hR)
  replace hb1 := Lib.hid hb1
  have hgl := hR.lt
  replace hg0 := Lib.hid hg0
  clear hR
  have hown0 : (w1.alloc (.cells #[] 24)).ownsRow w1.heap.size 24 5 (.slice (some ⟨w1.heap.size, 0, none⟩) 0 0) 0 (iv (flVoice [])) := World.ownsRow_lit w1 #[] 0 (Nat.le_refl _) (by simp [maxLen]) rfl
  have HO := Lib.hid hown0
  replace HD := Lib.hid (HD.out.alloc (.cells #[] 24))
  clear hown0
  go_wp2_with fail
  refine (pick_d HD.out 5 (by omega) (by omega) (by omega)).mono ?_
  rintro e W' ⟨v, rfl, ⟨x, rfl, x0, x1⟩, hD, hgr⟩
  replace HD := Lib.hid hD
  clear hD
  replace HO := Lib.hid (own_rd HO.out hgr hgl)
  clear hgr
  obtain ⟨K0, rfl⟩ := Int.eq_ofNat_of_zero_le x0
  have hK0 : K0 ≤ 4 := by omega
  clear x0 x1
  go_wp2_with fail
  go_loopw [5, 6] (fun out k wr => ∃ (K : Nat) (A' : Option Addr) (c' : Nat) (o : List TVoice), out = .slice A' o.length c' ∧ k = .int .i64 K ∧ o.length + K ≤ 4 ∧ wr.ownsRow w1.heap.size 24 5 (.slice A' o.length c') o.length (iv (flVoice o)) ∧ Drs w1 wr g A len cap 0 (0 + 1 + 20 * (4 - K))) (fun _ k _ => (intOf k).toNat)
  case atStart => exact ⟨K0, _, _, [], rfl, rfl, by simpa using hK0, HO.out, HD.out.more (by omega)⟩
  case round =>
    obtain ⟨K, A', c', o, rfl, rfl, hl, hown, hD⟩ := hrel
    replace HD := Lib.hid hD
    replace HO := Lib.hid hown
    clear hD hown
    by_cases hlt : 0 < K
    · have q1 : (K : Int) > 0 := by omega
      go_wp2_with fail
      refine (l20Voice_d HD.out 40 (by omega) (by omega) (by omega)).mono ?_
      rintro e W' ⟨v, rfl, ⟨u, rfl, hu⟩, hD, hgr⟩
      replace HD := Lib.hid hD
      clear hD
      replace HO := Lib.hid (own_rd HO.out hgr hgl)
      clear hgr hu
      go_wp2_with (at_builtin; refine push_voice _ rfl _ _ rfl w1.heap.size o.length c' 1 1 _ A' (some ⟨W'.heap.size, 0, none⟩) (flVoice o) (flVoice [(u.l, u.h, u.a, u.s, u.f)]) rfl rfl (HO.out.alloc _) (voice_lit [(u.l, u.h, u.a, u.s, u.f)] _ rfl (by simp)) (by intro h; cases h) (by omega) (Nat.le_trans HD.out.size.2 (size_alloc_le _ _)) ?_; intro A3 c3 w3 hown3 hg3; rw [← flVoice_app] at hown3; have hD3 := (HD.out.alloc _).push hg3 (fun k hk => (HO.out.lt k hk).1); replace hown3 := Lib.hid hown3; replace hD3 := Lib.hid hD3; clear hg3)
      go_roundw
      case rel => exact ⟨K - 1, A3, c3, o ++ [(u.l, u.h, u.a, u.s, u.f)], by simp, by rw [show (K : Int) - 1 = ((K - 1 : Nat) : Int) by omega], by simp; omega, by rw [List.length_append]; exact hown3.out, hD3.out.more (by omega)⟩
      case measure => simp [intOf]; omega
    · obtain rfl : K = 0 := by omega
      have q1 : ¬ (((0 : Nat) : Int) > 0) := by omega
      go_wp2_with fail
      refine (odd_d HD.out 20 (by omega) (by omega) (by omega)).mono ?_
      rintro e W' ⟨v, rfl, ⟨b, rfl, hb⟩, hD, hgr⟩
      replace HD := Lib.hid hD
      clear hD
      replace HO := Lib.hid (own_rd HO.out hgr hgl)
      clear hgr hb
      cases b
      · go_wp2_with fail
        refine (pick_d HD.out 40 (by omega) (by omega) (by omega)).mono ?_
        rintro e W' ⟨v, rfl, ⟨x, rfl, x0, x1⟩, hD, hgr⟩
        replace HD := Lib.hid hD
        clear hD
        replace HO := Lib.hid (own_rd HO.out hgr hgl)
        clear hgr
        go_wp2_with fail
        refine (pick_d HD.out 14 (by omega) (by omega) (by omega)).mono ?_
        rintro e W' ⟨v, rfl, ⟨y, rfl, y0, y1⟩, hD, hgr⟩
        replace HD := Lib.hid hD
        clear hD
        replace HO := Lib.hid (own_rd HO.out hgr hgl)
        clear hgr
        have m13 := div13 y0 (show y ≤ 13 by omega)
        go_wp2_with fail
        refine bodyPost_ret (results_tmp2 (by rfl) _ _ _) rfl ?_
        exact ⟨_, _, o, x - y / 13, by first | rfl | simp, ⟨own_cap HO.out, own_nilc HO.out⟩, Reads.of_own HO.out, by first | omega | simp, ⟨by omega, by omega⟩, below_rd hb1.out (by rw [← hg0.out]; exact HD.out.hg)⟩
      · have hs := HD.out.size.2
        go_wp2_with (at_make; refine make_voice _ rfl _ _ rfl 5 rfl rfl (by omega) w1.heap.size hs ?_; intro w4 ho4 hb4; replace HO := Lib.hid ho4; replace HD := Lib.hid (HD.out.below hb4); clear ho4 hb4)
        go_wp2_with fail
        refine (pick_d HD.out 40 (by omega) (by omega) (by omega)).mono ?_
        rintro e W' ⟨v, rfl, ⟨x, rfl, x0, x1⟩, hD, hgr⟩
        replace HD := Lib.hid hD
        clear hD
        replace HO := Lib.hid (own_rd HO.out hgr hgl)
        clear hgr
        go_wp2_with fail
        refine (pick_d HD.out 14 (by omega) (by omega) (by omega)).mono ?_
        rintro e W' ⟨v, rfl, ⟨y, rfl, y0, y1⟩, hD, hgr⟩
        replace HD := Lib.hid hD
        clear hD
        replace HO := Lib.hid (own_rd HO.out hgr hgl)
        clear hgr
        have m13 := div13 y0 (show y ≤ 13 by omega)
        go_wp2_with fail
        refine bodyPost_ret (results_tmp2 (by rfl) _ _ _) rfl ?_
        exact ⟨_, _, (List.replicate 5 (0, 0, 0, 0, 0)), x - y / 13, by first | rfl | simp, ⟨own_cap HO.out, own_nilc HO.out⟩, Reads.of_own HO.out, by first | omega | simp, ⟨by omega, by omega⟩, below_rd hb1.out (by rw [← hg0.out]; exact HD.out.hg)⟩
end Go.Proofs.Ytmenehgbhgehjaa
