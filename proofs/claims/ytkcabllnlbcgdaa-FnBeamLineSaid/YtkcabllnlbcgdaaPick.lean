/-
  The reader of a code: contracts of l20Open, pick and odd. No condition.
-/
import Derived.Test.YtkcabllnlbcgdaaRd
import Derived.Deep.QuietTactic
import Derived.BigQuiet
import Derived.OpenShut
namespace Go.Proofs.Ytkcabllnlbcgdaa
open Go.RowKit
set_option linter.unusedVariables false
set_option linter.unusedSimpArgs false
theorem lt_of_cell {w : World} {a : Addr} {v : Value} (h : w.cell? a = some v) : a.block < w.heap.size := by
  rcases Nat.lt_or_ge a.block w.heap.size with hlt | hge
  · exact hlt
  · simp [World.cell?, Array.getElem?_eq_none hge] at h
theorem xor_nn {x : Int} (h0 : 0 ≤ x) (h1 : x ≤ 1000000000000000) : 0 ≤ bits .xor .i64 x (x / 64) := by
  obtain ⟨n, rfl⟩ := Int.eq_ofNat_of_zero_le h0
  rw [show (n : Int) / 64 = ((n / 64 : Nat) : Int) by omega, i64_xor_nat n (n / 64) (by omega) (by omega)]
  omega
theorem code_of_row {w : World} {A : Option Addr} {n c g len : Nat} {zs : List Int} (h : IsRow .u8 w A n c zs) (hl : len ≤ n) (hg : w.heap.size ≤ g) : CodeR w g A len := by
  intro h0
  rcases h with ⟨_, h1, _⟩ | ⟨x, rfl, h1, h2, h3, hc, hw⟩
  · omega
  · obtain ⟨b, off, spot⟩ := x
    have hc0 := hc 0 (by omega)
    have hs : spot = none := by simpa [Addr.add] using World.cell?_spot hc0
    subst hs
    have hb := lt_of_cell hc0
    simp only [Addr.add] at hb
    have hb : b < w.heap.size := by simpa using hb
    refine ⟨b, off, rfl, by omega, hb, fun k hk => ⟨zs.getD k 0, ?_, ?_⟩⟩
    · have := hc k (by omega)
      simpa [go_sem] using this
    · have hm : zs.getD k 0 ∈ zs := by
        rw [List.getD_eq_getElem?_getD, List.getElem?_eq_getElem (show k < zs.length by omega)]
        exact List.getElem_mem _
      have := hw _ hm
      simp [Lit.wf, IntKind.min, IntKind.max, IntKind.signed, IntKind.bits] at this
      simpa using this
set_option maxRecDepth 100000 in
set_option maxHeartbeats 1000000 in
theorem pick_any (g : Nat) (A : Option Addr) (len cap p : Nat) (n : Int) (w : World) (hR : Rd w g A len cap p) (hp : p ≤ 1000000000) (hn0 : 1 ≤ n) (hn1 : n ≤ 1000000000) :
    Calls Try.prog 47 #[.pointer (some ⟨g, 0, none⟩), .int .i64 n] w fun e w' => ∃ x : Int, e = .returned (.int .i64 x) ∧ 0 ≤ x ∧ x ≤ n - 1 ∧ Rd w' g A len cap (p + 1) ∧ w.grownBy w' (some g) := by
  have c0 : w.cell? ⟨g, 0, none⟩ = some (.slice A len cap) := hR.1.cell 0
  have c1 : w.cell? ⟨g, 1, none⟩ = some (.int .i64 p) := hR.1.cell 1
  have f1 : w.frozen? ⟨g, 1, none⟩ = false := hR.1.frozen 1
  have g1 : w.grownBy (w.setCell ⟨g, 1, none⟩ (.int .i64 ((p : Int) + 1))) (some g) := ⟨rfl, rfl, rfl, by simp, fun i hi hne => (Below.heap_setCell w ⟨g, 1, none⟩ _ i (by intro e; exact hne (by rw [e])))⟩
  have hR1 : Rd (w.setCell ⟨g, 1, none⟩ (.int .i64 ((p : Int) + 1))) g A len cap (p + 1) := ⟨by have := hR.1.set_ 1 (.int .i64 ((p : Int) + 1)); simpa using this, hR.2.1.grown g1, hR.2.2⟩
  have hle := hR.2.2.1
  by_cases h0 : len = 0
  · subst h0
    have G := Lib.hid g1
    have H := Lib.hid hR1
    clear g1 hR1 hR
    go_enter Try.func47, Try.ntmps47
    go_wp2
    go_ret
    exact ⟨0, rfl, by omega, by omega, H.out, G.out⟩
  have hn2 : decide (n < 1) = false := decide_eq_false (by omega)
  have hl2 : ((len : Int) == 0) = false := by simp; omega
  by_cases h1 : p < len
  · obtain ⟨b, off, rfl, hne, hb, hc⟩ := hR.2.1 (by omega)
    obtain ⟨x, hx, x0, x1⟩ := hc p h1
    have G := Lib.hid g1
    have H := Lib.hid hR1
    clear g1 hR1 hR hc
    go_enter Try.func47, Try.ntmps47
    go_wp2
    go_ret
    have r0 := Int.emod_nonneg x (show n ≠ 0 by omega)
    have r1 := Int.emod_lt_of_pos x (show 0 < n by omega)
    exact ⟨x % n, rfl, r0, by omega, H.out, G.out⟩
  · have G := Lib.hid g1
    have H := Lib.hid hR1
    clear g1 hR1 hR
    go_enter Try.func47, Try.ntmps47
    go_wp2
    have hR := H.out
    have hl0 : 1 ≤ (len : Int) := by omega
    have hl1 : (len : Int) ≤ 2000 := by omega
    have hpp : (p : Int) ≤ 1000000000 := by omega
    refine region_list (some g) (IsPtr g :: IsPtr g :: IsFld g 0 :: IsVal (.slice A len cap) :: IntIn ((p : Int)) ((p : Int)) :: IsPtr g :: IsPtr g :: IsFld g 0 :: IsVal (.slice A len cap) :: IntIn ((len : Int)) ((len : Int)) :: IntIn (0) ((len : Int) - 1) :: U8At g :: U8In :: IntIn (0) (255) :: IntIn (0) (33405) :: IsPtr g :: IsPtr g :: IsFld g 0 :: IsVal (.slice A len cap) :: IntIn ((p : Int)) ((p : Int)) :: IntIn ((p : Int) * 7) (((p : Int)) * 7) :: IntIn ((p : Int) * 7 + 3) (((p : Int)) * 7 + 3) :: IsPtr g :: IsPtr g :: IsFld g 0 :: IsVal (.slice A len cap) :: IntIn ((len : Int)) ((len : Int)) :: IntIn (0) ((len : Int) - 1) :: U8At g :: U8In :: IntIn (0) (255) :: IntIn (0) (284835) :: IntIn (0) (318240) :: IntIn ((p : Int)) ((p : Int)) :: IntIn ((p : Int) * 29) (((p : Int)) * 29) :: IntIn (0 + (p : Int) * 29) (318240 + ((p : Int)) * 29) :: IntIn ((p : Int)) ((p : Int)) :: IsPtr g :: IsPtr g :: IsFld g 0 :: IsVal (.slice A len cap) :: IntIn ((len : Int)) ((len : Int)) :: IntIn (0) ((p : Int)) :: IntIn (0) (((p : Int)) * 53) :: IntIn (0 + (p : Int) * 29 + 0) (318240 + ((p : Int)) * 29 + ((p : Int)) * 53) :: IntIn (0 + (p : Int) * 29 + 0) (318240 + ((p : Int)) * 29 + ((p : Int)) * 53) :: []) (fun _ w' => w' = (w.setCell ⟨g, 1, none⟩ (.int .i64 ((p : Int) + 1))).drew) ?_ ?_ ?_ ?_ ?_ ?_ ?_
    · kernel_rfl
    · exact ⟨st_ptr _ _, st_ptr _ _, st_fld _ _ _, st_val _ _, st_int _ _ _, st_ptr _ _, st_ptr _ _, st_fld _ _ _, st_val _ _, st_int _ _ _, st_int _ _ _, st_u8at _, st_u8 _, st_int _ _ _, st_int _ _ _, st_ptr _ _, st_ptr _ _, st_fld _ _ _, st_val _ _, st_int _ _ _, st_int _ _ _, st_int _ _ _, st_ptr _ _, st_ptr _ _, st_fld _ _ _, st_val _ _, st_int _ _ _, st_int _ _ _, st_u8at _, st_u8 _, st_int _ _ _, st_int _ _ _, st_int _ _ _, st_int _ _ _, st_int _ _ _, st_int _ _ _, st_int _ _ _, st_ptr _ _, st_ptr _ _, st_fld _ _ _, st_val _ _, st_int _ _ _, st_int _ _ _, st_int _ _ _, st_int _ _ _, st_int _ _ _, trivial⟩
    · exact of_decide_eq_true (by kernel_rfl)
    · kernel_rfl
    · exact rfl
    · refine each_cons ?_ (each_cons ?_ (each_cons ?_ (each_cons ?_ (each_cons ?_ (each_cons ?_ (each_cons ?_ (each_cons ?_ (each_cons ?_ (each_cons ?_ (each_cons ?_ (each_cons ?_ (each_cons ?_ (each_cons ?_ (each_cons ?_ (each_cons ?_ (each_cons ?_ (each_cons ?_ (each_cons ?_ (each_cons ?_ (each_cons ?_ (each_cons ?_ (each_cons ?_ (each_cons ?_ (each_cons ?_ (each_cons ?_ (each_cons ?_ (each_cons ?_ (each_cons ?_ (each_cons ?_ (each_cons ?_ (each_cons ?_ (each_cons ?_ (each_cons ?_ (each_cons ?_ (each_cons ?_ (each_cons ?_ (each_cons ?_ (each_cons ?_ (each_cons ?_ (each_cons ?_ (each_cons ?_ (each_cons ?_ (each_cons ?_ (each_cons ?_ (each_cons ?_ ( trivial))))))))))))))))))))))))))))))))))))))))))))))
      · intro n vs aa w' haa hJ hd K hK
        refine ob_plain rfl ?_
        refine ob_move _ (v := .pointer (some ⟨g, 0, none⟩)) rfl (ev_of haa (by kernel_rfl)) ?_
        refine hK _ _ ?_ (World.grownBy.refl _ _) hJ
        show (IsPtr g) w' _
        exact rfl
      · intro n vs aa w' haa hJ hd K hK
        refine ob_plain rfl ?_
        have d0 : (IsPtr g) w' (vs 0) := hd.1 rfl
        have e0 := d0
        refine ob_nil _ rfl (Eq.trans (b := vs 0) (ev_of haa (by kernel_rfl)) e0) ?_
        refine hK _ _ ?_ (World.grownBy.refl _ _) hJ
        show (IsPtr g) w' _
        exact rfl
      · intro n vs aa w' haa hJ hd K hK
        refine ob_plain rfl ?_
        have d1 : (IsPtr g) w' (vs 1) := hd.1 rfl
        have e1 := d1
        refine ob_fld _ 0 rfl (by omega) (Eq.trans (b := vs 1) (ev_of haa (by kernel_rfl)) e1) ?_
        refine hK _ _ ?_ (World.grownBy.refl _ _) hJ
        show (IsFld g 0) w' _
        exact rfl
      · intro n vs aa w' haa hJ hd K hK
        refine ob_plain rfl ?_
        have hrd : Rd w' g A len cap (p + 1) := by rw [hJ]; exact hR
        have d2 : (IsFld g 0) w' (vs 2) := hd.1 rfl
        have e2 := d2
        refine ob_load _ _ (by simp) (v := .slice A len cap) rfl (Eq.trans (b := vs 2) (ev_of haa (by kernel_rfl)) e2) (by first | exact (hrd.1.cell 0) | (subst hJ; exact hrd.1.cell 0)) ?_
        refine hK _ _ ?_ (World.grownBy.refl _ _) hJ
        show (IsVal (.slice A len cap)) w' _
        exact rfl
      · intro n vs aa w' haa hJ hd K hK
        refine ob_plain rfl ?_
        refine ob_move _ (v := .int .i64 ((p : Int))) rfl (ev_of haa (by kernel_rfl)) ?_
        refine hK _ _ ?_ (World.grownBy.refl _ _) hJ
        show (IntIn ((p : Int)) ((p : Int))) w' _
        exact ⟨_, rfl, Int.le_refl _, Int.le_refl _⟩
      · intro n vs aa w' haa hJ hd K hK
        refine ob_plain rfl ?_
        refine ob_move _ (v := .pointer (some ⟨g, 0, none⟩)) rfl (ev_of haa (by kernel_rfl)) ?_
        refine hK _ _ ?_ (World.grownBy.refl _ _) hJ
        show (IsPtr g) w' _
        exact rfl
      · intro n vs aa w' haa hJ hd K hK
        refine ob_plain rfl ?_
        have d5 : (IsPtr g) w' (vs 5) := hd.1 rfl
        have e5 := d5
        refine ob_nil _ rfl (Eq.trans (b := vs 5) (ev_of haa (by kernel_rfl)) e5) ?_
        refine hK _ _ ?_ (World.grownBy.refl _ _) hJ
        show (IsPtr g) w' _
        exact rfl
      · intro n vs aa w' haa hJ hd K hK
        refine ob_plain rfl ?_
        have d6 : (IsPtr g) w' (vs 6) := hd.1 rfl
        have e6 := d6
        refine ob_fld _ 0 rfl (by omega) (Eq.trans (b := vs 6) (ev_of haa (by kernel_rfl)) e6) ?_
        refine hK _ _ ?_ (World.grownBy.refl _ _) hJ
        show (IsFld g 0) w' _
        exact rfl
      · intro n vs aa w' haa hJ hd K hK
        refine ob_plain rfl ?_
        have hrd : Rd w' g A len cap (p + 1) := by rw [hJ]; exact hR
        have d7 : (IsFld g 0) w' (vs 7) := hd.1 rfl
        have e7 := d7
        refine ob_load _ _ (by simp) (v := .slice A len cap) rfl (Eq.trans (b := vs 7) (ev_of haa (by kernel_rfl)) e7) (by first | exact (hrd.1.cell 0) | (subst hJ; exact hrd.1.cell 0)) ?_
        refine hK _ _ ?_ (World.grownBy.refl _ _) hJ
        show (IsVal (.slice A len cap)) w' _
        exact rfl
      · intro n vs aa w' haa hJ hd K hK
        refine ob_plain rfl ?_
        have d8 : (IsVal (.slice A len cap)) w' (vs 8) := hd.1 rfl
        have e8 := d8
        refine ob_len _ _ (by simp) rfl (Eq.trans (b := vs 8) (ev_of haa (by kernel_rfl)) e8) ?_
        refine hK _ _ ?_ (World.grownBy.refl _ _) hJ
        show (IntIn ((len : Int)) ((len : Int))) w' _
        exact ⟨_, rfl, Int.le_refl _, Int.le_refl _⟩
      · intro n vs aa w' haa hJ hd K hK
        refine ob_plain rfl ?_
        have d4 : (IntIn ((p : Int)) ((p : Int))) w' (vs 4) := hd.1 rfl
        obtain ⟨x4, e4, l4, u4⟩ := d4
        have d9 : (IntIn ((len : Int)) ((len : Int))) w' (vs 9) := hd.2.1 rfl
        obtain ⟨x9, e9, l9, u9⟩ := d9
        refine ob_rem _ _ (u := x4) (v := x9) rfl (Eq.trans (b := vs 4) (ev_of haa (by kernel_rfl)) e4) (Eq.trans (b := vs 9) (ev_of haa (by kernel_rfl)) e9) (by omega) (by omega) ?_
        have r0 := Int.emod_nonneg (x4) (show (x9 : Int) ≠ 0 by omega)
        have r1 := Int.emod_lt_of_pos (x4) (show (0 : Int) < x9 by omega)
        refine hK _ _ ?_ (World.grownBy.refl _ _) hJ
        show (IntIn (0) ((len : Int) - 1)) w' _
        exact ⟨_, rfl, by omega, by omega⟩
      · intro n vs aa w' haa hJ hd K hK
        refine ob_plain rfl ?_
        have hrd : Rd w' g A len cap (p + 1) := by rw [hJ]; exact hR
        have d3 : (IsVal (.slice A len cap)) w' (vs 3) := hd.1 rfl
        have e3 := d3
        have d10 : (IntIn (0) ((len : Int) - 1)) w' (vs 10) := hd.2.1 rfl
        obtain ⟨x10, e10, l10, u10⟩ := d10
        obtain ⟨bb, off, eA, ne, hlt, hc⟩ := hrd.2.1 (by omega)
        subst eA
        refine ob_index _ _ _ (by simp) (u := x10) rfl (Eq.trans (b := vs 3) (ev_of haa (by kernel_rfl)) e3) (Eq.trans (b := vs 10) (ev_of haa (by kernel_rfl)) e10) (by omega) (by omega) ?_
        obtain ⟨y, hy, y0, y1⟩ := hc x10.toNat (by omega)
        refine hK _ _ ?_ (World.grownBy.refl _ _) hJ
        show (U8At g) w' _
        exact ⟨bb, _, rfl, ne, by first | exact hlt | (subst hJ; exact hlt), y, by first | exact hy | (subst hJ; exact hy), y0, y1⟩
      · intro n vs aa w' haa hJ hd K hK
        refine ob_plain rfl ?_
        have d11 : (U8At g) w' (vs 11) := hd.1 rfl
        obtain ⟨b11, j11, e11, n11, z11, x11, c11, l11, u11⟩ := d11
        refine ob_load _ _ (by simp) rfl (Eq.trans (b := vs 11) (ev_of haa (by kernel_rfl)) e11) c11 ?_
        refine hK _ _ ?_ (World.grownBy.refl _ _) hJ
        show (U8In) w' _
        exact ⟨_, rfl, l11, u11⟩
      · intro n vs aa w' haa hJ hd K hK
        refine ob_plain rfl ?_
        have d12 : (U8In) w' (vs 12) := hd.1 rfl
        obtain ⟨x12, e12, l12, u12⟩ := d12
        refine ob_conv _ rfl (Eq.trans (b := vs 12) (ev_of haa (by kernel_rfl)) e12) ⟨l12, u12⟩ ?_
        refine hK _ _ ?_ (World.grownBy.refl _ _) hJ
        show (IntIn (0) (255)) w' _
        exact ⟨_, rfl, l12, u12⟩
      · intro n vs aa w' haa hJ hd K hK
        refine ob_plain rfl ?_
        have d13 : (IntIn (0) (255)) w' (vs 13) := hd.1 rfl
        obtain ⟨x13, e13, l13, u13⟩ := d13
        refine ob_mul _ _ (u := x13) (v := (131)) rfl (Eq.trans (b := vs 13) (ev_of haa (by kernel_rfl)) e13) (ev_of haa (by kernel_rfl)) (by omega) ?_
        refine hK _ _ ?_ (World.grownBy.refl _ _) hJ
        show (IntIn (0) (33405)) w' _
        exact ⟨_, rfl, by omega, by omega⟩
      · intro n vs aa w' haa hJ hd K hK
        refine ob_plain rfl ?_
        refine ob_move _ (v := .pointer (some ⟨g, 0, none⟩)) rfl (ev_of haa (by kernel_rfl)) ?_
        refine hK _ _ ?_ (World.grownBy.refl _ _) hJ
        show (IsPtr g) w' _
        exact rfl
      · intro n vs aa w' haa hJ hd K hK
        refine ob_plain rfl ?_
        have d15 : (IsPtr g) w' (vs 15) := hd.1 rfl
        have e15 := d15
        refine ob_nil _ rfl (Eq.trans (b := vs 15) (ev_of haa (by kernel_rfl)) e15) ?_
        refine hK _ _ ?_ (World.grownBy.refl _ _) hJ
        show (IsPtr g) w' _
        exact rfl
      · intro n vs aa w' haa hJ hd K hK
        refine ob_plain rfl ?_
        have d16 : (IsPtr g) w' (vs 16) := hd.1 rfl
        have e16 := d16
        refine ob_fld _ 0 rfl (by omega) (Eq.trans (b := vs 16) (ev_of haa (by kernel_rfl)) e16) ?_
        refine hK _ _ ?_ (World.grownBy.refl _ _) hJ
        show (IsFld g 0) w' _
        exact rfl
      · intro n vs aa w' haa hJ hd K hK
        refine ob_plain rfl ?_
        have hrd : Rd w' g A len cap (p + 1) := by rw [hJ]; exact hR
        have d17 : (IsFld g 0) w' (vs 17) := hd.1 rfl
        have e17 := d17
        refine ob_load _ _ (by simp) (v := .slice A len cap) rfl (Eq.trans (b := vs 17) (ev_of haa (by kernel_rfl)) e17) (by first | exact (hrd.1.cell 0) | (subst hJ; exact hrd.1.cell 0)) ?_
        refine hK _ _ ?_ (World.grownBy.refl _ _) hJ
        show (IsVal (.slice A len cap)) w' _
        exact rfl
      · intro n vs aa w' haa hJ hd K hK
        refine ob_plain rfl ?_
        refine ob_move _ (v := .int .i64 ((p : Int))) rfl (ev_of haa (by kernel_rfl)) ?_
        refine hK _ _ ?_ (World.grownBy.refl _ _) hJ
        show (IntIn ((p : Int)) ((p : Int))) w' _
        exact ⟨_, rfl, Int.le_refl _, Int.le_refl _⟩
      · intro n vs aa w' haa hJ hd K hK
        refine ob_plain rfl ?_
        have d19 : (IntIn ((p : Int)) ((p : Int))) w' (vs 19) := hd.1 rfl
        obtain ⟨x19, e19, l19, u19⟩ := d19
        refine ob_mul _ _ (u := x19) (v := (7)) rfl (Eq.trans (b := vs 19) (ev_of haa (by kernel_rfl)) e19) (ev_of haa (by kernel_rfl)) (by omega) ?_
        refine hK _ _ ?_ (World.grownBy.refl _ _) hJ
        show (IntIn ((p : Int) * 7) (((p : Int)) * 7)) w' _
        exact ⟨_, rfl, by omega, by omega⟩
      · intro n vs aa w' haa hJ hd K hK
        refine ob_plain rfl ?_
        have d20 : (IntIn ((p : Int) * 7) (((p : Int)) * 7)) w' (vs 20) := hd.1 rfl
        obtain ⟨x20, e20, l20, u20⟩ := d20
        refine ob_add _ _ (u := x20) (v := (3)) rfl (Eq.trans (b := vs 20) (ev_of haa (by kernel_rfl)) e20) (ev_of haa (by kernel_rfl)) (by omega) ?_
        refine hK _ _ ?_ (World.grownBy.refl _ _) hJ
        show (IntIn ((p : Int) * 7 + 3) (((p : Int)) * 7 + 3)) w' _
        exact ⟨_, rfl, by omega, by omega⟩
      · intro n vs aa w' haa hJ hd K hK
        refine ob_plain rfl ?_
        refine ob_move _ (v := .pointer (some ⟨g, 0, none⟩)) rfl (ev_of haa (by kernel_rfl)) ?_
        refine hK _ _ ?_ (World.grownBy.refl _ _) hJ
        show (IsPtr g) w' _
        exact rfl
      · intro n vs aa w' haa hJ hd K hK
        refine ob_plain rfl ?_
        have d22 : (IsPtr g) w' (vs 22) := hd.1 rfl
        have e22 := d22
        refine ob_nil _ rfl (Eq.trans (b := vs 22) (ev_of haa (by kernel_rfl)) e22) ?_
        refine hK _ _ ?_ (World.grownBy.refl _ _) hJ
        show (IsPtr g) w' _
        exact rfl
      · intro n vs aa w' haa hJ hd K hK
        refine ob_plain rfl ?_
        have d23 : (IsPtr g) w' (vs 23) := hd.1 rfl
        have e23 := d23
        refine ob_fld _ 0 rfl (by omega) (Eq.trans (b := vs 23) (ev_of haa (by kernel_rfl)) e23) ?_
        refine hK _ _ ?_ (World.grownBy.refl _ _) hJ
        show (IsFld g 0) w' _
        exact rfl
      · intro n vs aa w' haa hJ hd K hK
        refine ob_plain rfl ?_
        have hrd : Rd w' g A len cap (p + 1) := by rw [hJ]; exact hR
        have d24 : (IsFld g 0) w' (vs 24) := hd.1 rfl
        have e24 := d24
        refine ob_load _ _ (by simp) (v := .slice A len cap) rfl (Eq.trans (b := vs 24) (ev_of haa (by kernel_rfl)) e24) (by first | exact (hrd.1.cell 0) | (subst hJ; exact hrd.1.cell 0)) ?_
        refine hK _ _ ?_ (World.grownBy.refl _ _) hJ
        show (IsVal (.slice A len cap)) w' _
        exact rfl
      · intro n vs aa w' haa hJ hd K hK
        refine ob_plain rfl ?_
        have d25 : (IsVal (.slice A len cap)) w' (vs 25) := hd.1 rfl
        have e25 := d25
        refine ob_len _ _ (by simp) rfl (Eq.trans (b := vs 25) (ev_of haa (by kernel_rfl)) e25) ?_
        refine hK _ _ ?_ (World.grownBy.refl _ _) hJ
        show (IntIn ((len : Int)) ((len : Int))) w' _
        exact ⟨_, rfl, Int.le_refl _, Int.le_refl _⟩
      · intro n vs aa w' haa hJ hd K hK
        refine ob_plain rfl ?_
        have d21 : (IntIn ((p : Int) * 7 + 3) (((p : Int)) * 7 + 3)) w' (vs 21) := hd.1 rfl
        obtain ⟨x21, e21, l21, u21⟩ := d21
        have d26 : (IntIn ((len : Int)) ((len : Int))) w' (vs 26) := hd.2.1 rfl
        obtain ⟨x26, e26, l26, u26⟩ := d26
        refine ob_rem _ _ (u := x21) (v := x26) rfl (Eq.trans (b := vs 21) (ev_of haa (by kernel_rfl)) e21) (Eq.trans (b := vs 26) (ev_of haa (by kernel_rfl)) e26) (by omega) (by omega) ?_
        have r0 := Int.emod_nonneg (x21) (show (x26 : Int) ≠ 0 by omega)
        have r1 := Int.emod_lt_of_pos (x21) (show (0 : Int) < x26 by omega)
        refine hK _ _ ?_ (World.grownBy.refl _ _) hJ
        show (IntIn (0) ((len : Int) - 1)) w' _
        exact ⟨_, rfl, by omega, by omega⟩
      · intro n vs aa w' haa hJ hd K hK
        refine ob_plain rfl ?_
        have hrd : Rd w' g A len cap (p + 1) := by rw [hJ]; exact hR
        have d18 : (IsVal (.slice A len cap)) w' (vs 18) := hd.1 rfl
        have e18 := d18
        have d27 : (IntIn (0) ((len : Int) - 1)) w' (vs 27) := hd.2.1 rfl
        obtain ⟨x27, e27, l27, u27⟩ := d27
        obtain ⟨bb, off, eA, ne, hlt, hc⟩ := hrd.2.1 (by omega)
        subst eA
        refine ob_index _ _ _ (by simp) (u := x27) rfl (Eq.trans (b := vs 18) (ev_of haa (by kernel_rfl)) e18) (Eq.trans (b := vs 27) (ev_of haa (by kernel_rfl)) e27) (by omega) (by omega) ?_
        obtain ⟨y, hy, y0, y1⟩ := hc x27.toNat (by omega)
        refine hK _ _ ?_ (World.grownBy.refl _ _) hJ
        show (U8At g) w' _
        exact ⟨bb, _, rfl, ne, by first | exact hlt | (subst hJ; exact hlt), y, by first | exact hy | (subst hJ; exact hy), y0, y1⟩
      · intro n vs aa w' haa hJ hd K hK
        refine ob_plain rfl ?_
        have d28 : (U8At g) w' (vs 28) := hd.1 rfl
        obtain ⟨b28, j28, e28, n28, z28, x28, c28, l28, u28⟩ := d28
        refine ob_load _ _ (by simp) rfl (Eq.trans (b := vs 28) (ev_of haa (by kernel_rfl)) e28) c28 ?_
        refine hK _ _ ?_ (World.grownBy.refl _ _) hJ
        show (U8In) w' _
        exact ⟨_, rfl, l28, u28⟩
      · intro n vs aa w' haa hJ hd K hK
        refine ob_plain rfl ?_
        have d29 : (U8In) w' (vs 29) := hd.1 rfl
        obtain ⟨x29, e29, l29, u29⟩ := d29
        refine ob_conv _ rfl (Eq.trans (b := vs 29) (ev_of haa (by kernel_rfl)) e29) ⟨l29, u29⟩ ?_
        refine hK _ _ ?_ (World.grownBy.refl _ _) hJ
        show (IntIn (0) (255)) w' _
        exact ⟨_, rfl, l29, u29⟩
      · intro n vs aa w' haa hJ hd K hK
        refine ob_plain rfl ?_
        have d30 : (IntIn (0) (255)) w' (vs 30) := hd.1 rfl
        obtain ⟨x30, e30, l30, u30⟩ := d30
        refine ob_mul _ _ (u := x30) (v := (1117)) rfl (Eq.trans (b := vs 30) (ev_of haa (by kernel_rfl)) e30) (ev_of haa (by kernel_rfl)) (by omega) ?_
        refine hK _ _ ?_ (World.grownBy.refl _ _) hJ
        show (IntIn (0) (284835)) w' _
        exact ⟨_, rfl, by omega, by omega⟩
      · intro n vs aa w' haa hJ hd K hK
        refine ob_plain rfl ?_
        have d14 : (IntIn (0) (33405)) w' (vs 14) := hd.1 rfl
        obtain ⟨x14, e14, l14, u14⟩ := d14
        have d31 : (IntIn (0) (284835)) w' (vs 31) := hd.2.1 rfl
        obtain ⟨x31, e31, l31, u31⟩ := d31
        refine ob_add _ _ (u := x14) (v := x31) rfl (Eq.trans (b := vs 14) (ev_of haa (by kernel_rfl)) e14) (Eq.trans (b := vs 31) (ev_of haa (by kernel_rfl)) e31) (by omega) ?_
        refine hK _ _ ?_ (World.grownBy.refl _ _) hJ
        show (IntIn (0) (318240)) w' _
        exact ⟨_, rfl, by omega, by omega⟩
      · intro n vs aa w' haa hJ hd K hK
        refine ob_plain rfl ?_
        refine ob_move _ (v := .int .i64 ((p : Int))) rfl (ev_of haa (by kernel_rfl)) ?_
        refine hK _ _ ?_ (World.grownBy.refl _ _) hJ
        show (IntIn ((p : Int)) ((p : Int))) w' _
        exact ⟨_, rfl, Int.le_refl _, Int.le_refl _⟩
      · intro n vs aa w' haa hJ hd K hK
        refine ob_plain rfl ?_
        have d33 : (IntIn ((p : Int)) ((p : Int))) w' (vs 33) := hd.1 rfl
        obtain ⟨x33, e33, l33, u33⟩ := d33
        refine ob_mul _ _ (u := x33) (v := (29)) rfl (Eq.trans (b := vs 33) (ev_of haa (by kernel_rfl)) e33) (ev_of haa (by kernel_rfl)) (by omega) ?_
        refine hK _ _ ?_ (World.grownBy.refl _ _) hJ
        show (IntIn ((p : Int) * 29) (((p : Int)) * 29)) w' _
        exact ⟨_, rfl, by omega, by omega⟩
      · intro n vs aa w' haa hJ hd K hK
        refine ob_plain rfl ?_
        have d32 : (IntIn (0) (318240)) w' (vs 32) := hd.1 rfl
        obtain ⟨x32, e32, l32, u32⟩ := d32
        have d34 : (IntIn ((p : Int) * 29) (((p : Int)) * 29)) w' (vs 34) := hd.2.1 rfl
        obtain ⟨x34, e34, l34, u34⟩ := d34
        refine ob_add _ _ (u := x32) (v := x34) rfl (Eq.trans (b := vs 32) (ev_of haa (by kernel_rfl)) e32) (Eq.trans (b := vs 34) (ev_of haa (by kernel_rfl)) e34) (by omega) ?_
        refine hK _ _ ?_ (World.grownBy.refl _ _) hJ
        show (IntIn (0 + (p : Int) * 29) (318240 + ((p : Int)) * 29)) w' _
        exact ⟨_, rfl, by omega, by omega⟩
      · intro n vs aa w' haa hJ hd K hK
        refine ob_plain rfl ?_
        refine ob_move _ (v := .int .i64 ((p : Int))) rfl (ev_of haa (by kernel_rfl)) ?_
        refine hK _ _ ?_ (World.grownBy.refl _ _) hJ
        show (IntIn ((p : Int)) ((p : Int))) w' _
        exact ⟨_, rfl, Int.le_refl _, Int.le_refl _⟩
      · intro n vs aa w' haa hJ hd K hK
        refine ob_plain rfl ?_
        refine ob_move _ (v := .pointer (some ⟨g, 0, none⟩)) rfl (ev_of haa (by kernel_rfl)) ?_
        refine hK _ _ ?_ (World.grownBy.refl _ _) hJ
        show (IsPtr g) w' _
        exact rfl
      · intro n vs aa w' haa hJ hd K hK
        refine ob_plain rfl ?_
        have d37 : (IsPtr g) w' (vs 37) := hd.1 rfl
        have e37 := d37
        refine ob_nil _ rfl (Eq.trans (b := vs 37) (ev_of haa (by kernel_rfl)) e37) ?_
        refine hK _ _ ?_ (World.grownBy.refl _ _) hJ
        show (IsPtr g) w' _
        exact rfl
      · intro n vs aa w' haa hJ hd K hK
        refine ob_plain rfl ?_
        have d38 : (IsPtr g) w' (vs 38) := hd.1 rfl
        have e38 := d38
        refine ob_fld _ 0 rfl (by omega) (Eq.trans (b := vs 38) (ev_of haa (by kernel_rfl)) e38) ?_
        refine hK _ _ ?_ (World.grownBy.refl _ _) hJ
        show (IsFld g 0) w' _
        exact rfl
      · intro n vs aa w' haa hJ hd K hK
        refine ob_plain rfl ?_
        have hrd : Rd w' g A len cap (p + 1) := by rw [hJ]; exact hR
        have d39 : (IsFld g 0) w' (vs 39) := hd.1 rfl
        have e39 := d39
        refine ob_load _ _ (by simp) (v := .slice A len cap) rfl (Eq.trans (b := vs 39) (ev_of haa (by kernel_rfl)) e39) (by first | exact (hrd.1.cell 0) | (subst hJ; exact hrd.1.cell 0)) ?_
        refine hK _ _ ?_ (World.grownBy.refl _ _) hJ
        show (IsVal (.slice A len cap)) w' _
        exact rfl
      · intro n vs aa w' haa hJ hd K hK
        refine ob_plain rfl ?_
        have d40 : (IsVal (.slice A len cap)) w' (vs 40) := hd.1 rfl
        have e40 := d40
        refine ob_len _ _ (by simp) rfl (Eq.trans (b := vs 40) (ev_of haa (by kernel_rfl)) e40) ?_
        refine hK _ _ ?_ (World.grownBy.refl _ _) hJ
        show (IntIn ((len : Int)) ((len : Int))) w' _
        exact ⟨_, rfl, Int.le_refl _, Int.le_refl _⟩
      · intro n vs aa w' haa hJ hd K hK
        refine ob_plain rfl ?_
        have d36 : (IntIn ((p : Int)) ((p : Int))) w' (vs 36) := hd.1 rfl
        obtain ⟨x36, e36, l36, u36⟩ := d36
        have d41 : (IntIn ((len : Int)) ((len : Int))) w' (vs 41) := hd.2.1 rfl
        obtain ⟨x41, e41, l41, u41⟩ := d41
        refine ob_quo _ _ (u := x36) (v := x41) rfl (Eq.trans (b := vs 36) (ev_of haa (by kernel_rfl)) e36) (Eq.trans (b := vs 41) (ev_of haa (by kernel_rfl)) e41) (by omega) (by omega) (by omega) ?_
        have r0 := Int.ediv_nonneg (show 0 ≤ (x36 : Int) by omega) (show 0 ≤ (x41 : Int) by omega)
        have r1 := Int.ediv_le_self (x41) (show 0 ≤ (x36 : Int) by omega)
        refine hK _ _ ?_ (World.grownBy.refl _ _) hJ
        show (IntIn (0) ((p : Int))) w' _
        exact ⟨_, rfl, by omega, by omega⟩
      · intro n vs aa w' haa hJ hd K hK
        refine ob_plain rfl ?_
        have d42 : (IntIn (0) ((p : Int))) w' (vs 42) := hd.1 rfl
        obtain ⟨x42, e42, l42, u42⟩ := d42
        refine ob_mul _ _ (u := x42) (v := (53)) rfl (Eq.trans (b := vs 42) (ev_of haa (by kernel_rfl)) e42) (ev_of haa (by kernel_rfl)) (by omega) ?_
        refine hK _ _ ?_ (World.grownBy.refl _ _) hJ
        show (IntIn (0) (((p : Int)) * 53)) w' _
        exact ⟨_, rfl, by omega, by omega⟩
      · intro n vs aa w' haa hJ hd K hK
        refine ob_plain rfl ?_
        have d35 : (IntIn (0 + (p : Int) * 29) (318240 + ((p : Int)) * 29)) w' (vs 35) := hd.1 rfl
        obtain ⟨x35, e35, l35, u35⟩ := d35
        have d43 : (IntIn (0) (((p : Int)) * 53)) w' (vs 43) := hd.2.1 rfl
        obtain ⟨x43, e43, l43, u43⟩ := d43
        refine ob_add _ _ (u := x35) (v := x43) rfl (Eq.trans (b := vs 35) (ev_of haa (by kernel_rfl)) e35) (Eq.trans (b := vs 43) (ev_of haa (by kernel_rfl)) e43) (by omega) ?_
        refine hK _ _ ?_ (World.grownBy.refl _ _) hJ
        show (IntIn (0 + (p : Int) * 29 + 0) (318240 + ((p : Int)) * 29 + ((p : Int)) * 53)) w' _
        exact ⟨_, rfl, by omega, by omega⟩
      · intro n vs aa w' haa hJ hd K hK
        refine ob_plain rfl ?_
        have d44 : (IntIn (0 + (p : Int) * 29 + 0) (318240 + ((p : Int)) * 29 + ((p : Int)) * 53)) w' (vs 44) := hd.1 rfl
        refine ob_assign _ (v := vs 44) rfl (ev_of haa (by kernel_rfl)) ?_
        refine hK _ _ ?_ (World.grownBy.refl _ _) hJ
        show (IntIn (0 + (p : Int) * 29 + 0) (318240 + ((p : Int)) * 29 + ((p : Int)) * 53)) w' _
        exact d44
    intro vs w' hJ hall
    obtain ⟨x, hx, x0, x1⟩ : IntIn _ _ w' (vs 45) := hall 45 (by decide)
    clear hall
    simp only [fill, List.toList_toArray]
    go_wp2
    go_ret
    have b0 := xor_nn (x := x) (by omega) (by omega)
    generalize bits .xor .i64 x (x / 64) = y at *
    have r0 := Int.emod_nonneg y (show n ≠ 0 by omega)
    have r1 := Int.emod_lt_of_pos y (show 0 < n by omega)
    have e : y.tmod n = y % n := Int.tmod_eq_emod_of_nonneg b0
    exact ⟨y % n, ret_int e, r0, by omega, H.out.drew, G.out.trans (grown_drew _ _)⟩
/-- The reader's making: whatever code. -/
theorem open_any (A : Option Addr) (n c : Nat) (zs : List Int) (w : World) (h : IsRow .u8 w A n c zs) :
    Calls Try.prog 45 #[.slice A n c] w fun e w' => ∃ len cap, e = .returned (.pointer (some ⟨w.heap.size, 0, none⟩)) ∧ Rd w' w.heap.size A len cap 0 ∧ Below w.heap.size w w' := by
  have hn : n ≤ c ∧ c ≤ 9223372036854775807 := by
    rcases h with ⟨_, h1, h2, _⟩ | ⟨x, _, h1, h2, _⟩
    · omega
    · unfold maxLen at h2; omega
  by_cases h0 : n ≤ 2000
  · have hc := code_of_row (g := w.heap.size) h (Nat.le_refl n) (Nat.le_refl _)
    have H := Lib.hid hc
    have hh := Lib.hid h
    clear hc h
    have h2 : ¬ (2000 < n) := by omega
    go_enter Try.func45, Try.ntmps45
    go_wp2
    go_ret
    exact ⟨n, c, rfl, ⟨Blk.new _ _ _, H.out.grown (World.grownBy_alloc _ _ _), h0, hn.1⟩, (Below.refl _ _).alloc (Nat.le_refl _) _⟩
  · have hc := code_of_row (g := w.heap.size) h (show 2000 ≤ n by omega) (Nat.le_refl _)
    have H := Lib.hid hc
    have hh := Lib.hid h
    clear hc h
    have h2 : 2000 < n := by omega
    have h3 : 2000 ≤ c := by omega
    have h4 : c ≤ 9223372036854775807 := hn.2
    go_enter Try.func45, Try.ntmps45
    go_wp2
    go_ret
    exact ⟨2000, c, rfl, ⟨Blk.new _ _ _, H.out.grown (World.grownBy_alloc _ _ _), by omega, h3⟩, (Below.refl _ _).alloc (Nat.le_refl _) _⟩
theorem odd_any (g : Nat) (A : Option Addr) (len cap p : Nat) (n : Int) (w : World) (hR : Rd w g A len cap p) (hp : p ≤ 1000000000) (hn0 : 0 ≤ n) (hn1 : n ≤ 1000000000) :
    Calls Try.prog 82 #[.pointer (some ⟨g, 0, none⟩), .int .i64 n] w fun e w' => ∃ (x : Bool) (p' : Nat), e = .returned (.bool x) ∧ p' ≤ p + 1 ∧ Rd w' g A len cap p' ∧ w.grownBy w' (some g) := by
  by_cases h0 : n = 0
  · subst h0
    have H := Lib.hid hR
    clear hR
    go_enter Try.func82, Try.ntmps82
    go_wp2_with fail
    go_ret
    exact ⟨false, p, rfl, by omega, H.out, World.grownBy.refl _ _⟩
  · have hd : decide (0 < n) = true := decide_eq_true (by omega)
    have hp2 : 1 ≤ n := by omega
    have H := Lib.hid hR
    clear hR
    go_enter Try.func82, Try.ntmps82
    go_wp2_with fail
    refine (pick_any g A len cap p n _ H.out hp hp2 hn1).mono ?_
    rintro e w2 ⟨x, rfl, x0, x1, hr2, hg2⟩
    have HR := Lib.hid hr2
    have HG := Lib.hid hg2
    clear hr2 hg2
    go_wp2_with fail
    go_ret
    exact ⟨_, p + 1, rfl, Nat.le_refl _, HR.out, HG.out⟩
end Go.Proofs.Ytkcabllnlbcgdaa
