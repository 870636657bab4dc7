/-
  One step of a machine: the reference's walk. The machine is valid.
-/
import Derived.Test.YtgedfcccflobmaaExs
import Derived.Test.YtgedfcccflobmaaSft
import Derived.Test.YtgedfcccflobmaaSte
namespace Go.Proofs.Ytgedfcccflobmaa
open Go.RowKit
set_option linter.unusedVariables false
set_option linter.unusedSimpArgs false
attribute [local go_sem ↓] Go.wp_at_zero Go.wp_at_succ
set_option maxRecDepth 4000 in
set_option maxHeartbeats 4000000 in
theorem l5Step_spec (lo h1 h2 b : Nat) (x : Mch) (vs : List Value) (w : World) (h : MSt lo h1 h2 b x vs w) (f : FormP x.pm) (cy0 : 0 ≤ x.cyc) (cy1 : x.cyc ≤ 2000000000) :
    Calls Try.prog 35 #[.pointer (some ⟨b, 0, none⟩)] w (Did lo h1 h2 b x vs w (stepP x.pm)) := by
  have HX := Lib.hid h
  obtain ⟨⟨c0, c1, c2⟩, c3, c4, c5, c6, c7, c8⟩ := h.box.all
  have hbl := h.blk.lt
  cases hst : x.st
  · rw [hst] at c7
    have p0 : 0 ≤ x.pc := f.p0
    have p1 : x.pc ≤ 1023 := f.p1
    have g1 := Lib.hid (inB_iff.2 (f.pk (z := (x.pc + 1) % 1024) (by omega) (by omega)))
    have g2 := Lib.hid (inB_iff.2 (f.pk (z := (x.pc + 2) % 1024) (by omega) (by omega)))
    rcases hd : decP (x.pm.pk (x.pc % 1024)) (x.pm.pk ((x.pc + 1) % 1024)) (x.pm.pk ((x.pc + 2) % 1024)) with _ | ⟨op, arg, n⟩
    · have hstep := Lib.hid (step_none (p := x.pm) hst hd)
      clear h
      go_enter Try.func35, Try.ntmps35
      go_wp2_with (go_at_call 60; refine (fetch_spec lo h1 h2 b x vs _ HX.out f).mono ?_; rintro e w5 ⟨rfl, b5⟩; rw [hd, decV_n]; have b7 := b5.alloc b5.size (.cells #[.int .i64 0, .int .i64 0] 84); have M7 := HX.out.below b7; have y5 : (w5.alloc (.cells #[.int .i64 0, .int .i64 0] 84)).frozen? ⟨b, 7, none⟩ = false := M7.blk.frozen 7; have y7 := M7.box.all.2.2.2.2.2.1; replace M7 := Lib.hid M7; have B7 := Lib.hid b7; clear b5 b7)
      refine bodyPost_end (results_none (by rfl) _ _ _) rfl ?_
      obtain ⟨r1, r2⟩ := M7.out.field 7 (.bool true) { x with st := true } rfl rfl rfl rfl
      exact ⟨_, rfl, r1, by rw [hstep.out]; rfl, (MFr.of_below B7.out).trans r2⟩
    · obtain ⟨ho, n1, n3⟩ := dec_ord hd (inB_iff.1 g1.out).1 (inB_iff.1 g1.out).2 (inB_iff.1 g2.out).1 (inB_iff.1 g2.out).2
      obtain ⟨a3, e3⟩ : ∃ a, (x.pc + n) % 1024 = a := ⟨_, rfl⟩
      have m3 : (IntKind.i64.wrap (x.pc + n)).tmod 1024 = a3 := by rw [show IntKind.i64.wrap (x.pc + n) = x.pc + n from IntWalk.i64_in _ (by omega)]; exact (Int.tmod_eq_emod_of_nonneg (by omega)).trans e3
      have m3' : (x.pc + n).tmod 1024 = a3 := (Int.tmod_eq_emod_of_nonneg (by omega)).trans e3
      have m4 : IntKind.i64.wrap (x.cyc + n) = x.cyc + n := IntWalk.i64_in _ (by omega)
      have hstep := step_some (p := x.pm) hst hd
      rw [show (x.pm.pc + n) % 1024 = a3 from e3] at hstep
      have fq := Lib.hid (show FormP ({ x with pc := a3, cyc := x.cyc + n } : Mch).pm from ⟨f.m, f.a0, f.a1, by show 0 ≤ a3; omega, by show a3 ≤ 1023; omega, f.b8, f.bb⟩)
      replace hstep := Lib.hid hstep
      replace ho := Lib.hid ho
      clear h e3
      go_enter Try.func35, Try.ntmps35
      go_wp2_with (first | (go_at_call 60; refine (fetch_spec lo h1 h2 b x vs _ HX.out f).mono ?_; rintro e w5 ⟨rfl, b5⟩; rw [hd, decV_s]; have b7 := b5.alloc b5.size (.cells #[.int .i64 op, .int .i64 arg] 84); have hb7 : b < w5.heap.size := Nat.lt_of_lt_of_le hbl b5.size; have M7 := HX.out.below b7; have M5 := HX.out.below b5; have v4 := M5.box.c4; have v8 := M5.box.c8; have u4 := M5.blk.frozen 4; have u8 := M5.blk.frozen 8; have y4 := M7.blk.frozen 4; have y8 := M7.blk.frozen 8; have x4 := M7.box.c4; have x8 := M7.box.c8; obtain ⟨r1, r2⟩ := M5.field 4 (.int .i64 a3) { x with pc := a3 } rfl rfl rfl rfl; obtain ⟨s1, s2⟩ := r1.field 8 (.int .i64 (x.cyc + n)) { x with pc := a3, cyc := x.cyc + n } rfl rfl rfl rfl; have b9 := (Below.refl ((w5.setCell ⟨b, 4, none⟩ (.int .i64 a3)).setCell ⟨b, 8, none⟩ (.int .i64 (x.cyc + n))).heap.size ((w5.setCell ⟨b, 4, none⟩ (.int .i64 a3)).setCell ⟨b, 8, none⟩ (.int .i64 (x.cyc + n)))).alloc (Nat.le_refl _) (.cells #[.int .i64 op, .int .i64 arg] 84); have R2 := Lib.hid ((((MFr.of_below b5).trans r2).trans s2).trans (MFr.of_below b9)); replace s1 := Lib.hid (s1.below b9); clear b9; clear b5 b7 r1 r2 s2 M7 M5) | (go_at_call 61; refine Calls.mono (l5Do_spec lo h1 h2 b { x with pc := a3, cyc := x.cyc + n } vs op arg _ s1.out fq.out ho.out) ?_; rintro e W9 ⟨x', rfl, hs, hp, hf⟩; replace hs := Lib.hid hs; replace hp := Lib.hid hp; replace hf := Lib.hid hf))
      refine bodyPost_end (results_none (by rfl) _ _ _) rfl ?_
      exact ⟨_, rfl, hs.out, by rw [hstep.out]; exact hp.out, R2.out.trans hf.out⟩
  · rw [hst] at c7
    have hs := Lib.hid (step_st (p := x.pm) hst)
    clear h
    go_enter Try.func35, Try.ntmps35
    go_wp2_with fail
    refine bodyPost_end (results_none (by rfl) _ _ _) rfl ?_
    exact ⟨_, rfl, HX.out, by rw [hs.out], MFr.of_below (Below.refl _ _)⟩
end Go.Proofs.Ytgedfcccflobmaa
