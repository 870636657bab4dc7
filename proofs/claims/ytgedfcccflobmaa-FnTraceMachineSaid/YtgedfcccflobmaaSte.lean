/-
  One step of a machine: the implementation's walk. The machine is valid.
-/
import Derived.Test.YtgedfcccflobmaaExe
import Derived.Test.YtgedfcccflobmaaDec
namespace Go.Proofs.Ytgedfcccflobmaa
open Go.RowKit
set_option linter.unusedVariables false
set_option linter.unusedSimpArgs false
attribute [local go_sem ↓] Go.wp_at_zero Go.wp_at_succ
theorem step_some {p : PM} {op arg n : Int} (hs : p.st = false) (h : decP (p.pk (p.pc % 1024)) (p.pk ((p.pc + 1) % 1024)) (p.pk ((p.pc + 2) % 1024)) = some (op, arg, n)) : stepP p = exeP { p with pc := (p.pc + n) % 1024, cyc := p.cyc + n } op arg := by
  unfold stepP
  rw [if_neg (by rw [hs]; simp), h]
theorem step_none {p : PM} (hs : p.st = false) (h : decP (p.pk (p.pc % 1024)) (p.pk ((p.pc + 1) % 1024)) (p.pk ((p.pc + 2) % 1024)) = none) : stepP p = { p with st := true } := by
  unfold stepP
  rw [if_neg (by rw [hs]; simp), h]
theorem step_st {p : PM} (hs : p.st = true) : stepP p = p := by
  unfold stepP
  rw [if_pos hs]
theorem decV_none : decV none = .tuple #[.agg #[.int .i64 0, .int .i64 0], .int .i64 0, .bool false] := rfl
theorem decV_some (op arg n : Int) : decV (some (op, arg, n)) = .tuple #[.agg #[.int .i64 op, .int .i64 arg], .int .i64 n, .bool true] := rfl
/-- The three bytes, as far as they are read. -/
def bytesK (p0 p1 p2 : Int) (k : Nat) : Array Value := #[.int .i64 (if 1 ≤ k then p0 else 0), .int .i64 (if 2 ≤ k then p1 else 0), .int .i64 (if 3 ≤ k then p2 else 0)]
set_option maxRecDepth 4000 in
set_option maxHeartbeats 4000000 in
theorem step_impl (lo h1 h2 b : Nat) (x : Mch) (vs : List Value) (w : World) (h : MSt lo h1 h2 b x vs w) (f : FormP x.pm) (cy0 : 0 ≤ x.cyc) (cy1 : x.cyc ≤ 2000000000) :
    Calls Try.prog 32 #[.pointer (some ⟨b, 0, none⟩)] w (Did lo h1 h2 b x vs w (stepP x.pm)) := by
  have HX := Lib.hid h
  obtain ⟨⟨c0, c1, c2⟩, c3, c4, c5, c6, c7, c8⟩ := h.box.all
  have hbl := h.blk.lt
  cases hst : x.st
  · rw [hst] at c7
    have p0 : 0 ≤ x.pc := f.p0
    have p1 : x.pc ≤ 1023 := f.p1
    obtain ⟨a0, e0⟩ : ∃ a, x.pc % 1024 = a := ⟨_, rfl⟩
    obtain ⟨a1, e1⟩ : ∃ a, (x.pc + 1) % 1024 = a := ⟨_, rfl⟩
    obtain ⟨a2, e2⟩ : ∃ a, (x.pc + 2) % 1024 = a := ⟨_, rfl⟩
    have m0 : (IntKind.i64.wrap x.pc).tmod 1024 = a0 := by rw [show IntKind.i64.wrap x.pc = x.pc from IntWalk.i64_in _ (by omega)]; exact (Int.tmod_eq_emod_of_nonneg (by omega)).trans e0
    have m1 : (IntKind.i64.wrap (x.pc + 1)).tmod 1024 = a1 := by rw [show IntKind.i64.wrap (x.pc + 1) = x.pc + 1 from IntWalk.i64_in _ (by omega)]; exact (Int.tmod_eq_emod_of_nonneg (by omega)).trans e1
    have m2 : (IntKind.i64.wrap (x.pc + 2)).tmod 1024 = a2 := by rw [show IntKind.i64.wrap (x.pc + 2) = x.pc + 2 from IntWalk.i64_in _ (by omega)]; exact (Int.tmod_eq_emod_of_nonneg (by omega)).trans e2
    have l0 : 0 ≤ a0 := by omega
    have u0 : a0 ≤ 1023 := by omega
    have l1 : 0 ≤ a1 := by omega
    have u1 : a1 ≤ 1023 := by omega
    have l2 : 0 ≤ a2 := by omega
    have u2 : a2 ≤ 1023 := by omega
    have g1 := inB_iff.2 (f.pk l1 u1)
    have g2 := inB_iff.2 (f.pk l2 u2)
    have hsm := Lib.hid (fun op arg n => step_some (p := x.pm) (op := op) (arg := arg) (n := n) hst)
    have hnn := Lib.hid (step_none (p := x.pm) hst)
    have HE := Lib.hid (show x.pm.pc % 1024 = a0 ∧ (x.pm.pc + 1) % 1024 = a1 ∧ (x.pm.pc + 2) % 1024 = a2 from ⟨e0, e1, e2⟩)
    replace g1 := Lib.hid g1
    replace g2 := Lib.hid g2
    clear h e0 e1 e2
    go_enter Try.func32, Try.ntmps32
    go_wp2_with fail
    go_loopw [11] (fun i wr => ∃ k : Nat, i = .int .i64 k ∧ k ≤ 3 ∧ Below w.heap.size w wr ∧ Blk wr w.heap.size 80 (bytesK (x.pm.pk a0) (x.pm.pk a1) (x.pm.pk a2) k)) (fun i _ => 3 - (intOf i).toNat)
    case atStart => exact ⟨0, rfl, by omega, (Below.refl _ _).alloc (Nat.le_refl _) _, Blk.new _ _ _⟩
    case round =>
      obtain ⟨k, rfl, hk, hb, hK⟩ := hrel
      have HM := Lib.hid (HX.out.below hb)
      obtain ⟨⟨c0, c1, c2⟩, c3, c4, c5, c6, c7, c8⟩ := HM.out.box.all
      have HD := Lib.hid (HM.out.below (Below.refl wr.heap.size wr).drew)
      have hsz := hb.size
      have HK := Lib.hid hK
      have hz := hK.lt
      replace hb := Lib.hid hb
      clear hK
      obtain rfl | rfl | rfl | rfl : k = 0 ∨ k = 1 ∨ k = 2 ∨ k = 3 := by omega
      · have z0 : wr.cell? ⟨w.heap.size, 0, none⟩ = some (.int .i64 0) := HK.out.cell 0
        have zf : wr.frozen? ⟨w.heap.size, 0, none⟩ = false := HK.out.frozen 0
        go_wp2_with fail
        go_region_with ((go_at_call 56; refine (peek_any _ _ _ _ _ _ _ _ _ a0 b _ (HD.out.rd f).m HD.out.box.m f.m l0 u0).mono ?_; rintro e W8 ⟨rfl, q, hq⟩; have B8 : Below w.heap.size w W8 := (by rw [hq]; exact below_drewN hb.out.drew q); have K8 : Blk W8 w.heap.size 80 (bytesK (x.pm.pk a0) (x.pm.pk a1) (x.pm.pk a2) 0) := (by rw [hq]; exact (HK.out.drew).drewN q); have y0 : W8.cell? ⟨w.heap.size, 0, none⟩ = some (.int .i64 0) := K8.cell 0; have yf : W8.frozen? ⟨w.heap.size, 0, none⟩ = false := K8.frozen 0; replace B8 := Lib.hid B8; replace K8 := Lib.hid K8; clear hq))
        all_goals (
          go_wp2_with fail
          go_roundw
          case rel => exact ⟨0 + 1, by go_num, by omega, B8.out.setCell (Nat.le_refl _) _, K8.out.set_ 0 (.int .i64 (x.pm.pk a0))⟩
          case measure => simp [intOf])
      · have z0 : wr.cell? ⟨w.heap.size, 1, none⟩ = some (.int .i64 0) := HK.out.cell 1
        have zf : wr.frozen? ⟨w.heap.size, 1, none⟩ = false := HK.out.frozen 1
        go_wp2_with fail
        go_region_with ((go_at_call 56; refine (peek_any _ _ _ _ _ _ _ _ _ a1 b _ (HD.out.rd f).m HD.out.box.m f.m l1 u1).mono ?_; rintro e W8 ⟨rfl, q, hq⟩; have B8 : Below w.heap.size w W8 := (by rw [hq]; exact below_drewN hb.out.drew q); have K8 : Blk W8 w.heap.size 80 (bytesK (x.pm.pk a0) (x.pm.pk a1) (x.pm.pk a2) 1) := (by rw [hq]; exact (HK.out.drew).drewN q); have y0 : W8.cell? ⟨w.heap.size, 1, none⟩ = some (.int .i64 0) := K8.cell 1; have yf : W8.frozen? ⟨w.heap.size, 1, none⟩ = false := K8.frozen 1; replace B8 := Lib.hid B8; replace K8 := Lib.hid K8; clear hq))
        all_goals (
          go_wp2_with fail
          go_roundw
          case rel => exact ⟨1 + 1, by go_num, by omega, B8.out.setCell (Nat.le_refl _) _, K8.out.set_ 1 (.int .i64 (x.pm.pk a1))⟩
          case measure => simp [intOf])
      · have z0 : wr.cell? ⟨w.heap.size, 2, none⟩ = some (.int .i64 0) := HK.out.cell 2
        have zf : wr.frozen? ⟨w.heap.size, 2, none⟩ = false := HK.out.frozen 2
        go_wp2_with fail
        go_region_with ((go_at_call 56; refine (peek_any _ _ _ _ _ _ _ _ _ a2 b _ (HD.out.rd f).m HD.out.box.m f.m l2 u2).mono ?_; rintro e W8 ⟨rfl, q, hq⟩; have B8 : Below w.heap.size w W8 := (by rw [hq]; exact below_drewN hb.out.drew q); have K8 : Blk W8 w.heap.size 80 (bytesK (x.pm.pk a0) (x.pm.pk a1) (x.pm.pk a2) 2) := (by rw [hq]; exact (HK.out.drew).drewN q); have y0 : W8.cell? ⟨w.heap.size, 2, none⟩ = some (.int .i64 0) := K8.cell 2; have yf : W8.frozen? ⟨w.heap.size, 2, none⟩ = false := K8.frozen 2; replace B8 := Lib.hid B8; replace K8 := Lib.hid K8; clear hq))
        all_goals (
          go_wp2_with fail
          go_roundw
          case rel => exact ⟨2 + 1, by go_num, by omega, B8.out.setCell (Nat.le_refl _) _, K8.out.set_ 2 (.int .i64 (x.pm.pk a2))⟩
          case measure => simp [intOf])
      · have D0 := Lib.hid (show wr.cell? ⟨w.heap.size, 0, none⟩ = some (.int .i64 (x.pm.pk a0)) from HK.out.cell 0)
        have D1 := Lib.hid (show wr.cell? ⟨w.heap.size, 1, none⟩ = some (.int .i64 (x.pm.pk a1)) from HK.out.cell 1)
        have D2 := Lib.hid (show wr.cell? ⟨w.heap.size, 2, none⟩ = some (.int .i64 (x.pm.pk a2)) from HK.out.cell 2)
        have HF := HE.out
        obtain ⟨E0, E1, E2⟩ := HF
        rw [E0, E1, E2] at hnn hsm
        rcases hd : decP (x.pm.pk a0) (x.pm.pk a1) (x.pm.pk a2) with _ | ⟨op, arg, n⟩
        · have hstep := Lib.hid (hnn.out hd)
          replace hd := Lib.hid hd
          clear E0 E1 E2 hnn hsm
          go_wp2_with (go_at_call 57; refine (decode_impl _ _ _ w.heap.size _ hz D0.out D1.out D2.out g1.out g2.out).mono ?_; rintro e w7 ⟨rfl, b7⟩; rw [hd.out, decV_none]; have B7 := ((below_step hb.out b7 hsz).alloc (by have := b7.size; omega) (.cells #[.int .i64 0, .int .i64 0] 84)); have M7 := HX.out.below B7; have y5 : (w7.alloc (.cells #[.int .i64 0, .int .i64 0] 84)).frozen? ⟨b, 7, none⟩ = false := M7.blk.frozen 7; have y7 := M7.box.all.2.2.2.2.2.1; replace M7 := Lib.hid M7; replace B7 := Lib.hid B7; clear b7)
          refine bodyPost_end (results_none (by rfl) _ _ _) rfl ?_
          obtain ⟨r1, r2⟩ := M7.out.field 7 (.bool true) { x with st := true } rfl rfl rfl rfl
          exact ⟨_, rfl, r1, by rw [hstep.out]; rfl, (MFr.of_below B7.out).trans r2⟩
        · obtain ⟨ho, n1, n3⟩ := dec_ord hd (inB_iff.1 g1.out).1 (inB_iff.1 g1.out).2 (inB_iff.1 g2.out).1 (inB_iff.1 g2.out).2
          obtain ⟨a3, e3⟩ : ∃ a, (x.pc + n) % 1024 = a := ⟨_, rfl⟩
          have m3 : (IntKind.i64.wrap (x.pc + n)).tmod 1024 = a3 := by rw [show IntKind.i64.wrap (x.pc + n) = x.pc + n from IntWalk.i64_in _ (by omega)]; exact (Int.tmod_eq_emod_of_nonneg (by omega)).trans e3
          have m3' : (x.pc + n).tmod 1024 = a3 := (Int.tmod_eq_emod_of_nonneg (by omega)).trans e3
          have m4 : IntKind.i64.wrap (x.cyc + n) = x.cyc + n := IntWalk.i64_in _ (by omega)
          have hstep := hsm.out op arg n hd
          rw [show (x.pm.pc + n) % 1024 = a3 from e3] at hstep
          have fq := Lib.hid (show FormP ({ x with pc := a3, cyc := x.cyc + n } : Mch).pm from ⟨f.m, f.a0, f.a1, by show 0 ≤ a3; omega, by show a3 ≤ 1023; omega, f.b8, f.bb⟩)
          replace hstep := Lib.hid hstep
          replace hd := Lib.hid hd
          replace ho := Lib.hid ho
          clear E0 E1 E2 hnn hsm e3
          go_wp2_with (first | (go_at_call 57; refine (decode_impl _ _ _ w.heap.size _ hz D0.out D1.out D2.out g1.out g2.out).mono ?_; rintro e w7 ⟨rfl, b7⟩; rw [hd.out, decV_some]; have hb7 : b < w7.heap.size := (by have := b7.size; omega); have B7 := below_step hb.out b7 hsz; have M7 := HX.out.below B7; have y4 := M7.blk.frozen 4; have y8 := M7.blk.frozen 8; have x4 := M7.box.c4; have x8 := M7.box.c8; obtain ⟨r1, r2⟩ := M7.field 4 (.int .i64 a3) { x with pc := a3 } rfl rfl rfl rfl; obtain ⟨s1, s2⟩ := r1.field 8 (.int .i64 (x.cyc + n)) { x with pc := a3, cyc := x.cyc + n } rfl rfl rfl rfl; have b9 := (Below.refl ((w7.setCell ⟨b, 4, none⟩ (.int .i64 a3)).setCell ⟨b, 8, none⟩ (.int .i64 (x.cyc + n))).heap.size ((w7.setCell ⟨b, 4, none⟩ (.int .i64 a3)).setCell ⟨b, 8, none⟩ (.int .i64 (x.cyc + n)))).alloc (Nat.le_refl _) (.cells #[.int .i64 op, .int .i64 arg] 84); have R2 := Lib.hid ((((MFr.of_below B7).trans r2).trans s2).trans (MFr.of_below b9)); replace s1 := Lib.hid (s1.below b9); clear b7 r1 r2 s2 M7 B7 b9) | (go_at_call 58; refine Calls.mono (execute_impl lo h1 h2 b { x with pc := a3, cyc := x.cyc + n } vs op arg _ s1.out fq.out ho.out) ?_; rintro e W9 ⟨x', rfl, hs, hp, hf⟩; replace hs := Lib.hid hs; replace hp := Lib.hid hp; replace hf := Lib.hid hf))
          refine bodyPost_end (results_none (by rfl) _ _ _) rfl ?_
          exact ⟨_, rfl, hs.out, by rw [hstep.out]; exact hp.out, R2.out.trans hf.out⟩
  · rw [hst] at c7
    have hs := Lib.hid (step_st (p := x.pm) hst)
    clear h
    go_enter Try.func32, Try.ntmps32
    go_wp2_with fail
    refine bodyPost_end (results_none (by rfl) _ _ _) rfl ?_
    exact ⟨_, rfl, HX.out, by rw [hs.out], MFr.of_below (Below.refl _ _)⟩
end Go.Proofs.Ytgedfcccflobmaa
