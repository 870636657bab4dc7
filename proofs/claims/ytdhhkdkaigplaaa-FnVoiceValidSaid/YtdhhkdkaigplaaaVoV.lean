/-
  The drawn law on valid channels: its walk. No condition.
-/
import Derived.Test.YtdhhkdkaigplaaaDrwV
namespace Go.Proofs.Ytdhhkdkaigplaaa
open Go.RowKit
set_option linter.unusedVariables false
set_option linter.unusedSimpArgs false
theorem drawVoiceValid_any (A : Option Addr) (n c : Nat) (zs : List Int) (w : World) (h : IsRow .u8 w A n c zs) :
    Calls Try.prog 31 #[.slice A n c] w fun e w' => ∃ u : Vo, e = .returned u.val ∧ VoBd u ∧ Below w.heap.size w w' := by
  obtain ⟨W0, hW0⟩ : ∃ W0, W0 = w.alloc (.cells #[.int .i64 0, .int .i64 0, .int .i64 0, .int .i64 0, .int .i64 0] 29) := ⟨_, rfl⟩
  have HI := Lib.hid (show IsRow .u8 W0 A n c zs by rw [hW0]; exact h.alloc _)
  have HZ := Lib.hid (show HasV W0 w.heap.size ⟨0, 0, 0, 0, 0⟩ by rw [hW0]; exact HasV.new w ⟨0, 0, 0, 0, 0⟩)
  have HB0 := Lib.hid (show Below w.heap.size w W0 by rw [hW0]; exact (Below.refl _ _).alloc (Nat.le_refl _) _)
  have hs0 : W0.heap.size = w.heap.size + 1 := by rw [hW0, World.size_alloc]
  replace hW0 := Lib.hid hW0
  clear h
  go_enter Try.func31, Try.ntmps31
  go_wp2_with fail
  rw [← hW0.out]
  refine (open_any A n c zs _ HI.out).mono ?_
  rintro e w1 ⟨len, cap, rfl, hR, hb1⟩
  have HR := Lib.hid (HZ.out.below hb1)
  have HB := Lib.hid (below_step HB0.out hb1 (by omega))
  obtain ⟨g, hg0⟩ : ∃ g, g = W0.heap.size := ⟨_, rfl⟩
  rw [← hg0] at hR ⊢
  rw [hs0] at hg0
  have hgw : w.heap.size < g := by omega
  have HG0 := Lib.hid hg0
  clear hg0
  have HD := Lib.hid (Drs.start hR)
  have hgl := hR.lt
  clear hR hb1 HZ HB0 HI hs0
  go_wp2_with fail
  refine (l20Voice_d HD.out 2 (by omega) (by omega) (by omega)).mono ?_
  rintro e W' ⟨v, rfl, ⟨u, rfl, hu⟩, hD, hgr⟩
  replace HD := Lib.hid hD
  clear hD
  replace HR := Lib.hid (HR.out.kept hgr (ne_some (by omega)))
  clear hgr
  obtain ⟨r0, r1, r2, r3, r4⟩ := HR.out.cells
  obtain ⟨f0, f1, f2, f3, f4⟩ := HR.out.froz
  go_wp2_with fail
  obtain ⟨o1, o2⟩ := HR.out.set u
  refine bodyPost_ret (v := u.val) (by simp [results, Try.results31, go_sem, r0, r1, r2, r3, r4]) rfl ?_
  have h2 := HB.out.grown HD.out.hg HB.out.size (by intro k hk; injection hk with hk; omega)
  exact ⟨u, rfl, hu, h2.grown o2 h2.size (by intro k hk; injection hk with hk; omega)⟩
set_option maxHeartbeats 400000 in
theorem alive_any (w : World) : Calls Try.prog 25 #[] w fun e w' => e = .returned (.bool true) ∧ w = w' := by
  have e8 : wrap64 (IntKind.i8.wrap 255) = -1 := by
    rw [show IntKind.i8.wrap 255 = -1 by decide]
    exact IntWalk.wrap64_in _ (by omega)
  go_enter Try.func25, Try.ntmps25
  go_wp2_with (first | (go_at_call 40; refine (within_any _ _ _ _).mono ?_; rintro e w' ⟨rfl, rfl⟩; rw [show inB 255 0 255 = true from rfl]) | go_in)
  go_ret
  exact ⟨rfl, rfl⟩
theorem vv_left (u : Vo) : vvB ⟨u.l, u.h, u.a, u.s, 0⟩ = false := by simp [vvB, inB_out (show (0 : Int) < 1 ∨ u.l < 0 from .inl (by omega))]
theorem vv_high (u : Vo) : vvB ⟨u.l, 9, u.a, u.s, u.f⟩ = false := by simp [vvB, inB_out (show (9 : Int) < 0 ∨ (8 : Int) < 9 from .inr (by omega))]
set_option maxHeartbeats 2000000 in
theorem fnVoiceValid_walk (w : World) (A : Option Addr) (n c : Nat) (zs : List Int) (h : IsRow .u8 w A n c zs) :
    Calls Try.prog 11 #[.slice A n c] w fun e w' => e = .returned (.bool true) ∧ Below w.heap.size w w' := by
  by_cases hlong : 1048576 < n
  · go_enter Try.func11, Try.ntmps11
    go_wp2_with fail
    go_ret
    exact ⟨rfl, Below.refl _ _⟩
  have HI := Lib.hid h
  clear h
  go_enter Try.func11, Try.ntmps11
  go_wp2_with fail
  refine (drawVoiceValid_any A n c zs _ HI.out).mono ?_
  rintro e w1 ⟨u, rfl, hu, hb⟩
  have HB := Lib.hid hb
  have hw1 := hb.size
  have hq : (vvB u != vvB u) = false := by simp
  have h1 := Lib.hid (fun W => (voiceValid_impl ⟨u.l, u.h, u.a, u.s, 0⟩ W).mono fun e w' h => (by rw [vv_left] at h; exact h : e = .returned (.bool false) ∧ Below W.heap.size W w'))
  have h2 := Lib.hid (fun W => (voiceValid_impl ⟨u.l, 9, u.a, u.s, u.f⟩ W).mono fun e w' h => (by rw [vv_high] at h; exact h : e = .returned (.bool false) ∧ Below W.heap.size W w'))
  have HV := Lib.hid (HasV.new w1 u)
  clear hb hu
  go_wp2_with fail
  refine (voiceValid_impl u _).mono ?_
  rintro e w2 ⟨rfl, b2⟩
  replace HV := Lib.hid (HV.out.below b2)
  replace HB := Lib.hid (below_step (HB.out.alloc hw1 _) b2 (Nat.le_trans hw1 (by simp)))
  clear b2
  obtain ⟨x0, x1, x2, x3, x4⟩ := HV.out.cells
  go_wp2_with fail
  refine (voiceValid_spec u _).mono ?_
  rintro e w3 ⟨rfl, b3⟩
  replace HV := Lib.hid (HV.out.below b3)
  replace HB := Lib.hid (below_step HB.out b3 HB.out.size)
  clear b3 x0 x1 x2 x3 x4
  obtain ⟨x0, x1, x2, x3, x4⟩ := HV.out.cells
  have xl := HV.out.lt
  go_wp2_with fail
  refine (h1.out _).mono ?_
  rintro e w4 ⟨rfl, b4⟩
  have hz4 := b4.size
  have p0 : w4.cell? ⟨w3.heap.size + 1, 0, none⟩ = some (.int .i64 u.l) := (b4.cell (p := ⟨w3.heap.size + 1, 0, none⟩) (by simp)).trans (by simp [go_sem])
  have p1 : w4.cell? ⟨w3.heap.size + 1, 1, none⟩ = some (.int .i64 9) := (b4.cell (p := ⟨w3.heap.size + 1, 1, none⟩) (by simp)).trans (by simp [go_sem])
  have p2 : w4.cell? ⟨w3.heap.size + 1, 2, none⟩ = some (.int .i64 u.a) := (b4.cell (p := ⟨w3.heap.size + 1, 2, none⟩) (by simp)).trans (by simp [go_sem])
  have p3 : w4.cell? ⟨w3.heap.size + 1, 3, none⟩ = some (.int .i64 u.s) := (b4.cell (p := ⟨w3.heap.size + 1, 3, none⟩) (by simp)).trans (by simp [go_sem])
  have p4 : w4.cell? ⟨w3.heap.size + 1, 4, none⟩ = some (.int .i64 u.f) := (b4.cell (p := ⟨w3.heap.size + 1, 4, none⟩) (by simp)).trans (by simp [go_sem])
  have B4 : Below w3.heap.size w3 w4 := below_step (by go_grown) b4 (by simp; omega)
  replace HB := Lib.hid (HB.out.trans (B4.mono HB.out.size))
  clear b4 hz4 B4
  go_wp2_with fail
  refine (h2.out _).mono ?_
  rintro e w5 ⟨rfl, b5⟩
  replace HB := Lib.hid (below_step HB.out b5 HB.out.size)
  clear b5
  go_wp2_with (go_at_call 25; refine (alive_any _).mono ?_; rintro e w' ⟨rfl, rfl⟩)
  go_ret
  exact ⟨rfl, HB.out⟩
end Go.Proofs.Ytdhhkdkaigplaaa
