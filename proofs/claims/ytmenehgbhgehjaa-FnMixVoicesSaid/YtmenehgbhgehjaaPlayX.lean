/-
  The law that the program's PlayVoice returns what the reference's returns: its walk. No condition.
-/
import Derived.Test.YtmenehgbhgehjaaPlayI
namespace Go.Proofs.Ytmenehgbhgehjaa
open Go.RowKit
set_option linter.unusedVariables false
set_option linter.unusedSimpArgs false
theorem Env.box5 {w0 w : World} {L : List Lot} (h : Env w0 w L) (E : TypeId) (v0 v1 v2 v3 v4 : Value) :
    Env w0 (w.alloc (.cells #[v0, v1, v2, v3, v4] E)) (⟨E, 5, some ⟨w.heap.size, 0, none⟩, 1, 1, [v0, v1, v2, v3, v4], w.heap.size, w.heap.size + 1⟩ :: L) := by
  have o : (w.alloc (.cells #[v0, v1, v2, v3, v4] E)).ownsRow w.heap.size E 5 (.slice (some ⟨w.heap.size, 0, none⟩) 1 1) 1 [v0, v1, v2, v3, v4] := World.ownsRow_lit w #[v0, v1, v2, v3, v4] 1 (Nat.le_refl _) (by simp [maxLen]) rfl
  have := h.push o ((Below.refl _ _).alloc (Nat.le_refl _) _)
  rwa [World.size_alloc] at this
theorem own_box5 {w : World} {lo b : Nat} {E : TypeId} {v0 v1 v2 v3 v4 : Value} (h : w.ownsRow lo E 5 (.slice (some ⟨b, 0, none⟩) 1 1) 1 [v0, v1, v2, v3, v4]) :
    (w.cell? ⟨b, 0, none⟩ = some v0 ∧ w.cell? ⟨b, 1, none⟩ = some v1 ∧ w.cell? ⟨b, 2, none⟩ = some v2 ∧ w.cell? ⟨b, 3, none⟩ = some v3 ∧ w.cell? ⟨b, 4, none⟩ = some v4) ∧ b < w.heap.size :=
  ⟨⟨h.cellAt 0 (by simp), h.cellAt 1 (by simp), h.cellAt 2 (by simp), h.cellAt 3 (by simp), h.cellAt 4 (by simp)⟩, (h.lt b rfl).2⟩
set_option maxHeartbeats 4000000 in
theorem exactPlayVoice_low (v : Vo) (n : Int) (w : World) :
    Calls Try.prog 4 #[v.val, .int .i64 n] w fun e w' => e = .returned (.bool true) ∧ Below w.heap.size w w' := by
  have hx := playL_len v n
  have hps := fun W => playVoice_spec v n W
  have hpi := fun W => playVoice_impl v n W
  obtain ⟨r, hr⟩ : ∃ r, r = playV v n := ⟨_, rfl⟩
  obtain ⟨xs, hxs⟩ : ∃ xs, xs = playL v n := ⟨_, rfl⟩
  rw [← hxs] at hx
  simp only [← hr, ← hxs] at hps hpi
  replace hps := Lib.hid hps
  replace hpi := Lib.hid hpi
  clear hr hxs
  go_enter Try.func4, Try.ntmps4
  go_wp2_with fail
  refine (toVoice_any v _).mono ?_
  rintro e w' ⟨rfl, b⟩
  have hE := Lib.hid (((Env.start w).box5 34 _ _ _ _ _).below b)
  clear b
  go_wp2_with fail
  refine (hps.out _).mono ?_
  rintro e w' ⟨A', c', rfl, o, b⟩
  replace hE := Lib.hid (hE.out.push o b)
  clear o b
  obtain ⟨⟨x0, x1, x2, x3, x4⟩, xl⟩ := own_box5 (hE.out.own 1 rfl)
  go_wp2_with fail
  refine (toVoice_any v _).mono ?_
  rintro e w' ⟨rfl, b⟩
  replace hE := Lib.hid ((hE.out.box5 24 (.int .i64 r.l) (.int .i64 r.h) (.int .i64 r.a) (.int .i64 r.s) (.int .i64 r.f)).below b)
  clear b
  clear x0 x1 x2 x3 x4 xl
  go_wp2_with fail
  refine (hpi.out _).mono ?_
  rintro e w' ⟨A', c', rfl, o, b⟩
  replace hE := Lib.hid (hE.out.push o b)
  clear o b
  go_wp2_with fail
  replace hE := Lib.hid (hE.out.box5 24 (.int .i64 r.l) (.int .i64 r.h) (.int .i64 r.a) (.int .i64 r.s) (.int .i64 r.f))
  refine (eqIntS_same _ _ _ _ _ _ _ (hE.out.ints 1 rfl) (hE.out.ints 3 rfl) (by omega)).mono ?_
  rintro e w' ⟨rfl, b⟩
  replace hE := Lib.hid (hE.out.below b)
  clear b
  obtain ⟨⟨y0, y1, y2, y3, y4⟩, yl⟩ := own_box5 (hE.out.own 0 rfl)
  obtain ⟨⟨z0, z1, z2, z3, z4⟩, zl⟩ := own_box5 (hE.out.own 2 rfl)
  go_wp2_with fail
  refine (eqVoice_same r _).mono ?_
  rintro e w' ⟨rfl, b⟩
  replace hE := Lib.hid (hE.out.below b)
  clear b
  clear y0 y1 y2 y3 y4 yl
  clear z0 z1 z2 z3 z4 zl
  go_wp2_with fail
  refine (markIntS_own _ _ _ _ _ 1 _ (hE.out.own 1 rfl) (by omega) (by omega) (by omega)).mono ?_
  rintro e w' ⟨rfl, o, g⟩
  replace hE := Lib.hid (hE.out.mark 1 rfl o g)
  clear o g
  go_wp2_with fail
  refine (heldIntS_marks _ _ _ 1 _ (hE.out.ints 1 rfl) (by omega) (by omega) (by omega)).mono ?_
  rintro e w' ⟨rfl, b⟩
  replace hE := Lib.hid (hE.out.below b)
  clear b
  obtain ⟨⟨x0, x1, x2, x3, x4⟩, xl⟩ := own_box5 (hE.out.own 4 rfl)
  go_wp2_with fail
  refine (toVoice_any v _).mono ?_
  rintro e w' ⟨rfl, b⟩
  replace hE := Lib.hid (hE.out.below b)
  clear b
  clear x0 x1 x2 x3 x4 xl
  go_wp2_with fail
  refine (hpi.out _).mono ?_
  rintro e w' ⟨A', c', rfl, o, b⟩
  replace hE := Lib.hid (hE.out.push o b)
  clear o b
  go_wp2_with fail
  replace hE := Lib.hid (hE.out.box5 24 (.int .i64 r.l) (.int .i64 r.h) (.int .i64 r.a) (.int .i64 r.s) (.int .i64 r.f))
  refine (eqIntS_same _ _ _ _ _ _ _ (hE.out.ints 1 rfl) (hE.out.ints 5 rfl) (by omega)).mono ?_
  rintro e w' ⟨rfl, b⟩
  replace hE := Lib.hid (hE.out.below b)
  clear b
  obtain ⟨⟨y0, y1, y2, y3, y4⟩, yl⟩ := own_box5 (hE.out.own 0 rfl)
  obtain ⟨⟨z0, z1, z2, z3, z4⟩, zl⟩ := own_box5 (hE.out.own 4 rfl)
  go_wp2_with fail
  refine (eqVoice_same r _).mono ?_
  rintro e w' ⟨rfl, b⟩
  replace hE := Lib.hid (hE.out.below b)
  clear b
  clear y0 y1 y2 y3 y4 yl
  clear z0 z1 z2 z3 z4 zl
  go_wp2_with fail
  refine (heldIntS_marks _ _ _ 1 _ (hE.out.ints 3 rfl) (by omega) (by omega) (by omega)).mono ?_
  rintro e w' ⟨rfl, b⟩
  replace hE := Lib.hid (hE.out.below b)
  clear b
  go_wp2_with fail
  go_ret
  exact ⟨rfl, hE.out.bel⟩
theorem fnExactPlayVoice_walk (a : Int) (_ : (Lit.int .i64 a).wf = true) (b : Int) (_ : (Lit.int .i64 b).wf = true) (c : Int) (_ : (Lit.int .i64 c).wf = true) (d : Int) (_ : (Lit.int .i64 d).wf = true) (e : Int) (_ : (Lit.int .i64 e).wf = true) (n : Int) (_ : (Lit.int .i64 n).wf = true) (w : World) :
    Calls Try.prog 4 #[.agg #[.int .i64 a, .int .i64 b, .int .i64 c, .int .i64 d, .int .i64 e], .int .i64 n] w fun e w' => e = .returned (.bool true) ∧ Below w.heap.size w w' := exactPlayVoice_low ⟨a, b, c, d, e⟩ n w
end Go.Proofs.Ytmenehgbhgehjaa
