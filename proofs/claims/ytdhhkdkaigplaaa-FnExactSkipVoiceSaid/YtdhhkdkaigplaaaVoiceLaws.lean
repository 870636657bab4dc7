/-
  The laws that the program's VoiceValid and SkipVoice return what the reference's return: their walks. No condition.
-/
import Derived.Test.YtdhhkdkaigplaaaSkip
namespace Go.Proofs.Ytdhhkdkaigplaaa
open Go.RowKit
set_option linter.unusedVariables false
set_option linter.unusedSimpArgs false
/-- One box of five cells under a call that leaves what was there: its cells behind it. -/
theorem one_box {w w1 : World} {x0 x1 x2 x3 x4 : Value} {T : TypeId}
    (hb : Below (w.alloc (.cells #[x0, x1, x2, x3, x4] T)).heap.size (w.alloc (.cells #[x0, x1, x2, x3, x4] T)) w1) :
    (w1.cell? ⟨w.heap.size, 0, none⟩ = some x0 ∧ w1.cell? ⟨w.heap.size, 1, none⟩ = some x1 ∧ w1.cell? ⟨w.heap.size, 2, none⟩ = some x2 ∧ w1.cell? ⟨w.heap.size, 3, none⟩ = some x3 ∧ w1.cell? ⟨w.heap.size, 4, none⟩ = some x4) ∧
    Below w.heap.size w w1 ∧ w.heap.size + 1 ≤ w1.heap.size := by
  have hc := fun (b o : Nat) (h : b < w.heap.size + 1) => hb.cell (p := ⟨b, o, none⟩) (by simpa using h)
  have hs := hb.size
  simp only [World.size_alloc] at hs
  refine ⟨⟨?_, ?_, ?_, ?_, ?_⟩, below_step (by go_grown) hb (by simp), hs⟩
  all_goals (rw [hc _ _ (by omega)]; simp [go_sem]; done)
theorem keep5c {w1 w2 : World} {b : Nat} {y0 y1 y2 y3 y4 : Value} (hb : Below w1.heap.size w1 w2) (hlt : b < w1.heap.size)
    (c0 : w1.cell? ⟨b, 0, none⟩ = some y0) (c1 : w1.cell? ⟨b, 1, none⟩ = some y1) (c2 : w1.cell? ⟨b, 2, none⟩ = some y2) (c3 : w1.cell? ⟨b, 3, none⟩ = some y3) (c4 : w1.cell? ⟨b, 4, none⟩ = some y4) :
    (w2.cell? ⟨b, 0, none⟩ = some y0 ∧ w2.cell? ⟨b, 1, none⟩ = some y1 ∧ w2.cell? ⟨b, 2, none⟩ = some y2 ∧ w2.cell? ⟨b, 3, none⟩ = some y3 ∧ w2.cell? ⟨b, 4, none⟩ = some y4) := by
  have hc := fun (o : Nat) => hb.cell (p := ⟨b, o, none⟩) hlt
  exact ⟨(hc 0).trans c0, (hc 1).trans c1, (hc 2).trans c2, (hc 3).trans c3, (hc 4).trans c4⟩
set_option maxHeartbeats 1000000 in
theorem voiceValid_law (v : Vo) (w : World) :
    Calls Try.prog 5 #[v.val] w fun e w' => e = .returned (.bool true) ∧ Below w.heap.size w w' := by
  go_enter Try.func5, Try.ntmps5
  go_wp2_with fail
  refine (toVoice_any v _).mono ?_
  rintro e w1 ⟨rfl, hb1⟩
  obtain ⟨⟨x0, x1, x2, x3, x4⟩, B1, z1⟩ := one_box hb1
  clear hb1
  go_wp2_with fail
  refine (voiceValid_spec v _).mono ?_
  rintro e w2 ⟨rfl, hb2⟩
  obtain ⟨y0, y1, y2, y3, y4⟩ := keep5c hb2 (by omega) x0 x1 x2 x3 x4
  have B2 := below_step B1 hb2 (by omega)
  have z2 := hb2.size
  clear x0 x1 x2 x3 x4 hb2
  go_wp2_with fail
  refine (toVoice_any v _).mono ?_
  rintro e w3 ⟨rfl, hb3⟩
  have B3 := below_step B2 hb3 (by omega)
  have z3 := hb3.size
  clear y0 y1 y2 y3 y4 hb3
  go_wp2_with fail
  refine (voiceValid_impl v _).mono ?_
  rintro e w4 ⟨rfl, hb4⟩
  have B4 := below_step B3 hb4 (by omega)
  go_wp2_with fail
  go_ret
  exact ⟨rfl, B4⟩
theorem fnExactVoiceValid_walk (a : Int) (_ : (Lit.int .i64 a).wf = true) (b : Int) (_ : (Lit.int .i64 b).wf = true) (c : Int) (_ : (Lit.int .i64 c).wf = true) (d : Int) (_ : (Lit.int .i64 d).wf = true) (e : Int) (_ : (Lit.int .i64 e).wf = true) (w : World) :
    Calls Try.prog 5 #[.agg #[.int .i64 a, .int .i64 b, .int .i64 c, .int .i64 d, .int .i64 e]] w fun e w' => e = .returned (.bool true) ∧ Below w.heap.size w w' := voiceValid_law ⟨a, b, c, d, e⟩ w
set_option maxHeartbeats 1000000 in
theorem skipVoice_law (v : Vo) (n : Int) (w : World) :
    Calls Try.prog 9 #[v.val, .int .i64 n] w fun e w' => e = .returned (.bool true) ∧ Below w.heap.size w w' := by
  go_enter Try.func9, Try.ntmps9
  go_wp2_with fail
  refine (toVoice_any v _).mono ?_
  rintro e w1 ⟨rfl, hb1⟩
  obtain ⟨⟨x0, x1, x2, x3, x4⟩, B1, z1⟩ := one_box hb1
  clear hb1
  go_wp2_with fail
  refine (skipVoice_spec v n _).mono ?_
  rintro e w2 ⟨rfl, hb2⟩
  obtain ⟨y0, y1, y2, y3, y4⟩ := keep5c hb2 (by omega) x0 x1 x2 x3 x4
  have B2 := below_step B1 hb2 (by omega)
  have z2 := hb2.size
  clear x0 x1 x2 x3 x4 hb2
  have q2 : w.heap.size < w2.heap.size := by omega
  obtain ⟨r, hr⟩ : ∃ r, r = skipR v n := ⟨_, rfl⟩
  rw [← hr]
  replace hr := Lib.hid hr
  go_wp2_with fail
  refine (toVoice_any v _).mono ?_
  rintro e w3 ⟨rfl, hb3⟩
  obtain ⟨u0, u1, u2, u3, u4⟩ := keep5c (w2 := w3) (b := w2.heap.size) (y0 := .int .i64 r.l) (y1 := .int .i64 r.h) (y2 := .int .i64 r.a) (y3 := .int .i64 r.s) (y4 := .int .i64 r.f) hb3 (by simp) (by simp [go_sem]) (by simp [go_sem]) (by simp [go_sem]) (by simp [go_sem]) (by simp [go_sem])
  have B3 := below_step (B2.alloc (by omega) _) hb3 (by simp; omega)
  have z3 := hb3.size
  simp only [World.size_alloc] at z3
  clear y0 y1 y2 y3 y4 hb3
  go_wp2_with fail
  refine (skipVoice_impl v n _).mono ?_
  rintro e w4 ⟨rfl, hb4⟩
  obtain ⟨v0, v1, v2, v3, v4⟩ := keep5c hb4 (by omega) u0 u1 u2 u3 u4
  have B4 := below_step B3 hb4 (by omega)
  have z4 := hb4.size
  have q4 : w2.heap.size < w4.heap.size := by omega
  clear u0 u1 u2 u3 u4 hb4
  rw [← hr.out]
  go_wp2_with fail
  refine (eqVoice_same r _).mono ?_
  rintro e w5 ⟨rfl, hb5⟩
  have B5 := below_step (B4.alloc (by omega) _) hb5 (by simp; omega)
  go_wp2_with fail
  go_ret
  exact ⟨rfl, B5⟩
theorem fnExactSkipVoice_walk (a : Int) (_ : (Lit.int .i64 a).wf = true) (b : Int) (_ : (Lit.int .i64 b).wf = true) (c : Int) (_ : (Lit.int .i64 c).wf = true) (d : Int) (_ : (Lit.int .i64 d).wf = true) (e : Int) (_ : (Lit.int .i64 e).wf = true) (n : Int) (_ : (Lit.int .i64 n).wf = true) (w : World) :
    Calls Try.prog 9 #[.agg #[.int .i64 a, .int .i64 b, .int .i64 c, .int .i64 d, .int .i64 e], .int .i64 n] w fun e w' => e = .returned (.bool true) ∧ Below w.heap.size w w' := skipVoice_law ⟨a, b, c, d, e⟩ n w
end Go.Proofs.Ytdhhkdkaigplaaa
