/-
  Channels: contracts of SkipVoice in both packages and of eqVoice; the laws that the program's VoiceValid and SkipVoice return what the reference's return. No condition.
-/
import Derived.Test.YtmenehgbhgehjaaVoice
namespace Go.Proofs.Ytmenehgbhgehjaa
open Go.RowKit
set_option linter.unusedVariables false
set_option linter.unusedSimpArgs false
theorem below_step {B : Nat} {w W w1 : World} (h : Below B w W) (h1 : Below W.heap.size W w1) (hB : B ≤ W.heap.size) : Below B w w1 := h.trans (h1.mono hB)
/-- Two boxes of five cells under a call that leaves what was there: their cells behind it. -/
theorem two_boxes {w w1 : World} {x0 x1 x2 x3 x4 y0 y1 y2 y3 y4 : Value} {T U : TypeId}
    (hb : Below ((w.alloc (.cells #[x0, x1, x2, x3, x4] T)).alloc (.cells #[y0, y1, y2, y3, y4] U)).heap.size ((w.alloc (.cells #[x0, x1, x2, x3, x4] T)).alloc (.cells #[y0, y1, y2, y3, y4] U)) w1) :
    (w1.cell? ⟨w.heap.size, 0, none⟩ = some x0 ∧ w1.cell? ⟨w.heap.size, 1, none⟩ = some x1 ∧ w1.cell? ⟨w.heap.size, 2, none⟩ = some x2 ∧ w1.cell? ⟨w.heap.size, 3, none⟩ = some x3 ∧ w1.cell? ⟨w.heap.size, 4, none⟩ = some x4) ∧
    (w1.cell? ⟨w.heap.size + 1, 0, none⟩ = some y0 ∧ w1.cell? ⟨w.heap.size + 1, 1, none⟩ = some y1 ∧ w1.cell? ⟨w.heap.size + 1, 2, none⟩ = some y2 ∧ w1.cell? ⟨w.heap.size + 1, 3, none⟩ = some y3 ∧ w1.cell? ⟨w.heap.size + 1, 4, none⟩ = some y4) ∧
    (w1.frozen? ⟨w.heap.size, 3, none⟩ = false ∧ w1.frozen? ⟨w.heap.size, 4, none⟩ = false) ∧
    (w1.frozen? ⟨w.heap.size + 1, 0, none⟩ = false ∧ w1.frozen? ⟨w.heap.size + 1, 1, none⟩ = false ∧ w1.frozen? ⟨w.heap.size + 1, 2, none⟩ = false ∧ w1.frozen? ⟨w.heap.size + 1, 3, none⟩ = false ∧ w1.frozen? ⟨w.heap.size + 1, 4, none⟩ = false) ∧
    Below w.heap.size w w1 ∧ w.heap.size + 1 + 1 ≤ w1.heap.size := by
  have hc := fun (b o : Nat) (h : b < w.heap.size + 1 + 1) => hb.cell (p := ⟨b, o, none⟩) (by simpa using h)
  have hf := fun (b o : Nat) (h : b < w.heap.size + 1 + 1) => hb.frozen (p := ⟨b, o, none⟩) (by simpa using h)
  have hs := hb.size
  simp only [World.size_alloc] at hs
  refine ⟨⟨?_, ?_, ?_, ?_, ?_⟩, ⟨?_, ?_, ?_, ?_, ?_⟩, ⟨?_, ?_⟩, ⟨?_, ?_, ?_, ?_, ?_⟩, below_step (by go_grown) hb (by simp; omega), hs⟩
  all_goals first | (rw [hc _ _ (by omega)]; simp [go_sem]; done) | (rw [hf _ _ (by omega)]; simp [go_sem]; done)
/-- A box of five cells under a call that leaves what was there. -/
theorem keep5 {w1 w2 : World} {b : Nat} {y0 y1 y2 y3 y4 : Value} (hb : Below w1.heap.size w1 w2) (hlt : b < w1.heap.size)
    (c0 : w1.cell? ⟨b, 0, none⟩ = some y0) (c1 : w1.cell? ⟨b, 1, none⟩ = some y1) (c2 : w1.cell? ⟨b, 2, none⟩ = some y2) (c3 : w1.cell? ⟨b, 3, none⟩ = some y3) (c4 : w1.cell? ⟨b, 4, none⟩ = some y4)
    (g0 : w1.frozen? ⟨b, 0, none⟩ = false) (g1 : w1.frozen? ⟨b, 1, none⟩ = false) (g2 : w1.frozen? ⟨b, 2, none⟩ = false) (g3 : w1.frozen? ⟨b, 3, none⟩ = false) (g4 : w1.frozen? ⟨b, 4, none⟩ = false) :
    (w2.cell? ⟨b, 0, none⟩ = some y0 ∧ w2.cell? ⟨b, 1, none⟩ = some y1 ∧ w2.cell? ⟨b, 2, none⟩ = some y2 ∧ w2.cell? ⟨b, 3, none⟩ = some y3 ∧ w2.cell? ⟨b, 4, none⟩ = some y4) ∧
    (w2.frozen? ⟨b, 0, none⟩ = false ∧ w2.frozen? ⟨b, 1, none⟩ = false ∧ w2.frozen? ⟨b, 2, none⟩ = false ∧ w2.frozen? ⟨b, 3, none⟩ = false ∧ w2.frozen? ⟨b, 4, none⟩ = false) := by
  have hc := fun (o : Nat) => hb.cell (p := ⟨b, o, none⟩) hlt
  have hf := fun (o : Nat) => hb.frozen (p := ⟨b, o, none⟩) hlt
  exact ⟨⟨(hc 0).trans c0, (hc 1).trans c1, (hc 2).trans c2, (hc 3).trans c3, (hc 4).trans c4⟩, (hf 0).trans g0, (hf 1).trans g1, (hf 2).trans g2, (hf 3).trans g3, (hf 4).trans g4⟩
set_option maxHeartbeats 1000000 in
theorem skipVoice_impl (v : Vo) (n : Int) (w : World) :
    Calls Try.prog 16 #[v.val, .int .i64 n] w fun e w' => e = .returned (skipR v n).val ∧ Below w.heap.size w w' := by
  cases hv : vvB v
  · rw [show skipR v n = (⟨0, 0, 0, 0, 0⟩ : Vo) by simp [skipR, hv]]
    go_enter Try.func16, Try.ntmps16
    go_wp2_with (go_at_call 21; refine (voiceValid_impl _ _).mono ?_; rintro e w1 ⟨rfl, hb1⟩; obtain ⟨⟨x0, x1, x2, x3, x4⟩, ⟨y0, y1, y2, y3, y4⟩, ⟨f3, f4⟩, ⟨g0, g1, g2, g3, g4⟩, B1, hz1⟩ := two_boxes hb1; clear hb1)
    refine bodyPost_ret (v := ((⟨0, 0, 0, 0, 0⟩ : Vo)).val) (by simp [results, Try.results16, go_sem, x0, x1, x2, x3, x4, y0, y1, y2, y3, y4, hz1]) rfl ⟨rfl, ?_⟩
    go_grown
  cases hn : inB n 0 100000
  · rw [show skipR v n = (⟨0, 0, 0, 0, 0⟩ : Vo) by simp [skipR, hn]]
    go_enter Try.func16, Try.ntmps16
    go_wp2_with (first | (go_at_call 21; refine (voiceValid_impl _ _).mono ?_; rintro e w1 ⟨rfl, hb1⟩; obtain ⟨⟨x0, x1, x2, x3, x4⟩, ⟨y0, y1, y2, y3, y4⟩, ⟨f3, f4⟩, ⟨g0, g1, g2, g3, g4⟩, B1, hz1⟩ := two_boxes hb1; clear hb1) | (go_at_call 56; refine (within_any _ _ _ _).mono ?_; rintro e w' ⟨rfl, rfl⟩))
    refine bodyPost_ret (v := ((⟨0, 0, 0, 0, 0⟩ : Vo)).val) (by simp [results, Try.results16, go_sem, x0, x1, x2, x3, x4, y0, y1, y2, y3, y4, hz1]) rfl ⟨rfl, ?_⟩
    go_grown
  rw [show skipR v n = skipV v n by simp [skipR, hn, hv]]
  obtain ⟨n0, n1⟩ := inB_iff.1 hn
  have hs := fun w => skipVoice_low v n w hv n0 n1
  have Hs := Lib.hid hs
  clear hs
  go_enter Try.func16, Try.ntmps16
  go_wp2_with (first | (go_at_call 21; refine (voiceValid_impl _ _).mono ?_; rintro e w1 ⟨rfl, hb1⟩; obtain ⟨⟨x0, x1, x2, x3, x4⟩, ⟨y0, y1, y2, y3, y4⟩, ⟨f3, f4⟩, ⟨g0, g1, g2, g3, g4⟩, B1, hz1⟩ := two_boxes hb1; clear hb1) | (go_at_call 56; refine (within_any _ _ _ _).mono ?_; rintro e w' ⟨rfl, rfl⟩) | (go_at_call 57; refine (Hs.out _).mono ?_; rintro e w2 ⟨rfl, hb2⟩; have B2 : Below w.heap.size w w2 := below_step B1 hb2 (by omega); have hz2 := hb2.size; obtain ⟨⟨k0, k1, k2, k3, k4⟩, i0, i1, i2, i3, i4⟩ := keep5 hb2 (by omega) y0 y1 y2 y3 y4 g0 g1 g2 g3 g4; clear hb2))
  refine bodyPost_ret (v := (skipV v n).val) (by simp [results, Try.results16, go_sem, x0, x1, x2, x3, x4, y0, y1, y2, y3, y4, hz1, k0, k1, k2, k3, k4, hz2]) rfl ⟨rfl, ?_⟩
  go_grown
set_option maxHeartbeats 1000000 in
theorem skipVoice_spec (v : Vo) (n : Int) (w : World) :
    Calls Try.prog 17 #[v.val, .int .i64 n] w fun e w' => e = .returned (skipR v n).val ∧ Below w.heap.size w w' := by
  cases hv : vvB v
  · rw [show skipR v n = (⟨0, 0, 0, 0, 0⟩ : Vo) by simp [skipR, hv]]
    go_enter Try.func17, Try.ntmps17
    go_wp2_with (go_at_call 18; refine (voiceValid_spec _ _).mono ?_; rintro e w1 ⟨rfl, hb1⟩; obtain ⟨⟨x0, x1, x2, x3, x4⟩, ⟨y0, y1, y2, y3, y4⟩, ⟨f3, f4⟩, ⟨g0, g1, g2, g3, g4⟩, B1, hz1⟩ := two_boxes hb1; clear hb1)
    refine bodyPost_ret (v := ((⟨0, 0, 0, 0, 0⟩ : Vo)).val) (by simp [results, Try.results17, go_sem, x0, x1, x2, x3, x4, y0, y1, y2, y3, y4, hz1]) rfl ⟨rfl, ?_⟩
    go_grown
  cases hn : inB n 0 100000
  · rw [show skipR v n = (⟨0, 0, 0, 0, 0⟩ : Vo) by simp [skipR, hn]]
    go_enter Try.func17, Try.ntmps17
    go_wp2_with (first | (go_at_call 18; refine (voiceValid_spec _ _).mono ?_; rintro e w1 ⟨rfl, hb1⟩; obtain ⟨⟨x0, x1, x2, x3, x4⟩, ⟨y0, y1, y2, y3, y4⟩, ⟨f3, f4⟩, ⟨g0, g1, g2, g3, g4⟩, B1, hz1⟩ := two_boxes hb1; clear hb1) | (go_at_call 58; refine (l1In_any _ _ _ _).mono ?_; rintro e w' ⟨rfl, rfl⟩))
    refine bodyPost_ret (v := ((⟨0, 0, 0, 0, 0⟩ : Vo)).val) (by simp [results, Try.results17, go_sem, x0, x1, x2, x3, x4, y0, y1, y2, y3, y4, hz1]) rfl ⟨rfl, ?_⟩
    go_grown
  rw [show skipR v n = skipV v n by simp [skipR, hn, hv]]
  obtain ⟨n0, n1⟩ := inB_iff.1 hn
  obtain ⟨⟨l1, l2⟩, -, -, ⟨s1, s2⟩, f1, f2⟩ := vvB_bd hv
  by_cases hlt : n < v.f
  · rw [skip_lt hv n0 hlt]
    go_enter Try.func17, Try.ntmps17
    go_wp2_with (first | (go_at_call 18; refine (voiceValid_spec _ _).mono ?_; rintro e w1 ⟨rfl, hb1⟩; obtain ⟨⟨x0, x1, x2, x3, x4⟩, ⟨y0, y1, y2, y3, y4⟩, ⟨f3, f4⟩, ⟨g0, g1, g2, g3, g4⟩, B1, hz1⟩ := two_boxes hb1; clear hb1) | (go_at_call 58; refine (l1In_any _ _ _ _).mono ?_; rintro e w' ⟨rfl, rfl⟩))
    refine bodyPost_ret (v := ((⟨v.l, v.h, v.a, v.s, v.f - n⟩ : Vo)).val) (by simp [results, Try.results17, go_sem, x0, x1, x2, x3, x4, y0, y1, y2, y3, y4, hz1]) rfl ⟨rfl, ?_⟩
    go_grown
  · rw [skip_ge hv (by omega)]
    obtain ⟨⟨d1, d2⟩, d3, d4⟩ := quo_bd (p := n - v.f) (l := v.l) (by omega) l1
    have hlt' : v.f ≤ n := by omega
    go_enter Try.func17, Try.ntmps17
    go_wp2_with (first | (go_at_call 18; refine (voiceValid_spec _ _).mono ?_; rintro e w1 ⟨rfl, hb1⟩; obtain ⟨⟨x0, x1, x2, x3, x4⟩, ⟨y0, y1, y2, y3, y4⟩, ⟨f3, f4⟩, ⟨g0, g1, g2, g3, g4⟩, B1, hz1⟩ := two_boxes hb1; clear hb1) | (go_at_call 58; refine (l1In_any _ _ _ _).mono ?_; rintro e w' ⟨rfl, rfl⟩))
    go_region
    all_goals go_wp2
    all_goals go_region
    all_goals go_wp2
    all_goals (refine bodyPost_ret (v := (⟨v.l, v.h, v.a, (v.s + 1 + (n - v.f) / v.l) % 8, v.l - (n - v.f) % v.l⟩ : Vo).val) (by simp [results, Try.results17, go_sem, x0, x1, x2, x3, x4, y0, y1, y2, y3, y4, hz1]) rfl ⟨rfl, ?_⟩; go_grown)
set_option maxHeartbeats 1000000 in
theorem eqVoice_same (v : Vo) (w : World) :
    Calls Try.prog 25 #[v.val, v.val] w fun e w' => e = .returned (.bool true) ∧ Below w.heap.size w w' := by
  go_enter Try.func25, Try.ntmps25
  go_wp2
  go_ret
  exact ⟨rfl, by go_grown⟩
end Go.Proofs.Ytmenehgbhgehjaa
