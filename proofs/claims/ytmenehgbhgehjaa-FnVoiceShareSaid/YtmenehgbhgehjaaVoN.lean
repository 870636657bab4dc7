/-
  The drawn law on the share of high samples: plain lemmas and its walk. No condition.
-/
import Derived.Test.YtmenehgbhgehjaaVoM
namespace Go.Proofs.Ytmenehgbhgehjaa
open Go.RowKit
set_option linter.unusedVariables false
set_option linter.unusedSimpArgs false
def hiP (x : Int) : Bool := decide (0 < x)
def bitH (h s : Int) : Nat := if s < h then 1 else 0
theorem duty {s h : Int} (s0 : 0 ≤ s) (s1 : s ≤ 7) (h0 : 0 ≤ h) (h1 : h ≤ 8) :
    bitH h s + bitH h ((s + 1) % 8) + bitH h ((s + 2) % 8) + bitH h ((s + 3) % 8) + bitH h ((s + 4) % 8) + bitH h ((s + 5) % 8) + bitH h ((s + 6) % 8) + bitH h ((s + 7) % 8) = h.toNat := by
  have hs : s = 0 ∨ s = 1 ∨ s = 2 ∨ s = 3 ∨ s = 4 ∨ s = 5 ∨ s = 6 ∨ s = 7 := by omega
  have hh : h = 0 ∨ h = 1 ∨ h = 2 ∨ h = 3 ∨ h = 4 ∨ h = 5 ∨ h = 6 ∨ h = 7 ∨ h = 8 := by omega
  rcases hs with rfl | rfl | rfl | rfl | rfl | rfl | rfl | rfl <;> rcases hh with rfl | rfl | rfl | rfl | rfl | rfl | rfl | rfl | rfl <;> decide
/-- A channel at the beginning of a step. -/
def fullV (v : Vo) (s : Int) : Vo := ⟨v.l, v.h, v.a, s, v.l⟩
theorem full_valid {v : Vo} (hv : vvB v = true) {s : Int} (h0 : 0 ≤ s) (h1 : s ≤ 7) : vvB (fullV v s) = true := by
  obtain ⟨a, b, c, -, -⟩ := vvB_bd hv
  exact vvB_of ⟨a, b, c, ⟨h0, h1⟩, by simp only [fullV]; omega⟩
theorem run_cnt {v : Vo} (hv : vvB v = true) (ha : 0 < v.a) {n : Nat} (hn : (n : Int) ≤ v.f) : (sampV n v).countP hiP = n * bitH v.h v.s := by
  rw [samp_run n hv hn, List.countP_replicate]
  unfold levV bitH hiP
  by_cases h : v.s < v.h
  · simp [h, ha]
  · simp [h]
theorem run_end {v : Vo} (hv : vvB v = true) {n : Nat} (hn : (n : Int) = v.f) : iterV n v = fullV v ((v.s + 1) % 8) := by
  obtain ⟨⟨l1, l2⟩, -, -, -, f1, f2⟩ := vvB_bd hv
  rw [← skip_iter n hv, skip_ge hv (by omega), show (n : Int) - v.f = 0 by omega]
  simp [fullV]
theorem full_step {v : Vo} (hv : vvB v = true) (ha : 0 < v.a) {s : Int} (h0 : 0 ≤ s) (h1 : s ≤ 7) : (sampV v.l.toNat (fullV v s)).countP hiP = v.l.toNat * bitH v.h s ∧ iterV v.l.toNat (fullV v s) = fullV v ((s + 1) % 8) := by
  obtain ⟨⟨l1, l2⟩, -⟩ := vvB_bd hv
  have hf := full_valid hv h0 h1
  exact ⟨run_cnt hf ha (by simp only [fullV]; omega), run_end hf (by simp only [fullV]; omega)⟩
theorem share {v : Vo} (hv : vvB v = true) (ha : 0 < v.a) : (sampV (8 * v.l.toNat) v).countP hiP = v.l.toNat * v.h.toNat := by
  obtain ⟨⟨l1, l2⟩, ⟨h0, h1⟩, -, ⟨s0, s1⟩, f1, f2⟩ := vvB_bd hv
  obtain ⟨L, hL⟩ : ∃ L, L = v.l.toNat := ⟨_, rfl⟩
  obtain ⟨F, hF⟩ : ∃ F, F = v.f.toNat := ⟨_, rfl⟩
  have st := fun (s : Int) (h0 : 0 ≤ s) (h1 : s ≤ 7) => full_step hv ha h0 h1
  rw [← hL] at st ⊢
  rw [show 8 * L = F + (L + (L + (L + (L + (L + (L + (L + (L - F)))))))) by omega]
  obtain ⟨c1, d1⟩ := st ((v.s + 1) % 8) (by omega) (by omega)
  obtain ⟨c2, d2⟩ := st ((v.s + 2) % 8) (by omega) (by omega)
  obtain ⟨c3, d3⟩ := st ((v.s + 3) % 8) (by omega) (by omega)
  obtain ⟨c4, d4⟩ := st ((v.s + 4) % 8) (by omega) (by omega)
  obtain ⟨c5, d5⟩ := st ((v.s + 5) % 8) (by omega) (by omega)
  obtain ⟨c6, d6⟩ := st ((v.s + 6) % 8) (by omega) (by omega)
  obtain ⟨c7, d7⟩ := st ((v.s + 7) % 8) (by omega) (by omega)
  rw [show ((v.s + 1) % 8 + 1) % 8 = (v.s + 2) % 8 by omega] at d1
  rw [show ((v.s + 2) % 8 + 1) % 8 = (v.s + 3) % 8 by omega] at d2
  rw [show ((v.s + 3) % 8 + 1) % 8 = (v.s + 4) % 8 by omega] at d3
  rw [show ((v.s + 4) % 8 + 1) % 8 = (v.s + 5) % 8 by omega] at d4
  rw [show ((v.s + 5) % 8 + 1) % 8 = (v.s + 6) % 8 by omega] at d5
  rw [show ((v.s + 6) % 8 + 1) % 8 = (v.s + 7) % 8 by omega] at d6
  rw [show ((v.s + 7) % 8 + 1) % 8 = v.s by omega] at d7
  have cl : (sampV (L - F) (fullV v v.s)).countP hiP = (L - F) * bitH v.h v.s := run_cnt (full_valid hv s0 s1) ha (by simp only [fullV]; omega)
  rw [sampV_add, run_end hv (show (F : Int) = v.f by omega), sampV_add, d1, sampV_add, d2, sampV_add, d3, sampV_add, d4, sampV_add, d5, sampV_add, d6, sampV_add, d7]
  simp only [List.countP_append]
  rw [c1, c2, c3, c4, c5, c6, c7, cl, run_cnt hv ha (show (F : Int) ≤ v.f by omega), ← duty s0 s1 h0 h1]
  have e : L * bitH v.h v.s = F * bitH v.h v.s + (L - F) * bitH v.h v.s := by rw [← Nat.add_mul, show F + (L - F) = L by omega]
  simp only [Nat.mul_add]
  omega
theorem cnt_succ {xs : List Int} {k : Nat} (hk : k < xs.length) : (xs.take (k + 1)).countP hiP = (xs.take k).countP hiP + if 0 < xs.getD k 0 then 1 else 0 := by
  rw [List.take_add_one, List.getElem?_eq_getElem hk, List.countP_append, List.getD_eq_getElem?_getD, List.getElem?_eq_getElem hk]
  simp [hiP]
set_option maxHeartbeats 4000000 in
theorem fnVoiceShare_walk (w : World) (A : Option Addr) (n c : Nat) (zs : List Int) (h : IsRow .u8 w A n c zs) :
    Calls Try.prog 6 #[.slice A n c] w fun e w' => e = .returned (.bool true) ∧ Below w.heap.size w w' := by
  by_cases hlong : 1048576 < n
  · go_enter Try.func6, Try.ntmps6
    go_wp2_with fail
    go_ret
    exact ⟨rfl, Below.refl _ _⟩
  have HI := Lib.hid h
  clear h
  go_enter Try.func6, Try.ntmps6
  go_wp2_with fail
  refine (drawPlayVoice_any A n c zs _ HI.out).mono ?_
  rintro e w1 ⟨u, N, rfl, hu, N0, N1, hb⟩
  have HB := Lib.hid hb
  have hw1 := hb.size
  have hE := Lib.hid (Env.start w1)
  clear hb
  cases hv : vvB u
  · go_wp2_with fail
    replace hE := Lib.hid (hE.out.box5 24 (.int .i64 u.l) (.int .i64 u.h) (.int .i64 u.a) (.int .i64 u.s) (.int .i64 u.f))
    refine (voiceValid_spec u _).mono ?_
    rintro e w2 ⟨rfl, b⟩
    replace hE := Lib.hid (hE.out.below b)
    clear b
    obtain ⟨⟨x0, x1, x2, x3, x4⟩, xl⟩ := own_box5 (hE.out.own 0 rfl)
    rw [hv]
    go_wp2_with (go_at_call 19; refine (alive_any _).mono ?_; rintro e w' ⟨rfl, rfl⟩)
    go_ret
    exact ⟨rfl, HB.out.trans (hE.out.bel.mono hw1)⟩
  obtain ⟨⟨l1, l2⟩, ⟨h0, h1⟩, ⟨a0, a1⟩, -⟩ := vvB_bd hv
  by_cases h8 : 8 * u.l > 400
  · replace hv := Lib.hid hv
    go_wp2_with fail
    replace hE := Lib.hid (hE.out.box5 24 (.int .i64 u.l) (.int .i64 u.h) (.int .i64 u.a) (.int .i64 u.s) (.int .i64 u.f))
    refine (voiceValid_spec u _).mono ?_
    rintro e w2 ⟨rfl, b⟩
    replace hE := Lib.hid (hE.out.below b)
    clear b
    obtain ⟨⟨x0, x1, x2, x3, x4⟩, xl⟩ := own_box5 (hE.out.own 0 rfl)
    rw [hv.out]
    go_wp2_with (go_at_call 19; refine (alive_any _).mono ?_; rintro e w' ⟨rfl, rfl⟩)
    go_ret
    exact ⟨rfl, HB.out.trans (hE.out.bel.mono hw1)⟩
  by_cases ha : u.a = 0
  · have ha1 : (u.a == 0) = true := by simp [ha]
    replace hv := Lib.hid hv
    replace ha := Lib.hid ha
    go_wp2_with fail
    replace hE := Lib.hid (hE.out.box5 24 (.int .i64 u.l) (.int .i64 u.h) (.int .i64 u.a) (.int .i64 u.s) (.int .i64 u.f))
    refine (voiceValid_spec u _).mono ?_
    rintro e w2 ⟨rfl, b⟩
    replace hE := Lib.hid (hE.out.below b)
    clear b
    obtain ⟨⟨x0, x1, x2, x3, x4⟩, xl⟩ := own_box5 (hE.out.own 0 rfl)
    rw [hv.out]
    go_wp2_with (go_at_call 19; refine (alive_any _).mono ?_; rintro e w' ⟨rfl, rfl⟩)
    go_ret
    exact ⟨rfl, HB.out.trans (hE.out.bel.mono hw1)⟩
  have ha1 : (u.a == 0) = false := by simp [ha]
  obtain ⟨J0, hJ⟩ : ∃ J0, J0 = 8 * u.l.toNat := ⟨_, rfl⟩
  have hJl : J0 ≤ 400 := by omega
  have he : 8 * u.l = (J0 : Int) := by omega
  obtain ⟨xs, hxs⟩ : ∃ xs, xs = sampV J0 u := ⟨_, rfl⟩
  have hxl : xs.length = J0 := by rw [hxs, sampV_len]
  have hR : u = playV u (8 * u.l) := by rw [he, (play_n hv hJl).2, hJ, iter_period hv]
  have hx0 : playL u (8 * u.l) = xs := by rw [he, (play_n hv hJl).1, hxs]
  have hpi := Lib.hid (fun W => (playVoice_impl u (8 * u.l) W).mono fun e w' h => give0_of (L := J0) (xs := xs) (R := u) hx0 hxl hR.symm h)
  have hps := Lib.hid (fun W => (playVoice_spec u (8 * u.l) W).mono fun e w' h => give0_of (L := J0) (xs := xs) (R := u) hx0 hxl hR.symm h)
  have hsh := share hv (show 0 < u.a by omega)
  rw [← hJ, ← hxs] at hsh
  have hm0 : 0 ≤ u.h * u.l := Int.mul_nonneg h0 (by omega)
  have hm1 : u.h * u.l ≤ 800 := by
    have := Int.mul_le_mul h1 l2 (by omega) (by omega)
    omega
  have hcnt : ((xs.countP hiP : Nat) : Int) = u.h * u.l := by
    rw [hsh, Int.natCast_mul, Int.mul_comm]
    rw [show ((u.l.toNat : Nat) : Int) = u.l by omega, show ((u.h.toNat : Nat) : Int) = u.h by omega]
  have hceq : (((xs.countP hiP : Nat) : Int) == u.h * u.l) = true := by rw [hcnt]; simp
  have hcl : ∀ k, (xs.take k).countP hiP ≤ 400 := fun k => Nat.le_trans List.countP_le_length (by rw [List.length_take]; omega)
  replace hcl := Lib.hid hcl
  clear hx0 hR hxs hsh ha hcnt
  replace hv := Lib.hid hv
  replace he := Lib.hid he
  replace hJ := Lib.hid hJ
  go_wp2_with fail
  replace hE := Lib.hid (hE.out.box5 24 (.int .i64 u.l) (.int .i64 u.h) (.int .i64 u.a) (.int .i64 u.s) (.int .i64 u.f))
  refine (voiceValid_spec u _).mono ?_
  rintro e w2 ⟨rfl, b⟩
  replace hE := Lib.hid (hE.out.below b)
  clear b
  obtain ⟨⟨x0, x1, x2, x3, x4⟩, xl⟩ := own_box5 (hE.out.own 0 rfl)
  rw [hv.out]
  go_wp2_with fail
  refine (hpi.out _).mono ?_
  rintro e w3 ⟨A1, c1, rfl, o, b⟩
  replace hE := Lib.hid (hE.out.push o b)
  clear o b x0 x1 x2 x3 x4 xl
  obtain ⟨W, hW⟩ : ∃ W, W = w3.alloc (.cells #[.int .i64 u.l, .int .i64 u.h, .int .i64 u.a, .int .i64 u.s, .int .i64 u.f] 24) := ⟨_, rfl⟩
  replace hE := Lib.hid (hE.out.box5 24 (.int .i64 u.l) (.int .i64 u.h) (.int .i64 u.a) (.int .i64 u.s) (.int .i64 u.f))
  rw [← hW] at hE
  obtain ⟨bx, hbx⟩ : ∃ bx, bx = w3.heap.size := ⟨_, rfl⟩
  rw [← hbx] at hE
  have HW := Lib.hid (And.intro hW hbx)
  clear hW hbx
  go_upto_region 7 with (fail)
  rw [← HW.out.1, ← HW.out.2]
  go_wp2_with fail
  go_loopw [7, 8] (fun q i wr => ∃ k : Nat, k ≤ J0 ∧ i = .int .i64 k ∧ q = .int .i64 (((xs.take k).countP hiP : Nat) : Int) ∧ wr = W) (fun _ i _ => J0 - (intOf i).toNat)
  case atStart => exact ⟨0, Nat.zero_le _, rfl, by simp, rfl⟩
  case round =>
    obtain ⟨k, hk, rfl, rfl, rfl⟩ := hrel
    by_cases hlt : k < J0
    · obtain ⟨bs, os, e1, _, hz⟩ := (hE.out.ints 1 rfl).spot hlt
      have hsu := Lib.hid (cnt_succ (show k < xs.length by omega))
      have hc0 := hcl.out k
      have q0 : (0 : Int) ≤ (k : Int) := by omega
      have q1 : (k : Int) < (J0 : Int) := by omega
      generalize xs.getD k 0 = X at hz hsu
      replace e1 := Lib.hid e1
      rw [e1.out]
      by_cases hX : 0 < X
      · have hX1 : X > 0 := hX
        go_wp2_with fail
        go_roundw
        case rel => exact ⟨k + 1, by omega, by go_num, by rw [hsu.out, if_pos hX]; go_num, by first | rfl | trivial⟩
        case measure => simp [intOf]; omega
      · have hX1 : ¬ X > 0 := hX
        go_wp2_with fail
        go_roundw
        case rel => exact ⟨k + 1, by omega, by go_num, by rw [hsu.out, if_neg hX]; go_num, by first | rfl | trivial⟩
        case measure => simp [intOf]; omega
    · obtain rfl : k = J0 := by omega
      rw [List.take_of_length_le (by omega)]
      obtain ⟨⟨x0, x1, x2, x3, x4⟩, xl⟩ := own_box5 (hE.out.own 2 rfl)
      go_wp2_with fail
      refine (hps.out _).mono ?_
      rintro e w5 ⟨A5, c5, rfl, o, b⟩
      replace hE := Lib.hid (hE.out.push o b)
      clear o b
      clear x0 x1 x2 x3 x4 xl
      obtain ⟨⟨y0, y1, y2, y3, y4⟩, yl⟩ := own_box5 (hE.out.own 1 rfl)
      obtain ⟨⟨x0, x1, x2, x3, x4⟩, xl⟩ := own_box5 (hE.out.own 3 rfl)
      obtain ⟨W2, hW2⟩ : ∃ W2, W2 = w5.alloc (.cells #[.int .i64 u.l, .int .i64 u.h, .int .i64 u.a, .int .i64 u.s, .int .i64 u.f] 24) := ⟨_, rfl⟩
      go_wp2_with (go_at_call 29; rw [← hW2]; replace hE := Lib.hid (hE.out.below (w' := W2) (by rw [hW2]; exact (Below.refl _ _).alloc (Nat.le_refl _) _)); refine (sameInts_same _ _ _ _ _ _ _ (hE.out.ints 2 rfl) (hE.out.ints 0 rfl) (by omega)).mono ?_; rintro e w6 ⟨rfl, b⟩; replace hE := Lib.hid (hE.out.below b); clear b)
      go_ret
      exact ⟨rfl, HB.out.trans (hE.out.bel.mono hw1)⟩
end Go.Proofs.Ytmenehgbhgehjaa
