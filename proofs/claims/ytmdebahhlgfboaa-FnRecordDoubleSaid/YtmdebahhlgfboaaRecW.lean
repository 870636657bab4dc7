/-
  The drawn laws on recordings: RecordFrames, PlayFrames, ButtonsAt: their walks. No condition.
-/
import Derived.Test.YtmdebahhlgfboaaDrwR
namespace Go.Proofs.Ytmdebahhlgfboaa
open Go.RowKit
set_option linter.unusedVariables false
set_option linter.unusedSimpArgs false
set_option maxHeartbeats 400000 in
theorem alive_any (w : World) : Calls Try.prog 30 #[] w fun e w' => e = .returned (.bool true) ∧ w = w' := by
  have e8 : wrap64 (IntKind.i8.wrap 255) = -1 := by
    rw [show IntKind.i8.wrap 255 = -1 by decide]
    exact IntWalk.wrap64_in _ (by omega)
  go_enter Try.func30, Try.ntmps30
  go_wp2_with (first | (go_at_call 47; refine (within_any _ _ _ _).mono ?_; rintro e w' ⟨rfl, rfl⟩; rw [show inB 255 0 255 = true from rfl]) | go_in)
  go_ret
  exact ⟨rfl, rfl⟩
set_option maxHeartbeats 2000000 in
theorem sameHolds_same (A B : Option Addr) (n c d : Nat) (ts : List THold) (w : World) (ha : Reads w w.heap.size 2 A n (iv (flHold ts))) (hb : Reads w w.heap.size 2 B n (iv (flHold ts))) (hn : n ≤ 1000000000) :
    Calls Try.prog 29 #[.slice A n c, .slice B n d] w fun e w' => e = .returned (.bool true) ∧ Below w.heap.size w w' := by
  have hnn : (((n : Int) != (n : Int)) = false) := by simp
  have HA := Lib.hid ha
  have HB := Lib.hid hb
  clear ha hb
  go_enter Try.func29, Try.ntmps29
  go_wp2
  go_loopw [5] (fun i wr => ∃ k : Nat, k ≤ n ∧ i = .int .i64 k ∧ ∃ q, wr = w.drewN q) (fun i _ => n - (intOf i).toNat)
  case atStart => exact ⟨0, Nat.zero_le _, rfl, 0, rfl⟩
  case round =>
    obtain ⟨k, hk, rfl, q, rfl⟩ := hrel
    by_cases hlt : k < n
    · obtain ⟨b, off, e1, _, h0, h1⟩ := hold_spot HA.out hlt
      obtain ⟨b2, off2, e2, _, g0, g1⟩ := hold_spot HB.out hlt
      generalize ts.getD k (0, 0) = t at h0 h1 g0 g1
      obtain ⟨x0, x1⟩ := t
      have q0 : (0 : Int) ≤ (k : Int) := by omega
      have q1 : (k : Int) < (n : Int) := by omega
      have hx0 : (x0 != x0) = false := by simp
      have hx1 : (x1 != x1) = false := by simp
      have e1 := Lib.hid e1
      have e2 := Lib.hid e2
      clear HA HB
      rw [e1.out, e2.out]
      go_wp2_with fail
      go_quiet (fail)
      go_wp2_with fail
      go_roundw
      case rel => exact ⟨k + 1, by omega, by go_num, _, by first | rfl | simp⟩
      case measure => simp [intOf]; omega
    · go_wp2
      go_ret
      exact ⟨rfl, below_drewN (Below.refl _ _) q⟩
theorem playFrames_implE {ts : List THold} {xs : List Int} {b : Bool} (hx : plL ts = xs) (hb : plB ts = b) (A : Option Addr) (n c : Nat) (w : World) (h : Reads w w.heap.size 2 A n (iv (flHold ts))) (hn : n ≤ 1000000000) :
    Calls Try.prog 19 #[.slice A n c] w (GivesB w xs b) := by subst hx; subst hb; exact playFrames_impl A n c ts w h hn
theorem playFrames_specE {ts : List THold} {xs : List Int} {b : Bool} (hx : plL ts = xs) (hb : plB ts = b) (A : Option Addr) (n c : Nat) (w : World) (h : Reads w w.heap.size 2 A n (iv (flHold ts))) (hn : n ≤ 1000000000) :
    Calls Try.prog 18 #[.slice A n c] w (GivesB w xs b) := by subst hx; subst hb; exact playFrames_spec A n c ts w h hn
theorem recR_cases (xs : List Int) : recR xs = [] ∨ (allB xs = true ∧ xs.length ≤ 300 ∧ recR xs = recF xs) := by
  unfold recR
  split
  · rename_i h
    simp only [Bool.and_eq_true, decide_eq_true_eq] at h
    exact .inr ⟨h.2, h.1, rfl⟩
  · exact .inl rfl
set_option maxHeartbeats 2000000 in
theorem fnRecordFrames_walk (w : World) (A : Option Addr) (n c : Nat) (zs : List Int) (h : IsRow .u8 w A n c zs) :
    Calls Try.prog 8 #[.slice A n c] w fun e w' => e = .returned (.bool true) ∧ Below w.heap.size w w' := by
  by_cases hlong : 1048576 < n
  · go_enter Try.func8, Try.ntmps8
    go_wp2_with fail
    go_ret
    exact ⟨rfl, Below.refl _ _⟩
  have HI := Lib.hid h
  clear h
  go_enter Try.func8, Try.ntmps8
  go_wp2_with fail
  refine (drawRecordFrames_any A n c zs _ HI.out).mono ?_
  rintro e w1 ⟨B, cB, xs, rfl, -, hx, hl, hb⟩
  have HX := Lib.hid hx
  have HB := Lib.hid hb
  have hw1 := hb.size
  have hE := Lib.hid (Env.start w1)
  clear hx hb
  have hrl := recR_len xs
  go_wp2_with fail
  refine (recordFrames_impl B xs.length cB xs _ (hE.out.arg HX.out) (by omega)).mono ?_
  rintro e w' ⟨A', c', rfl, o, b⟩
  replace hE := Lib.hid (hE.out.push o b)
  clear o b
  go_wp2_with fail
  refine (recordFrames_spec B xs.length cB xs _ (hE.out.arg HX.out) (by omega)).mono ?_
  rintro e w' ⟨A', c', rfl, o, b⟩
  replace hE := Lib.hid (hE.out.push o b)
  clear o b
  go_wp2_with fail
  refine (sameHolds_same _ _ _ _ _ _ _ (hE.out.reads 1 rfl) (hE.out.reads 0 rfl) (by omega)).mono ?_
  rintro e w' ⟨rfl, b⟩
  replace hE := Lib.hid (hE.out.below b)
  clear b
  rcases recR_cases xs with h0 | ⟨hall, h3, hrec⟩
  · rw [h0] at hE ⊢
    go_wp2_with (go_at_call 30; refine (alive_any _).mono ?_; rintro e w' ⟨rfl, rfl⟩)
    go_ret
    exact ⟨rfl, HB.out.trans (hE.out.bel.mono hw1)⟩
  · obtain ⟨o, ho⟩ : ∃ o, o = recR xs := ⟨_, rfl⟩
    rw [← ho] at hE hrl ⊢
    rw [← ho] at hrec
    by_cases hz : o.length = 0
    · clear hrec ho
      obtain rfl : o = [] := List.length_eq_zero_iff.1 hz
      clear hz
      go_wp2_with (go_at_call 30; refine (alive_any _).mono ?_; rintro e w' ⟨rfl, rfl⟩)
      go_ret
      exact ⟨rfl, HB.out.trans (hE.out.bel.mono hw1)⟩
    have hz1 : ((o.length : Int) == 0) = false := by simp; exact fun h => hz (by simp [h])
    have hp := play_rec hall h3
    rw [← hrec] at hp
    have hol : o.length ≤ xs.length := by rw [hrec]; exact recF_len xs
    have hx1 : plL o = xs := by unfold plL; rw [hp]; rfl
    have hx2 : plB o = true := by unfold plB; rw [hp]; rfl
    have hle : decide ((o.length : Int) ≤ (xs.length : Int)) = true := decide_eq_true (by omega)
    replace hx1 := Lib.hid hx1
    replace hx2 := Lib.hid hx2
    clear hp hrec hz ho hall
    go_wp2_with fail
    refine (playFrames_implE hx1.out hx2.out _ _ _ _ (hE.out.reads 1 rfl) (by omega)).mono ?_
    rintro e w' ⟨A', c', rfl, o, b⟩
    replace hE := Lib.hid (hE.out.push o b)
    clear o b
    go_wp2_with fail
    refine (sameInts_same _ _ _ _ _ _ _ (hE.out.ints 0 rfl) (hE.out.arg HX.out) (by first | omega | simp)).mono ?_
    rintro e w' ⟨rfl, b⟩
    replace hE := Lib.hid (hE.out.below b)
    clear b
    go_wp2_with fail
    go_ret
    exact ⟨rfl, HB.out.trans (hE.out.bel.mono hw1)⟩
set_option maxHeartbeats 2000000 in
theorem fnPlayFrames_walk (w : World) (A : Option Addr) (n c : Nat) (zs : List Int) (h : IsRow .u8 w A n c zs) :
    Calls Try.prog 9 #[.slice A n c] w fun e w' => e = .returned (.bool true) ∧ Below w.heap.size w w' := by
  by_cases hlong : 1048576 < n
  · go_enter Try.func9, Try.ntmps9
    go_wp2_with fail
    go_ret
    exact ⟨rfl, Below.refl _ _⟩
  have HI := Lib.hid h
  clear h
  go_enter Try.func9, Try.ntmps9
  go_wp2_with fail
  refine (drawPlayFrames_any A n c zs _ HI.out).mono ?_
  rintro e w1 ⟨B, cB, ts, rfl, hx, hl, hb⟩
  have HX := Lib.hid hx
  have HB := Lib.hid hb
  have hw1 := hb.size
  have hE := Lib.hid (Env.start w1)
  clear hx hb
  have hpl := plL_len ts
  cases hok : plB ts
  · have h0 : plL ts = [] := by
      unfold plB at hok
      unfold plL
      rw [Option.isSome_eq_false_iff, Option.isNone_iff_eq_none] at hok
      rw [hok]; rfl
    replace hok := Lib.hid hok
    replace h0 := Lib.hid h0
    go_wp2_with fail
    refine (playFrames_implE h0.out hok.out _ _ cB _ (hE.out.argR HX.out) (by omega)).mono ?_
    rintro e w' ⟨A', c', rfl, o, b⟩
    replace hE := Lib.hid (hE.out.push o b)
    clear o b
    go_wp2_with fail
    refine (playFrames_specE h0.out hok.out _ _ cB _ (hE.out.argR HX.out) (by omega)).mono ?_
    rintro e w' ⟨A', c', rfl, o, b⟩
    replace hE := Lib.hid (hE.out.push o b)
    clear o b
    go_wp2_with fail
    refine (sameInts_same _ _ _ _ _ _ _ (hE.out.ints 1 rfl) (hE.out.ints 0 rfl) (by first | omega | simp)).mono ?_
    rintro e w' ⟨rfl, b⟩
    replace hE := Lib.hid (hE.out.below b)
    clear b
    go_wp2_with (go_at_call 30; refine (alive_any _).mono ?_; rintro e w' ⟨rfl, rfl⟩)
    go_ret
    exact ⟨rfl, HB.out.trans (hE.out.bel.mono hw1)⟩
  · have hr := rec_of_play hok
    obtain ⟨xs, hxs⟩ : ∃ xs, plL ts = xs := ⟨_, rfl⟩
    rw [hxs] at hr hpl
    replace hr := Lib.hid hr
    replace hok := Lib.hid hok
    replace hxs := Lib.hid hxs
    go_wp2_with fail
    refine (playFrames_implE hxs.out hok.out _ _ cB _ (hE.out.argR HX.out) (by omega)).mono ?_
    rintro e w' ⟨A', c', rfl, o, b⟩
    replace hE := Lib.hid (hE.out.push o b)
    clear o b
    go_wp2_with fail
    refine (playFrames_specE hxs.out hok.out _ _ cB _ (hE.out.argR HX.out) (by omega)).mono ?_
    rintro e w' ⟨A', c', rfl, o, b⟩
    replace hE := Lib.hid (hE.out.push o b)
    clear o b
    go_wp2_with fail
    refine (sameInts_same _ _ _ _ _ _ _ (hE.out.ints 1 rfl) (hE.out.ints 0 rfl) (by first | omega | simp)).mono ?_
    rintro e w' ⟨rfl, b⟩
    replace hE := Lib.hid (hE.out.below b)
    clear b
    go_wp2_with fail
    refine (recordFrames_impl _ _ _ xs _ (hE.out.ints 1 rfl) (by omega)).mono ?_
    rintro e w' ⟨A', c', rfl, o, b⟩
    rw [hr.out] at o ⊢
    replace hE := Lib.hid (hE.out.push o b)
    clear o b
    go_wp2_with fail
    refine (sameHolds_same _ _ _ _ _ _ _ (hE.out.reads 0 rfl) (hE.out.argR HX.out) (by omega)).mono ?_
    rintro e w' ⟨rfl, b⟩
    replace hE := Lib.hid (hE.out.below b)
    clear b
    go_wp2_with fail
    go_ret
    exact ⟨rfl, HB.out.trans (hE.out.bel.mono hw1)⟩
theorem buttonsAt_implE {ts : List THold} {m z : Int} (hz : btA ts m = z) (A : Option Addr) (n c : Nat) (w : World) (h : Reads w w.heap.size 2 A n (iv (flHold ts))) (hn : n ≤ 1000000000) :
    Calls Try.prog 16 #[.slice A n c, .int .i64 m] w fun e w' => e = .returned (.int .i64 z) ∧ Below w.heap.size w w' := by subst hz; exact buttonsAt_impl A n c ts m w h hn
theorem buttonsAt_specE {ts : List THold} {m z : Int} (hz : btA ts m = z) (A : Option Addr) (n c : Nat) (w : World) (h : Reads w w.heap.size 2 A n (iv (flHold ts))) (hn : n ≤ 1000000000) :
    Calls Try.prog 14 #[.slice A n c, .int .i64 m] w fun e w' => e = .returned (.int .i64 z) ∧ Below w.heap.size w w' := by subst hz; exact buttonsAt_spec A n c ts m w h hn
set_option maxHeartbeats 2000000 in
theorem fnButtonsAt_walk (w : World) (A : Option Addr) (n c : Nat) (zs : List Int) (h : IsRow .u8 w A n c zs) :
    Calls Try.prog 7 #[.slice A n c] w fun e w' => e = .returned (.bool true) ∧ Below w.heap.size w w' := by
  by_cases hlong : 1048576 < n
  · go_enter Try.func7, Try.ntmps7
    go_wp2_with fail
    go_ret
    exact ⟨rfl, Below.refl _ _⟩
  have HI := Lib.hid h
  clear h
  go_enter Try.func7, Try.ntmps7
  go_wp2_with fail
  refine (drawButtonsAt_any A n c zs _ HI.out).mono ?_
  rintro e w1 ⟨B, cB, ts, m, rfl, hx, hl, ⟨m0, m1⟩, hb⟩
  have HX := Lib.hid hx
  have HB := Lib.hid hb
  have hw1 := hb.size
  have hE := Lib.hid (Env.start w1)
  clear hx hb
  have hpl := plL_len ts
  have hend := btA_end ts
  have hcase : btA ts m = 0 ∨ (plB ts = true ∧ 0 ≤ m ∧ m < ((plL ts).length : Int) ∧ btA ts m = (plL ts).getD m.toNat 0) := by
    unfold btA
    split
    · rename_i h
      simp only [Bool.and_eq_true, decide_eq_true_eq] at h
      exact .inr ⟨h.1, h.2.1, h.2.2, rfl⟩
    · exact .inl rfl
  cases hok : plB ts
  · have hz : btA ts m = 0 := by rcases hcase with h | h; exact h; rw [hok] at h; exact absurd h.1 (by simp)
    have hxs : plL ts = [] := by
      unfold plB at hok
      unfold plL
      rw [Option.isSome_eq_false_iff, Option.isNone_iff_eq_none] at hok
      rw [hok]; rfl
    replace hok := Lib.hid hok
    replace hz := Lib.hid hz
    replace hxs := Lib.hid hxs
    clear hcase hend
    go_wp2_with fail
    refine (buttonsAt_implE hz.out _ _ cB _ (hE.out.argR HX.out) (by omega)).mono ?_
    rintro e w' ⟨rfl, b⟩
    replace hE := Lib.hid (hE.out.below b)
    clear b
    go_wp2_with fail
    refine (buttonsAt_specE hz.out _ _ cB _ (hE.out.argR HX.out) (by omega)).mono ?_
    rintro e w' ⟨rfl, b⟩
    replace hE := Lib.hid (hE.out.below b)
    clear b
    go_wp2_with fail
    refine (playFrames_implE hxs.out hok.out _ _ cB _ (hE.out.argR HX.out) (by omega)).mono ?_
    rintro e w' ⟨A', c', rfl, o, b⟩
    replace hE := Lib.hid (hE.out.push o b)
    clear o b
    go_wp2_with (go_at_call 30; refine (alive_any _).mono ?_; rintro e w' ⟨rfl, rfl⟩)
    go_ret
    exact ⟨rfl, HB.out.trans (hE.out.bel.mono hw1)⟩
  obtain ⟨xs, hxs⟩ : ∃ xs, plL ts = xs := ⟨_, rfl⟩
  rw [hxs] at hcase hend hpl
  by_cases hm0 : m < 0
  · have hz : btA ts m = 0 := by rcases hcase with h | h; exact h; exact absurd h.2.1 (by omega)
    replace hok := Lib.hid hok
    replace hz := Lib.hid hz
    replace hxs := Lib.hid hxs
    clear hcase hend
    go_wp2_with fail
    refine (buttonsAt_implE hz.out _ _ cB _ (hE.out.argR HX.out) (by omega)).mono ?_
    rintro e w' ⟨rfl, b⟩
    replace hE := Lib.hid (hE.out.below b)
    clear b
    go_wp2_with fail
    refine (buttonsAt_specE hz.out _ _ cB _ (hE.out.argR HX.out) (by omega)).mono ?_
    rintro e w' ⟨rfl, b⟩
    replace hE := Lib.hid (hE.out.below b)
    clear b
    go_wp2_with fail
    refine (playFrames_implE hxs.out hok.out _ _ cB _ (hE.out.argR HX.out) (by omega)).mono ?_
    rintro e w' ⟨A', c', rfl, o, b⟩
    replace hE := Lib.hid (hE.out.push o b)
    clear o b
    go_wp2_with (go_at_call 30; refine (alive_any _).mono ?_; rintro e w' ⟨rfl, rfl⟩)
    go_ret
    exact ⟨rfl, HB.out.trans (hE.out.bel.mono hw1)⟩
  by_cases hm1 : m ≥ (xs.length : Int)
  · have hz : btA ts m = 0 := by rcases hcase with h | h; exact h; exact absurd h.2.2.1 (by omega)
    replace hok := Lib.hid hok
    replace hz := Lib.hid hz
    replace hxs := Lib.hid hxs
    clear hcase hend
    go_wp2_with fail
    refine (buttonsAt_implE hz.out _ _ cB _ (hE.out.argR HX.out) (by omega)).mono ?_
    rintro e w' ⟨rfl, b⟩
    replace hE := Lib.hid (hE.out.below b)
    clear b
    go_wp2_with fail
    refine (buttonsAt_specE hz.out _ _ cB _ (hE.out.argR HX.out) (by omega)).mono ?_
    rintro e w' ⟨rfl, b⟩
    replace hE := Lib.hid (hE.out.below b)
    clear b
    go_wp2_with fail
    refine (playFrames_implE hxs.out hok.out _ _ cB _ (hE.out.argR HX.out) (by omega)).mono ?_
    rintro e w' ⟨A', c', rfl, o, b⟩
    replace hE := Lib.hid (hE.out.push o b)
    clear o b
    go_wp2_with (go_at_call 30; refine (alive_any _).mono ?_; rintro e w' ⟨rfl, rfl⟩)
    go_ret
    exact ⟨rfl, HB.out.trans (hE.out.bel.mono hw1)⟩
  obtain ⟨N, rfl⟩ := Int.eq_ofNat_of_zero_le (show 0 ≤ m by omega)
  have hz : btA ts (N : Int) = xs.getD N 0 := by
    unfold btA
    rw [if_pos (by simp only [hok, hxs, Bool.true_and, decide_eq_true_eq]; omega), hxs, Int.toNat_natCast]
  have hN : N < xs.length := by omega
  obtain ⟨Z, hZ⟩ : ∃ Z, Z = xs.getD N 0 := ⟨_, rfl⟩
  rw [← hZ] at hz
  replace hok := Lib.hid hok
  replace hz := Lib.hid hz
  replace hxs := Lib.hid hxs
  replace hend := Lib.hid hend
  replace hZ := Lib.hid hZ
  clear hcase
  go_wp2_with fail
  refine (buttonsAt_implE hz.out _ _ cB _ (hE.out.argR HX.out) (by omega)).mono ?_
  rintro e w' ⟨rfl, b⟩
  replace hE := Lib.hid (hE.out.below b)
  clear b
  go_wp2_with fail
  refine (buttonsAt_specE hz.out _ _ cB _ (hE.out.argR HX.out) (by omega)).mono ?_
  rintro e w' ⟨rfl, b⟩
  replace hE := Lib.hid (hE.out.below b)
  clear b
  go_wp2_with fail
  refine (playFrames_implE hxs.out hok.out _ _ cB _ (hE.out.argR HX.out) (by omega)).mono ?_
  rintro e w' ⟨A', c', rfl, o, b⟩
  replace hE := Lib.hid (hE.out.push o b)
  clear o b
  obtain ⟨bb, oo, e2, _, hc⟩ := (hE.out.ints 0 rfl).spot hN
  rw [← hZ.out] at hc
  replace e2 := Lib.hid e2
  rw [e2.out]
  go_wp2_with fail
  refine (buttonsAt_implE hend.out _ _ cB _ (hE.out.argR HX.out) (by omega)).mono ?_
  rintro e w' ⟨rfl, b⟩
  replace hE := Lib.hid (hE.out.below b)
  clear b
  go_wp2_with fail
  go_ret
  exact ⟨rfl, HB.out.trans (hE.out.bel.mono hw1)⟩
end Go.Proofs.Ytmdebahhlgfboaa
