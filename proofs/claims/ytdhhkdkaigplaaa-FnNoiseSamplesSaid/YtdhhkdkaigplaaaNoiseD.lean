/-
  NoiseDistance: contracts in both packages (the loop ends, since all states lie on one circle), and the law that both agree. No condition.
-/
import Derived.Test.YtdhhkdkaigplaaaNoise
import Derived.Test.YtdhhkdkaigplaaaCircle
import Derived.Deep.LoopGhost
namespace Go.Proofs.Ytdhhkdkaigplaaa
open Go.RowKit
set_option linter.unusedVariables false
noncomputable def pos : Nat → Nat := Classical.choose Circle.places
theorem pos_lt {s : Nat} (h1 : 1 ≤ s) (h2 : s ≤ 32767) : pos s < 32767 := (Classical.choose_spec Circle.places).1 s h1 h2
theorem pos_inj {s t : Nat} (h1 : 1 ≤ s) (h2 : s ≤ 32767) (h3 : 1 ≤ t) (h4 : t ≤ 32767) (h : pos s = pos t) : s = t := (Classical.choose_spec Circle.places).2.1 s t h1 h2 h3 h4 h
theorem pos_next {s : Nat} (h1 : 1 ≤ s) (h2 : s ≤ 32767) : pos (Circle.nx s) = (pos s + 1) % 32767 := (Classical.choose_spec Circle.places).2.2 s h1 h2
/-- How many steps lead from one state to another. -/
noncomputable def gap (a b : Int) : Nat := (pos b.toNat + 32767 - pos a.toNat) % 32767
noncomputable def distR (a b : Int) : Int := if inB a 1 32767 && inB b 1 32767 then (gap a b : Int) else -1
theorem nextN_nx {s : Int} (h : inB s 1 32767 = true) : (nextN s).toNat = Circle.nx s.toNat := by
  rw [nextN_in h]
  obtain ⟨h1, h2⟩ := inB_iff.1 h
  obtain ⟨n, rfl⟩ := Int.eq_ofNat_of_zero_le (show 0 ≤ s by omega)
  unfold Circle.nx
  have e : ((n : Int) / 2 + ((n : Int) + (n : Int) / 2) % 2 * 16384) = ((n / 2 + (n + n / 2) % 2 * 16384 : Nat) : Int) := by
    simp only [Int.natCast_add, Int.natCast_mul, Int.natCast_ediv, Int.natCast_emod]
    rfl
  rw [e, Int.toNat_natCast, Int.toNat_natCast]
theorem gap_lt (a b : Int) : gap a b < 32767 := Nat.mod_lt _ (by omega)
theorem gap_self (a : Int) (h : inB a 1 32767 = true) : gap a a = 0 := by
  unfold gap
  obtain ⟨h1, h2⟩ := inB_iff.1 h
  have := pos_lt (s := a.toNat) (by omega) (by omega)
  rw [show pos a.toNat + 32767 - pos a.toNat = 32767 by omega]
theorem gap_ne {a b : Int} (ha : inB a 1 32767 = true) (hb : inB b 1 32767 = true) (h : a ≠ b) : 0 < gap a b ∧ gap (nextN a) b + 1 = gap a b ∧ gap a b + gap b a = 32767 := by
  obtain ⟨a1, a2⟩ := inB_iff.1 ha
  obtain ⟨b1, b2⟩ := inB_iff.1 hb
  have pa := pos_lt (s := a.toNat) (by omega) (by omega)
  have pb := pos_lt (s := b.toNat) (by omega) (by omega)
  have hne : pos a.toNat ≠ pos b.toNat := fun e => h (by have := pos_inj (by omega) (by omega) (by omega) (by omega) e; omega)
  have hn := pos_next (s := a.toNat) (by omega) (by omega)
  unfold gap
  rw [nextN_nx ha, hn]
  generalize pos a.toNat = i at *
  generalize pos b.toNat = j at *
  omega
set_option maxHeartbeats 1000000 in
theorem dist_impl (a b : Int) (w : World) :
    Calls Try.prog 23 #[.int .i64 a, .int .i64 b] w fun e w' => e = .returned (.int .i64 (distR a b)) ∧ w = w' := by
  cases h1 : inB a 1 32767
  · rw [show distR a b = -1 by simp [distR, h1]]
    go_enter Try.func23, Try.ntmps23
    go_wp2_with (go_at_call 40; refine (within_any _ _ _ _).mono ?_; rintro e w' ⟨rfl, rfl⟩)
    go_ret
    exact ⟨rfl, rfl⟩
  cases h2 : inB b 1 32767
  · rw [show distR a b = -1 by simp [distR, h2]]
    go_enter Try.func23, Try.ntmps23
    go_wp2_with (go_at_call 40; refine (within_any _ _ _ _).mono ?_; rintro e w' ⟨rfl, rfl⟩)
    go_ret
    exact ⟨rfl, rfl⟩
  rw [show distR a b = (gap a b : Int) by simp [distR, h1, h2]]
  obtain ⟨G, hG⟩ : ∃ G : Nat, G = gap a b := ⟨_, rfl⟩
  have hlt := gap_lt a b
  rw [← hG] at hlt ⊢
  replace hG := Lib.hid hG
  go_enter Try.func23, Try.ntmps23
  go_wp2_with (go_at_call 40; refine (within_any _ _ _ _).mono ?_; rintro e w' ⟨rfl, rfl⟩)
  go_loopg [0, 5] G (fun g st m wr => wr = w ∧ ∃ s : Int, inB s 1 32767 = true ∧ st = .int .i64 s ∧ g = gap s b ∧ m = .int .i64 ((G : Int) - g) ∧ g ≤ G)
  case atStart => exact ⟨rfl, a, h1, rfl, hG.out, by go_num, Nat.le_refl _⟩
  case round =>
    obtain ⟨rfl, s, hs, rfl, hg, rfl, hle⟩ := hrel
    replace hg := Lib.hid hg
    by_cases he : s = b
    · subst he
      have h0 : gk = 0 := by rw [hg.out, gap_self _ hs]
      clear hg hs h1 h2
      subst h0
      go_wp2
      go_ret
      exact ⟨ret_int (by omega), rfl⟩
    · obtain ⟨g1, g2, _⟩ := gap_ne hs h2 he
      rw [← hg.out] at g1 g2
      replace g2 := Lib.hid g2
      have hsn := Lib.hid (nextN_state hs)
      have hb : (s == b) = false := by simp [he]
      have hb2 : (s != b) = true := by simp [he]
      clear hg hs h1 h2
      go_wp2_with (go_at_call 18; refine (next_impl _ _).mono ?_; rintro e w' ⟨rfl, rfl⟩)
      go_roundg (gap (nextN s) b)
      case measure => have := g2.out; omega
      case rel => exact ⟨rfl, nextN s, hsn.out, rfl, rfl, by have := g2.out; go_num, by have := g2.out; omega⟩
set_option maxHeartbeats 1000000 in
theorem dist_spec (a b : Int) (w : World) :
    Calls Try.prog 22 #[.int .i64 a, .int .i64 b] w fun e w' => e = .returned (.int .i64 (distR a b)) ∧ w = w' := by
  cases h1 : inB a 1 32767
  · rw [show distR a b = -1 by simp [distR, h1]]
    go_enter Try.func22, Try.ntmps22
    go_wp2_with (go_at_call 39; refine (l1In_any _ _ _ _).mono ?_; rintro e w' ⟨rfl, rfl⟩)
    go_ret
    exact ⟨rfl, rfl⟩
  cases h2 : inB b 1 32767
  · rw [show distR a b = -1 by simp [distR, h2]]
    go_enter Try.func22, Try.ntmps22
    go_wp2_with (go_at_call 39; refine (l1In_any _ _ _ _).mono ?_; rintro e w' ⟨rfl, rfl⟩)
    go_ret
    exact ⟨rfl, rfl⟩
  rw [show distR a b = (gap a b : Int) by simp [distR, h1, h2]]
  obtain ⟨G, hG⟩ : ∃ G : Nat, G = gap a b := ⟨_, rfl⟩
  have hlt := gap_lt a b
  rw [← hG] at hlt ⊢
  replace hG := Lib.hid hG
  go_enter Try.func22, Try.ntmps22
  go_wp2_with (go_at_call 39; refine (l1In_any _ _ _ _).mono ?_; rintro e w' ⟨rfl, rfl⟩)
  go_loopg [0, 5] G (fun g st m wr => wr = w ∧ ∃ s : Int, inB s 1 32767 = true ∧ st = .int .i64 s ∧ g = gap s b ∧ m = .int .i64 ((G : Int) - g) ∧ g ≤ G)
  case atStart => exact ⟨rfl, a, h1, rfl, hG.out, by go_num, Nat.le_refl _⟩
  case round =>
    obtain ⟨rfl, s, hs, rfl, hg, rfl, hle⟩ := hrel
    replace hg := Lib.hid hg
    by_cases he : s = b
    · subst he
      have h0 : gk = 0 := by rw [hg.out, gap_self _ hs]
      clear hg hs h1 h2
      subst h0
      go_wp2
      go_ret
      exact ⟨ret_int (by omega), rfl⟩
    · obtain ⟨g1, g2, _⟩ := gap_ne hs h2 he
      rw [← hg.out] at g1 g2
      replace g2 := Lib.hid g2
      have hsn := Lib.hid (nextN_state hs)
      have hb : (s == b) = false := by simp [he]
      have hb2 : (s != b) = true := by simp [he]
      clear hg hs h1 h2
      go_wp2_with (go_at_call 17; refine (next_spec _ _).mono ?_; rintro e w' ⟨rfl, rfl⟩)
      go_roundg (gap (nextN s) b)
      case measure => have := g2.out; omega
      case rel => exact ⟨rfl, nextN s, hsn.out, rfl, rfl, by have := g2.out; go_num, by have := g2.out; omega⟩
theorem fnExactNoiseDistance_walk (a : Int) (_ : (Lit.int .i64 a).wf = true) (b : Int) (_ : (Lit.int .i64 b).wf = true) (w : World) :
    Calls Try.prog 6 #[.int .i64 a, .int .i64 b] w fun e w' => e = .returned (.bool true) ∧ Below w.heap.size w w' := by
  go_enter Try.func6, Try.ntmps6
  go_wp2_with (first | (go_at_call 22; refine (dist_spec _ _ _).mono ?_; rintro e w' ⟨rfl, rfl⟩) | (go_at_call 23; refine (dist_impl _ _ _).mono ?_; rintro e w' ⟨rfl, rfl⟩))
  go_ret
  exact ⟨rfl, Below.refl _ _⟩
end Go.Proofs.Ytdhhkdkaigplaaa
