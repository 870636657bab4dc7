/-
  eqStopS, eqChangeS at equal lists; szStopS, szChangeS; StopsValid in both packages.
-/
import Derived.Test.YtkcabllnlbcgdaaTriS
import Derived.Deep.RegionHeld3
import Derived.Deep.DrawnRows
namespace Go.Proofs.Ytkcabllnlbcgdaa
open Go.RowKit
set_option linter.unusedVariables false
set_option linter.unusedSimpArgs false
attribute [local go_sem ↓] Go.wp_at_zero Go.wp_at_succ
set_option maxHeartbeats 4000000 in
theorem eqChangeS_same (A B : Option Addr) (n c d : Nat) (ts : List Tri) (w : World) (ha : Reads w w.heap.size 3 A n (iv (fl3 ts))) (hb : Reads w w.heap.size 3 B n (iv (fl3 ts))) (hn : n ≤ 1000000000) :
    Calls Try.prog 26 #[.slice A n c, .slice B n d] w fun e w' => e = .returned (.bool true) ∧ Below w.heap.size w w' := by
  have hnn : (((n : Int) != (n : Int)) = false) := by simp
  have HA := Lib.hid ha
  have HB := Lib.hid hb
  clear ha hb
  go_enter Try.func26, Try.ntmps26
  go_wp2
  go_loopw [5] (fun i wr => ∃ k : Nat, k ≤ n ∧ i = .int .i64 k ∧ Below w.heap.size w wr) (fun i _ => n - (intOf i).toNat)
  case atStart => exact ⟨0, Nat.zero_le _, rfl, Below.refl _ _⟩
  case round =>
    obtain ⟨k, hk, rfl, hbel⟩ := hrel
    by_cases hlt : k < n
    · obtain ⟨b, off, e1, hb1, h0, h1, h2⟩ := Tri.spot (HA.out.below hbel) hlt
      obtain ⟨b2, off2, e2, hb2, g0, g1, g2⟩ := Tri.spot (HB.out.below hbel) hlt
      have e1 := Lib.hid e1
      have e2 := Lib.hid e2
      generalize ts.getD k (0, 0, 0) = t at h0 h1 h2 g0 g1 g2
      obtain ⟨x, y, z⟩ := t
      have q0 : (0 : Int) ≤ (k : Int) := by omega
      have q1 : (k : Int) < (n : Int) := by omega
      have hz : w.heap.size ≤ wr.heap.size := hbel.size
      have hb1' : b < wr.heap.size := by omega
      have hb2' : b2 < wr.heap.size := by omega
      have hto := Lib.hid (fun W => eqChange_same (x, y, z) W)
      simp only [t3] at hto
      have HBEL := Lib.hid hbel
      clear hbel HA HB
      have e3 := e1.out
      subst e3
      have e4 := e2.out
      subst e4
      go_wp2_with fail
      go_region_held3 (fun w' => w'.cell? ⟨b, off + k * 3, none⟩ = some (.int .i64 x) ∧ w'.cell? ⟨b, off + k * 3 + 1, none⟩ = some (.int .i64 y) ∧ w'.cell? ⟨b, off + k * 3 + 2, none⟩ = some (.int .i64 z) ∧ w'.cell? ⟨b2, off2 + k * 3, none⟩ = some (.int .i64 x) ∧ w'.cell? ⟨b2, off2 + k * 3 + 1, none⟩ = some (.int .i64 y) ∧ w'.cell? ⟨b2, off2 + k * 3 + 2, none⟩ = some (.int .i64 z)) (first | exact ⟨h0, h1, h2, g0, g1, g2⟩ | exact ⟨(b5.cell hb1').trans h0, (b5.cell hb1').trans h1, (b5.cell hb1').trans h2, (b5.cell hb2').trans g0, (b5.cell hb2').trans g1, (b5.cell hb2').trans g2⟩) ((go_at_call 64; refine (hto.out _).mono ?_; rintro e w5 ⟨rfl, b5⟩))
      go_wp2_with fail
      go_roundw
      case rel => exact ⟨k + 1, by omega, by go_num, below_step HBEL.out.drew b5 hz⟩
      case measure => simp [intOf]; omega
    · go_wp2
      go_ret
      exact ⟨rfl, hbel⟩
theorem szChangeS_any (A : Option Addr) (n c : Nat) (l : Int) (w : World) (h0 : 0 ≤ l) (h1 : l ≤ 1000000000) (hn : n ≤ 9223372036854775807) :
    Calls Try.prog 21 #[.slice A n c, .int .i64 l] w fun e w' => e = .returned (.int .i64 (if l - n < 0 then -1 else l - n)) ∧ w = w' := by
  have hw : IntKind.i64.wrap (l - n) = l - n := IntWalk.i64_in _ (by omega)
  by_cases hlt : l - (n : Int) < 0
  · rw [if_pos hlt]
    go_enter Try.func21, Try.ntmps21
    go_wp2
    go_ret
    exact ⟨rfl, rfl⟩
  · rw [if_neg hlt]
    go_enter Try.func21, Try.ntmps21
    go_wp2
    go_ret
    exact ⟨rfl, rfl⟩
end Go.Proofs.Ytkcabllnlbcgdaa
