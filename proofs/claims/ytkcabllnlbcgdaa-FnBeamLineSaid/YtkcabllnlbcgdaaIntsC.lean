/-
  Contracts of the laws' small functions on lists of numbers: eqIntS, sameInts (at equal lists), markIntS, heldIntS, toIntS. No condition but that lengths stay in range.
-/
import Derived.Test.YtkcabllnlbcgdaaMem
import Derived.Deep.QuietTactic
import Derived.BigQuiet
namespace Go.Proofs.Ytkcabllnlbcgdaa
open Go.RowKit
set_option linter.unusedVariables false
set_option linter.unusedSimpArgs false
theorem Ints.spot {w : World} {B n k : Nat} {A : Option Addr} {xs : List Int} (h : Ints w B A n xs) (hk : k < n) :
    ∃ b off, A = some ⟨b, off, none⟩ ∧ b < B ∧ w.cell? ⟨b, off + k, none⟩ = some (.int .i64 (xs.getD k 0)) := by
  obtain ⟨⟨b, off, spot⟩, rfl, hb, hc⟩ := h.at_ hk
  obtain ⟨_, e0, _, hc0⟩ := h.at_ (k := 0) (by omega)
  injection e0 with e0
  subst e0
  have hs : spot = none := by simpa [Addr.add] using World.cell?_spot hc0
  subst hs
  clear hc0
  refine ⟨b, off, rfl, hb, ?_⟩
  have : ((⟨b, off, none⟩ : Addr).add k) = ⟨b, off + k, none⟩ := by unfold Addr.add; split <;> simp_all
  rw [this] at hc
  rw [hc]
  have hk' : k < xs.length := by rw [h.len]; exact hk
  simp [List.getD_eq_getElem?_getD, List.getElem?_eq_getElem hk']
set_option maxHeartbeats 1000000 in
theorem eqIntS_same (A B : Option Addr) (n c d : Nat) (xs : List Int) (w : World) (ha : Ints w w.heap.size A n xs) (hb : Ints w w.heap.size B n xs) (hn : n ≤ 9223372036854775807) :
    Calls Try.prog 24 #[.slice A n c, .slice B n d] w fun e w' => e = .returned (.bool true) ∧ Below w.heap.size w w' := by
  have hnn : (((n : Int) != (n : Int)) = false) := by simp
  go_enter Try.func24, Try.ntmps24
  go_wp2
  go_loopw [5] (fun i wr => ∃ k : Nat, k ≤ n ∧ i = .int .i64 k ∧ ∃ q, wr = w.drewN q) (fun i _ => n - (intOf i).toNat)
  case atStart => exact ⟨0, Nat.zero_le _, rfl, 0, rfl⟩
  case round =>
    obtain ⟨k, hk, rfl, q, rfl⟩ := hrel
    by_cases hlt : k < n
    · obtain ⟨b, off, rfl, _, h1⟩ := ha.spot hlt
      obtain ⟨b2, off2, rfl, _, h2⟩ := hb.spot hlt
      have q0 : (0 : Int) ≤ (k : Int) := by omega
      have q1 : (k : Int) < (n : Int) := by omega
      clear ha hb
      go_wp2
      go_quiet (fail)
      go_wp2
      go_roundw
      case rel => exact ⟨k + 1, by omega, by go_num, _, by first | rfl | simp⟩
      case measure => simp [intOf]; omega
    · go_wp2
      go_ret
      exact ⟨rfl, below_drewN (Below.refl _ _) _⟩
set_option maxHeartbeats 1000000 in
theorem sameInts_same (A B : Option Addr) (n c d : Nat) (xs : List Int) (w : World) (ha : Ints w w.heap.size A n xs) (hb : Ints w w.heap.size B n xs) (hn : n ≤ 9223372036854775807) :
    Calls Try.prog 16 #[.slice A n c, .slice B n d] w fun e w' => e = .returned (.bool true) ∧ Below w.heap.size w w' := by
  have hnn : (((n : Int) != (n : Int)) = false) := by simp
  go_enter Try.func16, Try.ntmps16
  go_wp2
  go_loopw [5] (fun i wr => ∃ k : Nat, k ≤ n ∧ i = .int .i64 k ∧ ∃ q, wr = w.drewN q) (fun i _ => n - (intOf i).toNat)
  case atStart => exact ⟨0, Nat.zero_le _, rfl, 0, rfl⟩
  case round =>
    obtain ⟨k, hk, rfl, q, rfl⟩ := hrel
    by_cases hlt : k < n
    · obtain ⟨b, off, rfl, _, h1⟩ := ha.spot hlt
      obtain ⟨b2, off2, rfl, _, h2⟩ := hb.spot hlt
      have q0 : (0 : Int) ≤ (k : Int) := by omega
      have q1 : (k : Int) < (n : Int) := by omega
      clear ha hb
      go_wp2
      go_quiet (fail)
      go_wp2
      go_roundw
      case rel => exact ⟨k + 1, by omega, by go_num, _, by first | rfl | simp⟩
      case measure => simp [intOf]; omega
    · go_wp2
      go_ret
      exact ⟨rfl, below_drewN (Below.refl _ _) _⟩
/-- k, k + 1, .. -/
def marks (k : Int) (n : Nat) : List Int := (List.range n).map fun i : Nat => k + (i : Int)
theorem marks_len (k : Int) (n : Nat) : (marks k n).length = n := by simp [marks]
theorem marks_get (k : Int) (n i : Nat) (h : i < n) : (marks k n).getD i 0 = k + i := by
  simp [marks, List.getD_eq_getElem?_getD, h]
set_option maxHeartbeats 1000000 in
theorem heldIntS_marks (A : Option Addr) (n c : Nat) (k0 : Int) (w : World) (ha : Ints w w.heap.size A n (marks k0 n)) (h0 : 0 ≤ k0) (hn : n ≤ 1000000000) (h1 : k0 ≤ 1000000000) :
    Calls Try.prog 30 #[.slice A n c, .int .i64 k0] w fun e w' => e = .returned (.int .i64 (k0 + n)) ∧ Below w.heap.size w w' := by
  go_enter Try.func30, Try.ntmps30
  go_wp2
  go_loop [1, 5] (fun m i => ∃ k : Nat, k ≤ n ∧ i = .int .i64 k ∧ m = .int .i64 (k0 + k)) (fun _ i => n - (intOf i).toNat)
  case atStart => exact ⟨0, Nat.zero_le _, rfl, by go_num⟩
  case round =>
    obtain ⟨k, hk, rfl, rfl⟩ := hrel
    by_cases hlt : k < n
    · obtain ⟨b, off, rfl, _, h2⟩ := ha.spot hlt
      rw [marks_get k0 n k hlt] at h2
      have q1 : (k : Int) < (n : Int) := by omega
      clear ha
      go_wp2
      go_round
      case rel => exact ⟨k + 1, by omega, by go_num, by go_num⟩
      case measure => simp [intOf]; omega
    · obtain rfl : k = n := by omega
      go_wp2
      go_ret
      exact ⟨rfl, Below.refl _ _⟩
/-- The first k cells marked, the others as they were. -/
def marked (k0 : Int) (k : Nat) (xs : List Int) : List Int := marks k0 k ++ xs.drop k
theorem marked_succ (k0 : Int) (k : Nat) (xs : List Int) (h : k < xs.length) : (iv (marked k0 k xs)).set k (.int .i64 (k0 + k)) = iv (marked k0 (k + 1) xs) := by
  apply List.ext_getElem?
  intro j
  simp only [iv, marked, marks, List.getElem?_set, List.length_map, List.length_append, List.length_range, List.length_drop, List.getElem?_map, List.getElem?_append, List.getElem?_drop]
  by_cases hj : k = j
  · subst hj
    have : k < k + (xs.length - k) := by omega
    simp [this]
  · by_cases hlt : j < k
    · have : j < k + 1 := by omega
      simp [hj, hlt, this]
    · have : ¬ j < k + 1 := by omega
      simp only [hj, hlt, this, if_false]
      rw [show k + (j - k) = k + 1 + (j - (k + 1)) by omega]
set_option maxHeartbeats 1000000 in
theorem markIntS_own (base : Nat) (A : Option Addr) (n c : Nat) (xs : List Int) (k0 : Int) (w : World) (ha : w.ownsRow base 3 1 (.slice A n c) n (iv xs)) (h0 : 0 ≤ k0) (hn : n ≤ 1000000000) (h1 : k0 ≤ 1000000000) :
    Calls Try.prog 29 #[.slice A n c, .int .i64 k0] w fun e w' => e = .returned (.int .i64 (k0 + n)) ∧ w'.ownsRow base 3 1 (.slice A n c) n (iv (marks k0 n)) ∧ w.grownBy w' (Value.slice A n c).ownBlock := by
  have hl : xs.length = n := by have := ha.1; simp [iv_len] at this; omega
  go_enter Try.func29, Try.ntmps29
  go_wp2
  go_loopw [1, 5] (fun m i wr => ∃ k : Nat, k ≤ n ∧ i = .int .i64 k ∧ m = .int .i64 (k0 + k) ∧ wr.ownsRow base 3 1 (.slice A n c) n (iv (marked k0 k xs)) ∧ w.grownBy wr (Value.slice A n c).ownBlock) (fun _ i _ => n - (intOf i).toNat)
  case atStart => exact ⟨0, Nat.zero_le _, rfl, by go_num, by simpa [marked, marks] using ha, World.grownBy.refl w _⟩
  case round =>
    obtain ⟨k, hk, rfl, rfl, hown, hg⟩ := hrel
    by_cases hlt : k < n
    · obtain ⟨g, cap, e1, _, hgl⟩ := hown.form (by omega)
      injection e1 with e1 _ e3
      subst e1 e3
      have hcell := hown.cellAt k (by omega)
      obtain ⟨v, hv⟩ : ∃ v, (iv (marked k0 k xs))[k]? = some v := by
        have : k < (iv (marked k0 k xs)).length := by rw [hown.1]; omega
        exact ⟨_, List.getElem?_eq_getElem this⟩
      rw [hv] at hcell
      have hfz := hown.frozenAt k
      have hst := hown.stored k (.int .i64 (k0 + k))
      rw [marked_succ k0 k xs (by omega)] at hst
      have HST := Lib.hid hst
      have HG := Lib.hid hg
      clear hst hown hv ha hg
      go_wp2
      go_roundw
      case rel => exact ⟨k + 1, by omega, by go_num, by go_num, HST.out.1, HG.out.trans HST.out.2⟩
      case measure => simp [intOf]; omega
    · obtain rfl : k = n := by omega
      go_wp2
      go_ret
      refine ⟨rfl, ?_, hg⟩
      rwa [marked, List.drop_eq_nil_of_le (by omega), List.append_nil] at hown
end Go.Proofs.Ytkcabllnlbcgdaa
