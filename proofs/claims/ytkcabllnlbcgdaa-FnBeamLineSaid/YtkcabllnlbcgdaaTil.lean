/-
  Tiles: 64 pixels: the two packages' tests. No condition.
-/
import Derived.Test.YtkcabllnlbcgdaaGrow
import Derived.Test.YtkcabllnlbcgdaaBase
import Derived.Deep.MidRow
import Derived.Deep.QuietTactic
import Derived.BigQuiet
namespace Go.Proofs.Ytkcabllnlbcgdaa
open Go.RowKit
set_option linter.unusedVariables false
set_option linter.unusedSimpArgs false
def tileB (px : List Int) : Bool := px.all fun x => inB x 0 3
theorem tileB_bad {px : List Int} {k : Nat} (hk : k < px.length) (h : inB (px.getD k 0) 0 3 = false) : tileB px = false := by
  rw [List.getD_eq_getElem?_getD, List.getElem?_eq_getElem hk, Option.getD_some] at h
  simp only [tileB, List.all_eq_false]
  exact ⟨_, List.getElem_mem hk, by rw [h]; simp⟩
theorem tileB_of {px : List Int} (h : ∀ i, i < px.length → inB (px.getD i 0) 0 3 = true) : tileB px = true := by
  simp only [tileB, List.all_eq_true]
  intro x hx
  obtain ⟨i, hi, rfl⟩ := List.mem_iff_getElem.1 hx
  have := h i hi
  rwa [List.getD_eq_getElem?_getD, List.getElem?_eq_getElem hi, Option.getD_some] at this
/-- A tile's value. -/
def tileV (px : List Int) : Value := .agg (iv px).toArray
set_option maxHeartbeats 400000 in
theorem tileValid_spec (px : List Int) (hp : px.length = 64) (w : World) :
    Calls Try.prog 50 #[.agg (iv px).toArray] w fun e w' => e = .returned (.bool (tileB px)) ∧ Below w.heap.size w w' := by
  obtain ⟨cs, hcs⟩ : ∃ cs, cs = (iv px).toArray := ⟨_, rfl⟩
  rw [← hcs]
  have hcell : ∀ k, k < 64 → cs[k]? = some (.int .i64 (px.getD k 0)) := fun k hk => by
    rw [hcs]; simpa using iv_getD (show k < px.length by omega)
  have hsz : cs.size = 64 := by rw [hcs]; simp [iv, hp]
  replace hcs := Lib.hid hcs
  have HC := Lib.hid hcell
  clear hcell
  go_enter Try.func50, Try.ntmps50
  go_wp2_with fail
  obtain ⟨W, hW⟩ : ∃ W, W = w.alloc (.cells cs 83) := ⟨_, rfl⟩
  rw [← hW]
  have HB := Lib.hid (show Below w.heap.size w W by rw [hW]; exact (Below.refl _ _).alloc (Nat.le_refl _) _)
  have HCL := Lib.hid (show ∀ k, k < 64 → W.cell? ⟨w.heap.size, k, none⟩ = some (.int .i64 (px.getD k 0)) from fun k hk => by rw [hW, cell_new]; exact HC.out k hk)
  replace hW := Lib.hid hW
  go_loopw [3] (fun i wr => ∃ k : Nat, k ≤ 64 ∧ i = .int .i64 k ∧ (∀ i, i < k → inB (px.getD i 0) 0 3 = true) ∧ W = wr) (fun i _ => 64 - (intOf i).toNat)
  case atStart => exact ⟨0, Nat.zero_le _, rfl, fun i hi => by omega, rfl⟩
  case round =>
    obtain ⟨k, hk, rfl, hall, rfl⟩ := hrel
    by_cases hlt : k < 64
    · have hc := HCL.out k hlt
      have q0 : (0 : Int) ≤ (k : Int) := by omega
      have q1 : (k : Int) < 64 := by omega
      cases hb : inB (px.getD k 0) 0 3
      · have hbad := Lib.hid (tileB_bad (by omega) hb)
        clear hall
        generalize px.getD k 0 = x at hc hb
        go_wp2_with (go_at_call 49; refine (l1In_any _ _ _ _).mono ?_; rintro e w' ⟨rfl, rfl⟩; rw [hb])
        go_ret
        rw [hbad.out]
        exact ⟨rfl, HB.out⟩
      · have hall2 := Lib.hid (show ∀ i, i < k + 1 → inB (px.getD i 0) 0 3 = true from fun i hi => by rcases Nat.lt_or_ge i k with h | h; exact hall i h; obtain rfl : i = k := (by omega); exact hb)
        clear hall
        generalize px.getD k 0 = x at hc hb
        go_wp2_with (go_at_call 49; refine (l1In_any _ _ _ _).mono ?_; rintro e w' ⟨rfl, rfl⟩; rw [hb])
        go_roundw
        case rel => exact ⟨k + 1, by omega, by go_num, hall2.out, by first | rfl | trivial⟩
        case measure => simp [intOf]; omega
    · obtain rfl : k = 64 := by omega
      have hg := Lib.hid (tileB_of (px := px) fun i hi => hall i (by omega))
      clear hall
      have q1 : ¬ ((64 : Nat) : Int) < 64 := by omega
      go_wp2_with fail
      go_ret
      rw [hg.out]
      exact ⟨rfl, HB.out⟩
theorem index_tile (cs : Array Value) (k : Nat) (x : Int) (hc : cs[k]? = some (.int .i64 x)) (hk : k < 64) (hs : cs.size = 64) (W : World) : (Instr.index 81 (.agg cs) (.int .i64 (k : Int))).run Try.prog W = .ok (.int .i64 x) W := by
  have h1 : (0 : Int) ≤ (k : Int) ∧ (k : Int) < 64 := by omega
  have hsz : (Try.prog.info? 3).map (·.size) = some 1 := by kernel_rfl
  have hu := Try.underlying81
  have hk2 : k < cs.size := by omega
  have hv : cs[k] = .int .i64 x := by rw [Array.getElem?_eq_getElem hk2] at hc; injection hc
  simp [Instr.index, run_underlying hu, asIntOf, h1, go_sem, hk, hc]
set_option maxRecDepth 20000 in
set_option maxHeartbeats 400000 in
theorem tileValid_impl (px : List Int) (hp : px.length = 64) (w : World) :
    Calls Try.prog 95 #[.agg (iv px).toArray] w fun e w' => e = .returned (.bool (tileB px)) ∧ Below w.heap.size w w' := by
  obtain ⟨cs, hcs⟩ : ∃ cs, cs = (iv px).toArray := ⟨_, rfl⟩
  rw [← hcs]
  have hcell : ∀ k, k < 64 → cs[k]? = some (.int .i64 (px.getD k 0)) := fun k hk => by
    rw [hcs]; simpa using iv_getD (show k < px.length by omega)
  have hsz : cs.size = 64 := by rw [hcs]; simp [iv, hp]
  replace hcs := Lib.hid hcs
  have HC := Lib.hid hcell
  have hinfo : (Try.prog.info? 81).map (·.size) = some cs.toList.length := by rw [Array.length_toList, hsz]; kernel_rfl
  have HIN := Lib.hid hinfo
  have HSZ := Lib.hid hsz
  have HR := Lib.hid (show (w.alloc (.cells cs 83)).rangeAt w.heap.size 0 cs.toList from fun j v hj => by rw [Nat.zero_add, cell_new]; simpa using hj)
  clear hcell hinfo hsz
  go_enter Try.func95, Try.ntmps95
  go_wp2_with (refine wpList_load_mid rfl 81 _ rfl w.heap.size 0 rfl cs.toList _ HR.out Try.underlying81 rfl HIN.out ?_)
  have HB := Lib.hid (show Below w.heap.size w (w.alloc (.cells cs 83)) from (Below.refl _ _).alloc (Nat.le_refl _) _)
  obtain ⟨W, hW⟩ : ∃ W, W = w.alloc (.cells cs 83) := ⟨_, rfl⟩
  rw [← hW] at HB ⊢
  replace hW := Lib.hid hW
  clear HR HIN
  go_loopw [7] (fun i wr => ∃ k : Nat, k ≤ 64 ∧ i = .int .i64 k ∧ (∀ i, i < k → inB (px.getD i 0) 0 3 = true) ∧ W = wr) (fun i _ => 64 - (intOf i).toNat)
  case atStart => exact ⟨0, Nat.zero_le _, rfl, fun i hi => by omega, rfl⟩
  case round =>
    obtain ⟨k, hk, rfl, hall, rfl⟩ := hrel
    by_cases hlt : k < 64
    · have hc := HC.out k hlt
      have hsz := HSZ.out
      have q0 : (0 : Int) ≤ (k : Int) := by omega
      have q1 : (k : Int) < 64 := by omega
      cases hb : inB (px.getD k 0) 0 3
      · have hbad := Lib.hid (tileB_bad (by omega) hb)
        clear hall
        generalize px.getD k 0 = x at hc hb
        have hix := index_tile cs k x hc hlt hsz
        go_wp2_with (go_at_call 53; refine (within_any _ _ _ _).mono ?_; rintro e w' ⟨rfl, rfl⟩; rw [hb])
        go_ret
        rw [hbad.out]
        exact ⟨rfl, HB.out⟩
      · have hall2 := Lib.hid (show ∀ i, i < k + 1 → inB (px.getD i 0) 0 3 = true from fun i hi => by rcases Nat.lt_or_ge i k with h | h; exact hall i h; obtain rfl : i = k := (by omega); exact hb)
        clear hall
        generalize px.getD k 0 = x at hc hb
        have hix := index_tile cs k x hc hlt hsz
        go_wp2_with (go_at_call 53; refine (within_any _ _ _ _).mono ?_; rintro e w' ⟨rfl, rfl⟩; rw [hb])
        go_roundw
        case rel => exact ⟨k + 1, by omega, by go_num, hall2.out, by first | rfl | trivial⟩
        case measure => simp [intOf]; omega
    · obtain rfl : k = 64 := by omega
      have hg := Lib.hid (tileB_of (px := px) fun i hi => hall i (by omega))
      clear hall
      have q1 : ¬ ((64 : Nat) : Int) < 64 := by omega
      go_wp2_with fail
      go_ret
      rw [hg.out]
      exact ⟨rfl, HB.out⟩
end Go.Proofs.Ytkcabllnlbcgdaa
