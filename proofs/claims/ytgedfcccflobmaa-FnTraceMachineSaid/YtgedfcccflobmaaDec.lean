/-
  What an instruction reads as: the implementation's DecodeOrder, of three bytes.
-/
import Derived.Test.YtgedfcccflobmaaStp
import Derived.StillTailTactics
import Derived.Deep.RegionWith
namespace Go.Proofs.Ytgedfcccflobmaa
open Go.RowKit
set_option linter.unusedVariables false
set_option linter.unusedSimpArgs false
def decV : Option (Int × Int × Int) → Value
  | none => .tuple #[.agg #[.int .i64 0, .int .i64 0], .int .i64 0, .bool false]
  | some (op, arg, n) => .tuple #[.agg #[.int .i64 op, .int .i64 arg], .int .i64 n, .bool true]
theorem results_row2 {P : Program} {fn : Func} {p u v : Tmp} {ty : TypeId} (h : fn.results = #[.cell p ty, .tmp u, .tmp v]) (tmps : Array Value) (w : World) (g : Nat) (t : TypeId) (cs : Array Value) (fr : Nat × Nat) (d : TypeDesc)
    (hp : tmps.getD p undef = .pointer (some ⟨g, 0, none⟩)) (hg : w.heap[g]? = some (.cells cs t fr))
    (hu : P.underlying ty = some d) (hd : (match d with | .struct _ | .array _ _ => true | _ => false) = true) (hi : (P.info? ty).map (·.size) = some cs.size) :
    (results fn tmps).run P w = .ok (.tuple #[.agg cs, tmps.getD u undef, tmps.getD v undef]) w := by
  have hp' : tmps[p]?.getD undef = .pointer (some ⟨g, 0, none⟩) := by simpa using hp
  simp [results, h, hp', asAddr, run_loadVar_row w g t ty cs fr d hg hu hd hi]
set_option maxRecDepth 4000 in
set_option maxHeartbeats 2000000 in
theorem decode0 (b0 b1 b2 : Int) (g : Nat) (w : World) (hg : g < w.heap.size) (hc0 : w.cell? ⟨g, 0, none⟩ = some (.int .i64 b0)) (hc1 : w.cell? ⟨g, 1, none⟩ = some (.int .i64 b1)) (hc2 : w.cell? ⟨g, 2, none⟩ = some (.int .i64 b2)) (hn : olen b0 = 0) :
    Calls Try.prog 57 #[.slice (some ⟨g, 0, none⟩) 3 3, .int .i64 0] w fun e w' => e = .returned (decV (decP b0 b1 b2)) ∧ Below w.heap.size w w' := by
  rw [show decP b0 b1 b2 = none by unfold decP; rw [hn]; simp]
  have hb0 : Below w.heap.size w (w.alloc (.cells #[.int .i64 0, .int .i64 0] 84)) := (Below.refl _ _).alloc (Nat.le_refl _) _
  have hR := Lib.hid (Blk.new w 84 #[.int .i64 0, .int .i64 0])
  have k0 : (w.alloc (.cells #[.int .i64 0, .int .i64 0] 84)).cell? ⟨g, 0, none⟩ = some (.int .i64 b0) := (hb0.cell (p := ⟨g, 0, none⟩) hg).trans hc0
  have HB0 := Lib.hid hb0
  clear hb0
  go_enter Try.func57, Try.ntmps57
  go_wp2_with (go_at_call 76; refine (orderLength_impl b0 _).mono ?_; rintro e w5 ⟨rfl, b5⟩; rw [hn]; have B5 := below_step HB0.out b5 HB0.out.size; have k0 := (B5.cell (p := ⟨g, 0, none⟩) hg).trans hc0; have k1 := (B5.cell (p := ⟨g, 1, none⟩) hg).trans hc1; have k2 := (B5.cell (p := ⟨g, 2, none⟩) hg).trans hc2; have R5 := hR.out.below b5 hR.out.lt; have s0 := R5.cell 0; have s1 := R5.cell 1; have f0 := R5.frozen 0; have f1 := R5.frozen 1; have z5 := R5.lt; replace B5 := Lib.hid B5; replace b5 := Lib.hid b5; replace R5 := Lib.hid R5)
  refine bodyPost_ret (results_row2 Try.results57 _ _ w.heap.size 84 #[.int .i64 0, .int .i64 0] (0, 0) _ rfl ((R5.out.set_ 0 _).set_ 1 _) Try.underlying84 rfl (by kernel_rfl)) rfl ?_
  exact ⟨rfl, (B5.out.setCell (Nat.le_refl _) _).setCell (Nat.le_refl _) _⟩
set_option maxRecDepth 4000 in
set_option maxHeartbeats 2000000 in
theorem decode1 (b0 b1 b2 : Int) (g : Nat) (w : World) (hg : g < w.heap.size) (hc0 : w.cell? ⟨g, 0, none⟩ = some (.int .i64 b0)) (hc1 : w.cell? ⟨g, 1, none⟩ = some (.int .i64 b1)) (hc2 : w.cell? ⟨g, 2, none⟩ = some (.int .i64 b2)) (hn : olen b0 = 1)
    (h1 : inB b1 0 255 = true) (h2 : inB b2 0 255 = true) :
    Calls Try.prog 57 #[.slice (some ⟨g, 0, none⟩) 3 3, .int .i64 0] w fun e w' => e = .returned (decV (if ordB b0 (0) then some (b0, 0, 1) else none)) ∧ Below w.heap.size w w' := by
  obtain ⟨l1, u1⟩ := inB_iff.1 h1
  obtain ⟨l2, u2⟩ := inB_iff.1 h2
  cases ho : ordB b0 (0)
  all_goals (
  have hb0 : Below w.heap.size w (w.alloc (.cells #[.int .i64 0, .int .i64 0] 84)) := (Below.refl _ _).alloc (Nat.le_refl _) _
  have hR := Lib.hid (Blk.new w 84 #[.int .i64 0, .int .i64 0])
  have k0 : (w.alloc (.cells #[.int .i64 0, .int .i64 0] 84)).cell? ⟨g, 0, none⟩ = some (.int .i64 b0) := (hb0.cell (p := ⟨g, 0, none⟩) hg).trans hc0
  have HB0 := Lib.hid hb0
  clear hb0
  go_enter Try.func57, Try.ntmps57
  go_wp2_with (go_at_call 76; refine (orderLength_impl b0 _).mono ?_; rintro e w5 ⟨rfl, b5⟩; rw [hn]; have B5 := below_step HB0.out b5 HB0.out.size; have k0 := (B5.cell (p := ⟨g, 0, none⟩) hg).trans hc0; have k1 := (B5.cell (p := ⟨g, 1, none⟩) hg).trans hc1; have k2 := (B5.cell (p := ⟨g, 2, none⟩) hg).trans hc2; have R5 := hR.out.below b5 hR.out.lt; have s0 := R5.cell 0; have s1 := R5.cell 1; have f0 := R5.frozen 0; have f1 := R5.frozen 1; have z5 := R5.lt; replace B5 := Lib.hid B5; replace b5 := Lib.hid b5; replace R5 := Lib.hid R5)
  go_loopw [9] (fun i wr => ∃ k : Nat, i = .int .i64 k ∧ k < 1 ∧ Below w5.heap.size w5 wr ∧ Blk wr w5.heap.size 84 #[.int .i64 b0, .int .i64 (if k + 1 = 1 then 0 else if k = 1 then b2 else 0)]) (fun i _ => (intOf i).toNat)
  case atStart => exact ⟨1 - 1, rfl, by omega, (Below.refl _ _).alloc (Nat.le_refl _) _, by simpa using Blk.new w5 84 #[.int .i64 b0, .int .i64 0]⟩
  case round =>
    obtain ⟨k, rfl, hk, hb, hB⟩ := hrel
    have z5r : w5.heap.size < wr.heap.size := hB.lt
    have zR : w.heap.size < wr.heap.size := by omega
    have m1 := (hb.cell (p := ⟨g, 1, none⟩) (by have := B5.out.size; exact Nat.lt_of_lt_of_le hg this)).trans k1
    have m2 := (hb.cell (p := ⟨g, 2, none⟩) (by have := B5.out.size; exact Nat.lt_of_lt_of_le hg this)).trans k2
    have RR := Lib.hid (R5.out.below hb z5)
    have t0 := hB.cell 0
    have t1 := hB.cell 1
    have tf := hB.frozen 1
    have HB := Lib.hid hB
    replace hb := Lib.hid hb
    clear hB
    by_cases hk0 : k = 0
    · subst hk0
      have t1 : wr.cell? ⟨w5.heap.size, 1, none⟩ = some (.int .i64 (0)) := HB.out.cell 1
      go_wp2_with (go_at_call 77; refine (orderValid_impl _ _ _).mono ?_; rintro e w7 ⟨rfl, b7⟩; rw [ho]; have R7 := RR.out.below b7 zR; have H7 := HB.out.below b7 z5r; have B7 := Lib.hid (below_step (below_step B5.out hb.out B5.out.size) b7 (by omega)); have s0 := R7.cell 0; have s1 := R7.cell 1; have f0 := R7.frozen 0; have f1 := R7.frozen 1; have v0 := H7.cell 0; have v1 : w7.cell? ⟨w5.heap.size, 1, none⟩ = some (.int .i64 (0)) := H7.cell 1; replace R7 := Lib.hid R7; clear b7 H7)
      first
        | (refine bodyPost_ret (results_row2 Try.results57 _ _ w.heap.size 84 #[.int .i64 0, .int .i64 0] (0, 0) _ rfl ((R7.out.set_ 0 _).set_ 1 _) Try.underlying84 rfl (by kernel_rfl)) rfl ?_
           exact ⟨rfl, (B7.out.setCell (Nat.le_refl _) _).setCell (Nat.le_refl _) _⟩)
        | (refine bodyPost_ret (results_row2 Try.results57 _ _ w.heap.size 84 #[.int .i64 b0, .int .i64 (0)] (0, 0) _ rfl ((R7.out.set_ 0 _).set_ 1 _) Try.underlying84 rfl rfl) rfl ?_
           exact ⟨rfl, (B7.out.setCell (Nat.le_refl _) _).setCell (Nat.le_refl _) _⟩)
    · skip
      exfalso; omega
  )
set_option maxRecDepth 4000 in
set_option maxHeartbeats 2000000 in
theorem decode2 (b0 b1 b2 : Int) (g : Nat) (w : World) (hg : g < w.heap.size) (hc0 : w.cell? ⟨g, 0, none⟩ = some (.int .i64 b0)) (hc1 : w.cell? ⟨g, 1, none⟩ = some (.int .i64 b1)) (hc2 : w.cell? ⟨g, 2, none⟩ = some (.int .i64 b2)) (hn : olen b0 = 2)
    (h1 : inB b1 0 255 = true) (h2 : inB b2 0 255 = true) :
    Calls Try.prog 57 #[.slice (some ⟨g, 0, none⟩) 3 3, .int .i64 0] w fun e w' => e = .returned (decV (if ordB b0 (b1) then some (b0, b1, 2) else none)) ∧ Below w.heap.size w w' := by
  obtain ⟨l1, u1⟩ := inB_iff.1 h1
  obtain ⟨l2, u2⟩ := inB_iff.1 h2
  cases ho : ordB b0 (b1)
  all_goals (
  have hb0 : Below w.heap.size w (w.alloc (.cells #[.int .i64 0, .int .i64 0] 84)) := (Below.refl _ _).alloc (Nat.le_refl _) _
  have hR := Lib.hid (Blk.new w 84 #[.int .i64 0, .int .i64 0])
  have k0 : (w.alloc (.cells #[.int .i64 0, .int .i64 0] 84)).cell? ⟨g, 0, none⟩ = some (.int .i64 b0) := (hb0.cell (p := ⟨g, 0, none⟩) hg).trans hc0
  have HB0 := Lib.hid hb0
  clear hb0
  go_enter Try.func57, Try.ntmps57
  go_wp2_with (go_at_call 76; refine (orderLength_impl b0 _).mono ?_; rintro e w5 ⟨rfl, b5⟩; rw [hn]; have B5 := below_step HB0.out b5 HB0.out.size; have k0 := (B5.cell (p := ⟨g, 0, none⟩) hg).trans hc0; have k1 := (B5.cell (p := ⟨g, 1, none⟩) hg).trans hc1; have k2 := (B5.cell (p := ⟨g, 2, none⟩) hg).trans hc2; have R5 := hR.out.below b5 hR.out.lt; have s0 := R5.cell 0; have s1 := R5.cell 1; have f0 := R5.frozen 0; have f1 := R5.frozen 1; have z5 := R5.lt; replace B5 := Lib.hid B5; replace b5 := Lib.hid b5; replace R5 := Lib.hid R5)
  go_loopw [9] (fun i wr => ∃ k : Nat, i = .int .i64 k ∧ k < 2 ∧ Below w5.heap.size w5 wr ∧ Blk wr w5.heap.size 84 #[.int .i64 b0, .int .i64 (if k + 1 = 2 then 0 else if k = 1 then b2 else b1)]) (fun i _ => (intOf i).toNat)
  case atStart => exact ⟨2 - 1, rfl, by omega, (Below.refl _ _).alloc (Nat.le_refl _) _, by simpa using Blk.new w5 84 #[.int .i64 b0, .int .i64 0]⟩
  case round =>
    obtain ⟨k, rfl, hk, hb, hB⟩ := hrel
    have z5r : w5.heap.size < wr.heap.size := hB.lt
    have zR : w.heap.size < wr.heap.size := by omega
    have m1 := (hb.cell (p := ⟨g, 1, none⟩) (by have := B5.out.size; exact Nat.lt_of_lt_of_le hg this)).trans k1
    have m2 := (hb.cell (p := ⟨g, 2, none⟩) (by have := B5.out.size; exact Nat.lt_of_lt_of_le hg this)).trans k2
    have RR := Lib.hid (R5.out.below hb z5)
    have t0 := hB.cell 0
    have t1 := hB.cell 1
    have tf := hB.frozen 1
    have HB := Lib.hid hB
    replace hb := Lib.hid hb
    clear hB
    by_cases hk0 : k = 0
    · subst hk0
      have t1 : wr.cell? ⟨w5.heap.size, 1, none⟩ = some (.int .i64 (b1)) := HB.out.cell 1
      go_wp2_with (go_at_call 77; refine (orderValid_impl _ _ _).mono ?_; rintro e w7 ⟨rfl, b7⟩; rw [ho]; have R7 := RR.out.below b7 zR; have H7 := HB.out.below b7 z5r; have B7 := Lib.hid (below_step (below_step B5.out hb.out B5.out.size) b7 (by omega)); have s0 := R7.cell 0; have s1 := R7.cell 1; have f0 := R7.frozen 0; have f1 := R7.frozen 1; have v0 := H7.cell 0; have v1 : w7.cell? ⟨w5.heap.size, 1, none⟩ = some (.int .i64 (b1)) := H7.cell 1; replace R7 := Lib.hid R7; clear b7 H7)
      first
        | (refine bodyPost_ret (results_row2 Try.results57 _ _ w.heap.size 84 #[.int .i64 0, .int .i64 0] (0, 0) _ rfl ((R7.out.set_ 0 _).set_ 1 _) Try.underlying84 rfl (by kernel_rfl)) rfl ?_
           exact ⟨rfl, (B7.out.setCell (Nat.le_refl _) _).setCell (Nat.le_refl _) _⟩)
        | (refine bodyPost_ret (results_row2 Try.results57 _ _ w.heap.size 84 #[.int .i64 b0, .int .i64 (b1)] (0, 0) _ rfl ((R7.out.set_ 0 _).set_ 1 _) Try.underlying84 rfl rfl) rfl ?_
           exact ⟨rfl, (B7.out.setCell (Nat.le_refl _) _).setCell (Nat.le_refl _) _⟩)
    · skip
      obtain rfl : k = 1 := by omega
      have t1 : wr.cell? ⟨w5.heap.size, 1, none⟩ = some (.int .i64 (0)) := HB.out.cell 1
      go_wp2_with (go_at_call 63; refine (isByte_any _ _).mono ?_; rintro e w' ⟨rfl, rfl⟩; first | rw [h1] | rw [h2])
      go_region
      all_goals (
        go_wp2_with fail
        go_roundw
        case rel =>
          refine ⟨0, by go_num, by omega, (hb.out.drew).setCell (Nat.le_refl _) _, ?_⟩
          first
            | exact (HB.out.drew).set_ 1 (.int .i64 (b1))
            | trace_state
        case measure => simp [intOf])
  )
set_option maxRecDepth 4000 in
set_option maxHeartbeats 2000000 in
theorem decode3 (b0 b1 b2 : Int) (g : Nat) (w : World) (hg : g < w.heap.size) (hc0 : w.cell? ⟨g, 0, none⟩ = some (.int .i64 b0)) (hc1 : w.cell? ⟨g, 1, none⟩ = some (.int .i64 b1)) (hc2 : w.cell? ⟨g, 2, none⟩ = some (.int .i64 b2)) (hn : olen b0 = 3)
    (h1 : inB b1 0 255 = true) (h2 : inB b2 0 255 = true) :
    Calls Try.prog 57 #[.slice (some ⟨g, 0, none⟩) 3 3, .int .i64 0] w fun e w' => e = .returned (decV (if ordB b0 (256 * b2 + b1) then some (b0, 256 * b2 + b1, 3) else none)) ∧ Below w.heap.size w w' := by
  obtain ⟨l1, u1⟩ := inB_iff.1 h1
  obtain ⟨l2, u2⟩ := inB_iff.1 h2
  cases ho : ordB b0 (256 * b2 + b1)
  all_goals (
  have hb0 : Below w.heap.size w (w.alloc (.cells #[.int .i64 0, .int .i64 0] 84)) := (Below.refl _ _).alloc (Nat.le_refl _) _
  have hR := Lib.hid (Blk.new w 84 #[.int .i64 0, .int .i64 0])
  have k0 : (w.alloc (.cells #[.int .i64 0, .int .i64 0] 84)).cell? ⟨g, 0, none⟩ = some (.int .i64 b0) := (hb0.cell (p := ⟨g, 0, none⟩) hg).trans hc0
  have HB0 := Lib.hid hb0
  clear hb0
  go_enter Try.func57, Try.ntmps57
  go_wp2_with (go_at_call 76; refine (orderLength_impl b0 _).mono ?_; rintro e w5 ⟨rfl, b5⟩; rw [hn]; have B5 := below_step HB0.out b5 HB0.out.size; have k0 := (B5.cell (p := ⟨g, 0, none⟩) hg).trans hc0; have k1 := (B5.cell (p := ⟨g, 1, none⟩) hg).trans hc1; have k2 := (B5.cell (p := ⟨g, 2, none⟩) hg).trans hc2; have R5 := hR.out.below b5 hR.out.lt; have s0 := R5.cell 0; have s1 := R5.cell 1; have f0 := R5.frozen 0; have f1 := R5.frozen 1; have z5 := R5.lt; replace B5 := Lib.hid B5; replace b5 := Lib.hid b5; replace R5 := Lib.hid R5)
  go_loopw [9] (fun i wr => ∃ k : Nat, i = .int .i64 k ∧ k < 3 ∧ Below w5.heap.size w5 wr ∧ Blk wr w5.heap.size 84 #[.int .i64 b0, .int .i64 (if k + 1 = 3 then 0 else if k = 1 then b2 else 256 * b2 + b1)]) (fun i _ => (intOf i).toNat)
  case atStart => exact ⟨3 - 1, rfl, by omega, (Below.refl _ _).alloc (Nat.le_refl _) _, by simpa using Blk.new w5 84 #[.int .i64 b0, .int .i64 0]⟩
  case round =>
    obtain ⟨k, rfl, hk, hb, hB⟩ := hrel
    have z5r : w5.heap.size < wr.heap.size := hB.lt
    have zR : w.heap.size < wr.heap.size := by omega
    have m1 := (hb.cell (p := ⟨g, 1, none⟩) (by have := B5.out.size; exact Nat.lt_of_lt_of_le hg this)).trans k1
    have m2 := (hb.cell (p := ⟨g, 2, none⟩) (by have := B5.out.size; exact Nat.lt_of_lt_of_le hg this)).trans k2
    have RR := Lib.hid (R5.out.below hb z5)
    have t0 := hB.cell 0
    have t1 := hB.cell 1
    have tf := hB.frozen 1
    have HB := Lib.hid hB
    replace hb := Lib.hid hb
    clear hB
    by_cases hk0 : k = 0
    · subst hk0
      have t1 : wr.cell? ⟨w5.heap.size, 1, none⟩ = some (.int .i64 (256 * b2 + b1)) := HB.out.cell 1
      go_wp2_with (go_at_call 77; refine (orderValid_impl _ _ _).mono ?_; rintro e w7 ⟨rfl, b7⟩; rw [ho]; have R7 := RR.out.below b7 zR; have H7 := HB.out.below b7 z5r; have B7 := Lib.hid (below_step (below_step B5.out hb.out B5.out.size) b7 (by omega)); have s0 := R7.cell 0; have s1 := R7.cell 1; have f0 := R7.frozen 0; have f1 := R7.frozen 1; have v0 := H7.cell 0; have v1 : w7.cell? ⟨w5.heap.size, 1, none⟩ = some (.int .i64 (256 * b2 + b1)) := H7.cell 1; replace R7 := Lib.hid R7; clear b7 H7)
      first
        | (refine bodyPost_ret (results_row2 Try.results57 _ _ w.heap.size 84 #[.int .i64 0, .int .i64 0] (0, 0) _ rfl ((R7.out.set_ 0 _).set_ 1 _) Try.underlying84 rfl (by kernel_rfl)) rfl ?_
           exact ⟨rfl, (B7.out.setCell (Nat.le_refl _) _).setCell (Nat.le_refl _) _⟩)
        | (refine bodyPost_ret (results_row2 Try.results57 _ _ w.heap.size 84 #[.int .i64 b0, .int .i64 (256 * b2 + b1)] (0, 0) _ rfl ((R7.out.set_ 0 _).set_ 1 _) Try.underlying84 rfl rfl) rfl ?_
           exact ⟨rfl, (B7.out.setCell (Nat.le_refl _) _).setCell (Nat.le_refl _) _⟩)
    · skip
      obtain rfl | rfl : k = 2 ∨ k = 1 := by omega
      · have t1 : wr.cell? ⟨w5.heap.size, 1, none⟩ = some (.int .i64 (0)) := HB.out.cell 1
        go_wp2_with (go_at_call 63; refine (isByte_any _ _).mono ?_; rintro e w' ⟨rfl, rfl⟩; first | rw [h1] | rw [h2])
        go_region
        all_goals (
          go_wp2_with fail
          go_roundw
          case rel =>
            refine ⟨1, by go_num, by omega, (hb.out.drew).setCell (Nat.le_refl _) _, ?_⟩
            first
              | exact (HB.out.drew).set_ 1 (.int .i64 (b2))
              | trace_state
          case measure => simp [intOf])
      · have t1 : wr.cell? ⟨w5.heap.size, 1, none⟩ = some (.int .i64 (b2)) := HB.out.cell 1
        go_wp2_with (go_at_call 63; refine (isByte_any _ _).mono ?_; rintro e w' ⟨rfl, rfl⟩; first | rw [h1] | rw [h2])
        go_region
        all_goals (
          go_wp2_with fail
          go_roundw
          case rel =>
            refine ⟨0, by go_num, by omega, (hb.out.drew).setCell (Nat.le_refl _) _, ?_⟩
            first
              | exact (HB.out.drew).set_ 1 (.int .i64 (256 * b2 + b1))
              | trace_state
          case measure => simp [intOf])
  )
theorem decode_impl (b0 b1 b2 : Int) (g : Nat) (w : World) (hg : g < w.heap.size) (hc0 : w.cell? ⟨g, 0, none⟩ = some (.int .i64 b0)) (hc1 : w.cell? ⟨g, 1, none⟩ = some (.int .i64 b1)) (hc2 : w.cell? ⟨g, 2, none⟩ = some (.int .i64 b2))
    (h1 : inB b1 0 255 = true) (h2 : inB b2 0 255 = true) :
    Calls Try.prog 57 #[.slice (some ⟨g, 0, none⟩) 3 3, .int .i64 0] w fun e w' => e = .returned (decV (decP b0 b1 b2)) ∧ Below w.heap.size w w' := by
  obtain ⟨l1, u1⟩ := inB_iff.1 h1
  obtain ⟨l2, u2⟩ := inB_iff.1 h2
  rcases olen_in b0 with hn | hn | hn | hn
  · exact decode0 b0 b1 b2 g w hg hc0 hc1 hc2 hn
  · rw [show decP b0 b1 b2 = if ordB b0 0 then some (b0, 0, 1) else none by unfold decP ordB; rw [hn]; simp]
    exact decode1 b0 b1 b2 g w hg hc0 hc1 hc2 hn h1 h2
  · rw [show decP b0 b1 b2 = if ordB b0 b1 then some (b0, b1, 2) else none by unfold decP ordB; rw [hn]; simp [h1]]
    exact decode2 b0 b1 b2 g w hg hc0 hc1 hc2 hn h1 h2
  · rw [show decP b0 b1 b2 = if ordB b0 (256 * b2 + b1) then some (b0, 256 * b2 + b1, 3) else none by
      unfold decP ordB
      rw [hn]
      by_cases hb : b2 ≤ 3
      · have : inB (256 * b2 + b1) 0 1023 = true := inB_iff.2 (by omega)
        simp [hb, this]; omega
      · have : inB (256 * b2 + b1) 0 1023 = false := by cases q : inB (256 * b2 + b1) 0 1023; rfl; (have := inB_iff.1 q; omega)
        simp [hb, this]]
    exact decode3 b0 b1 b2 g w hg hc0 hc1 hc2 hn h1 h2
end Go.Proofs.Ytgedfcccflobmaa
