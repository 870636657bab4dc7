/-
  The law that the program's RecordFrames returns what the reference's returns: its walk. No condition.
-/
import Derived.Test.YtmdebahhlgfboaaRec
import Derived.Test.YtmdebahhlgfboaaOpTHold
namespace Go.Proofs.Ytmdebahhlgfboaa
open Go.RowKit
set_option linter.unusedVariables false
set_option linter.unusedSimpArgs false
set_option maxHeartbeats 2000000 in
theorem fnExactRecordFrames_walk (w : World) (A : Option Addr) (n c : Nat) (zs0 : List Int) (h : IsRow .i64 w A n c zs0) :
    Calls Try.prog 5 #[.slice A n c] w fun e w' => e = .returned (.bool true) ∧ Below w.heap.size w w' := by
  have hl := h.len.1
  have H := h.ints
  clear h
  generalize zs0.take n = zs at H hl
  subst hl
  generalize hN : zs.length = n at H
  by_cases hlong : 1048576 < n
  · go_enter Try.func5, Try.ntmps5
    go_wp2_with fail
    go_ret
    exact ⟨rfl, Below.refl _ _⟩
  subst hN
  have q0 : ¬ ((zs.length : Int) > 1048576) := by omega
  have H := Lib.hid H
  have hE := Lib.hid (Env.start w)
  have hx := recR_len zs
  go_enter Try.func5, Try.ntmps5
  go_wp2_with fail
  refine (toIntS_any _ _ _ zs _ (hE.out.arg H.out) (by omega)).mono ?_
  rintro e w' ⟨A', c', rfl, o, b⟩
  replace hE := Lib.hid (hE.out.push o b)
  clear o b
  go_wp2_with fail
  refine (recordFrames_spec _ _ _ zs _ (hE.out.ints 0 rfl) (by omega)).mono ?_
  rintro e w' ⟨A', c', rfl, o, b⟩
  replace hE := Lib.hid (hE.out.push o b)
  clear o b
  go_wp2_with fail
  refine (toIntS_any _ _ _ zs _ (hE.out.arg H.out) (by omega)).mono ?_
  rintro e w' ⟨A', c', rfl, o, b⟩
  replace hE := Lib.hid (hE.out.push o b)
  clear o b
  go_wp2_with fail
  refine (recordFrames_impl _ _ _ zs _ (hE.out.ints 0 rfl) (by omega)).mono ?_
  rintro e w' ⟨A', c', rfl, o, b⟩
  replace hE := Lib.hid (hE.out.push o b)
  clear o b
  go_wp2_with fail
  refine (eqHoldS_same _ _ _ _ _ _ _ (hE.out.reads 0 rfl) (hE.out.reads 2 rfl) (by omega)).mono ?_
  rintro e w' ⟨rfl, b⟩
  replace hE := Lib.hid (hE.out.below b)
  clear b
  go_wp2_with fail
  refine (toIntS_any _ _ _ zs _ (hE.out.arg H.out) (by omega)).mono ?_
  rintro e w' ⟨A', c', rfl, o, b⟩
  replace hE := Lib.hid (hE.out.push o b)
  clear o b
  go_wp2_with fail
  refine (eqIntS_same _ _ _ _ _ _ _ (hE.out.ints 2 rfl) (hE.out.ints 0 rfl) (by omega)).mono ?_
  rintro e w' ⟨rfl, b⟩
  replace hE := Lib.hid (hE.out.below b)
  clear b
  go_wp2_with fail
  refine (markIntS_own _ _ _ _ _ 1 _ (hE.out.own 2 rfl) (by omega) (by omega) (by omega)).mono ?_
  rintro e w' ⟨rfl, o, g⟩
  replace hE := Lib.hid (hE.out.mark 2 rfl o g)
  clear o g
  go_wp2_with fail
  refine (eqHoldS_same _ _ _ _ _ _ _ (hE.out.reads 1 rfl) (hE.out.reads 3 rfl) (by omega)).mono ?_
  rintro e w' ⟨rfl, b⟩
  replace hE := Lib.hid (hE.out.below b)
  clear b
  go_wp2_with fail
  refine (markHoldS_own _ _ _ _ _ 1 _ (hE.out.own 1 rfl) (by omega) (by omega) (by omega)).mono ?_
  rintro e w' ⟨rfl, o, g⟩
  replace hE := Lib.hid (hE.out.mark 1 rfl o g)
  clear o g
  go_wp2_with fail
  refine (heldHoldS_marks _ _ _ 1 _ (hE.out.reads 1 rfl) (by omega) (by omega) (by omega)).mono ?_
  rintro e w' ⟨rfl, b⟩
  replace hE := Lib.hid (hE.out.below b)
  clear b
  go_wp2_with fail
  refine (toIntS_any _ _ _ zs _ (hE.out.arg H.out) (by omega)).mono ?_
  rintro e w' ⟨A', c', rfl, o, b⟩
  replace hE := Lib.hid (hE.out.push o b)
  clear o b
  go_wp2_with fail
  refine (recordFrames_impl _ _ _ zs _ (hE.out.ints 0 rfl) (by omega)).mono ?_
  rintro e w' ⟨A', c', rfl, o, b⟩
  replace hE := Lib.hid (hE.out.push o b)
  clear o b
  go_wp2_with fail
  refine (eqHoldS_same _ _ _ _ _ _ _ (hE.out.reads 0 rfl) (hE.out.reads 5 rfl) (by omega)).mono ?_
  rintro e w' ⟨rfl, b⟩
  replace hE := Lib.hid (hE.out.below b)
  clear b
  go_wp2_with fail
  refine (heldHoldS_marks _ _ _ 1 _ (hE.out.reads 3 rfl) (by omega) (by omega) (by omega)).mono ?_
  rintro e w' ⟨rfl, b⟩
  replace hE := Lib.hid (hE.out.below b)
  clear b
  go_wp2_with fail
  go_ret
  exact ⟨rfl, hE.out.bel⟩
end Go.Proofs.Ytmdebahhlgfboaa
