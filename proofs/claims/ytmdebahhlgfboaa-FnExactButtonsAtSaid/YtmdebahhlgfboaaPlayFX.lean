/-
  The laws that the program's PlayFrames and ButtonsAt return what the reference's return: their walks. No condition.
-/
import Derived.Test.YtmdebahhlgfboaaPlayF
import Derived.Test.YtmdebahhlgfboaaOpTHold
namespace Go.Proofs.Ytmdebahhlgfboaa
open Go.RowKit
set_option linter.unusedVariables false
set_option linter.unusedSimpArgs false
set_option maxHeartbeats 4000000 in
theorem fnExactPlayFrames_walk (w : World) (A : Option Addr) (n c : Nat) (ts : List THold) (h : Reads w w.heap.size 2 A n (iv (flHold ts))) (hn : n ≤ 9223372036854775807) :
    Calls Try.prog 4 #[.slice A n c] w fun e w' => e = .returned (.bool true) ∧ Below w.heap.size w w' := by
  have H := Lib.hid h
  have hE := Lib.hid (Env.start w)
  clear h
  by_cases hlong : 1048576 < n
  · have hi : (if (1048576 : Int) - n < 0 then (-1 : Int) else 1048576 - n) = -1 := if_pos (by omega)
    go_enter Try.func4, Try.ntmps4
    go_wp2_with fail
    refine (szHoldS_any A n c 1048576 _ (by omega) (by omega) hn).mono ?_
    rintro e w' ⟨rfl, rfl⟩
    rw [hi]
    go_wp2_with fail
    go_ret
    exact ⟨rfl, Below.refl _ _⟩
  have hi : (if (1048576 : Int) - n < 0 then (-1 : Int) else 1048576 - n) = 1048576 - n := if_neg (by omega)
  have q0 : ¬ ((1048576 : Int) - n < 0) := by omega
  have hx := plL_len ts
  have q1 : (plB ts != plB ts) = false := by simp
  go_enter Try.func4, Try.ntmps4
  go_wp2_with fail
  refine (szHoldS_any A n c 1048576 _ (by omega) (by omega) hn).mono ?_
  rintro e w' ⟨rfl, rfl⟩
  rw [hi]
  go_wp2_with fail
  refine (toHoldS_any _ _ _ ts _ (hE.out.argR H.out) (by omega)).mono ?_
  rintro e w' ⟨A', c', rfl, o, b⟩
  replace hE := Lib.hid (hE.out.push o b)
  clear o b
  go_wp2_with fail
  refine (playFrames_spec _ _ _ ts _ (hE.out.reads 0 rfl) (by omega)).mono ?_
  rintro e w' ⟨A', c', rfl, o, b⟩
  replace hE := Lib.hid (hE.out.push o b)
  clear o b
  go_wp2_with fail
  refine (toHoldS_any _ _ _ ts _ (hE.out.argR H.out) (by omega)).mono ?_
  rintro e w' ⟨A', c', rfl, o, b⟩
  replace hE := Lib.hid (hE.out.push o b)
  clear o b
  go_wp2_with fail
  refine (playFrames_impl _ _ _ ts _ (hE.out.reads 0 rfl) (by omega)).mono ?_
  rintro e w' ⟨A', c', rfl, o, b⟩
  replace hE := Lib.hid (hE.out.push o b)
  clear o b
  go_wp2_with fail
  refine (eqIntS_same _ _ _ _ _ _ _ (hE.out.ints 0 rfl) (hE.out.ints 2 rfl) (by omega)).mono ?_
  rintro e w' ⟨rfl, b⟩
  replace hE := Lib.hid (hE.out.below b)
  clear b
  go_wp2_with fail
  refine (toHoldS_any _ _ _ ts _ (hE.out.argR H.out) (by omega)).mono ?_
  rintro e w' ⟨A', c', rfl, o, b⟩
  replace hE := Lib.hid (hE.out.push o b)
  clear o b
  go_wp2_with fail
  refine (eqHoldS_same _ _ _ _ _ _ _ (hE.out.reads 2 rfl) (hE.out.reads 0 rfl) (by omega)).mono ?_
  rintro e w' ⟨rfl, b⟩
  replace hE := Lib.hid (hE.out.below b)
  clear b
  go_wp2_with fail
  refine (markHoldS_own _ _ _ _ _ 1 _ (hE.out.own 2 rfl) (by omega) (by omega) (by omega)).mono ?_
  rintro e w' ⟨rfl, o, g⟩
  replace hE := Lib.hid (hE.out.mark 2 rfl o g)
  clear o g
  go_wp2_with fail
  refine (eqIntS_same _ _ _ _ _ _ _ (hE.out.ints 1 rfl) (hE.out.ints 3 rfl) (by omega)).mono ?_
  rintro e w' ⟨rfl, b⟩
  replace hE := Lib.hid (hE.out.below b)
  clear b
  go_wp2_with fail
  refine (markIntS_own _ _ _ _ _ 1 _ (hE.out.own 1 rfl) (by omega) (by omega) (by omega)).mono ?_
  rintro e w' ⟨rfl, o, g⟩
  replace hE := Lib.hid (hE.out.mark 1 rfl o g)
  clear o g
  go_wp2_with fail
  refine (heldIntS_marks _ _ _ 1 _ (hE.out.ints 1 rfl) (by omega) (by omega) (by omega)).mono ?_
  rintro e w' ⟨rfl, b⟩
  replace hE := Lib.hid (hE.out.below b)
  clear b
  go_wp2_with fail
  refine (toHoldS_any _ _ _ ts _ (hE.out.argR H.out) (by omega)).mono ?_
  rintro e w' ⟨A', c', rfl, o, b⟩
  replace hE := Lib.hid (hE.out.push o b)
  clear o b
  go_wp2_with fail
  refine (playFrames_impl _ _ _ ts _ (hE.out.reads 0 rfl) (by omega)).mono ?_
  rintro e w' ⟨A', c', rfl, o, b⟩
  replace hE := Lib.hid (hE.out.push o b)
  clear o b
  go_wp2_with fail
  refine (eqIntS_same _ _ _ _ _ _ _ (hE.out.ints 0 rfl) (hE.out.ints 5 rfl) (by omega)).mono ?_
  rintro e w' ⟨rfl, b⟩
  replace hE := Lib.hid (hE.out.below b)
  clear b
  go_wp2_with fail
  refine (heldIntS_marks _ _ _ 1 _ (hE.out.ints 3 rfl) (by omega) (by omega) (by omega)).mono ?_
  rintro e w' ⟨rfl, b⟩
  replace hE := Lib.hid (hE.out.below b)
  clear b
  go_wp2_with fail
  go_ret
  exact ⟨rfl, hE.out.bel⟩
set_option maxHeartbeats 2000000 in
theorem fnExactButtonsAt_walk (w : World) (A : Option Addr) (n c : Nat) (ts : List THold) (h : Reads w w.heap.size 2 A n (iv (flHold ts))) (hn : n ≤ 9223372036854775807) (x : Int) (_ : (Lit.int .i64 x).wf = true) :
    Calls Try.prog 3 #[.slice A n c, .int .i64 x] w fun e w' => e = .returned (.bool true) ∧ Below w.heap.size w w' := by
  have H := Lib.hid h
  have hE := Lib.hid (Env.start w)
  clear h
  by_cases hlong : 1048576 < n
  · have hi : (if (1048576 : Int) - n < 0 then (-1 : Int) else 1048576 - n) = -1 := if_pos (by omega)
    go_enter Try.func3, Try.ntmps3
    go_wp2_with fail
    refine (szHoldS_any A n c 1048576 _ (by omega) (by omega) hn).mono ?_
    rintro e w' ⟨rfl, rfl⟩
    rw [hi]
    go_wp2_with fail
    go_ret
    exact ⟨rfl, Below.refl _ _⟩
  have hi : (if (1048576 : Int) - n < 0 then (-1 : Int) else 1048576 - n) = 1048576 - n := if_neg (by omega)
  have q0 : ¬ ((1048576 : Int) - n < 0) := by omega
  have q1 : (btA ts x != btA ts x) = false := by simp
  go_enter Try.func3, Try.ntmps3
  go_wp2_with fail
  refine (szHoldS_any A n c 1048576 _ (by omega) (by omega) hn).mono ?_
  rintro e w' ⟨rfl, rfl⟩
  rw [hi]
  go_wp2_with fail
  refine (toHoldS_any _ _ _ ts _ (hE.out.argR H.out) (by omega)).mono ?_
  rintro e w' ⟨A', c', rfl, o, b⟩
  replace hE := Lib.hid (hE.out.push o b)
  clear o b
  go_wp2_with fail
  refine (buttonsAt_spec _ _ _ ts x _ (hE.out.reads 0 rfl) (by omega)).mono ?_
  rintro e w' ⟨rfl, b⟩
  replace hE := Lib.hid (hE.out.below b)
  clear b
  go_wp2_with fail
  refine (toHoldS_any _ _ _ ts _ (hE.out.argR H.out) (by omega)).mono ?_
  rintro e w' ⟨A', c', rfl, o, b⟩
  replace hE := Lib.hid (hE.out.push o b)
  clear o b
  go_wp2_with fail
  refine (buttonsAt_impl _ _ _ ts x _ (hE.out.reads 0 rfl) (by omega)).mono ?_
  rintro e w' ⟨rfl, b⟩
  replace hE := Lib.hid (hE.out.below b)
  clear b
  go_wp2_with fail
  refine (toHoldS_any _ _ _ ts _ (hE.out.argR H.out) (by omega)).mono ?_
  rintro e w' ⟨A', c', rfl, o, b⟩
  replace hE := Lib.hid (hE.out.push o b)
  clear o b
  go_wp2_with fail
  refine (eqHoldS_same _ _ _ _ _ _ _ (hE.out.reads 1 rfl) (hE.out.reads 0 rfl) (by omega)).mono ?_
  rintro e w' ⟨rfl, b⟩
  replace hE := Lib.hid (hE.out.below b)
  clear b
  go_wp2_with fail
  go_ret
  exact ⟨rfl, hE.out.bel⟩
end Go.Proofs.Ytmdebahhlgfboaa
