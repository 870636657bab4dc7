/-
  The law that the program's StopsValid returns what the reference's returns: its walk, the list given as a row of numbers. No condition.
-/
import Derived.Test.YtmenehgbhgehjaaStopV
import Derived.Test.YtmenehgbhgehjaaOpenT
namespace Go.Proofs.Ytmenehgbhgehjaa
open Go.RowKit
set_option linter.unusedVariables false
set_option linter.unusedSimpArgs false
set_option maxHeartbeats 2000000 in
theorem fnExactStopsValid_low (A : Option Addr) (n c : Nat) (ts : List Tri) (w : World) (h : Reads w w.heap.size 3 A n (iv (fl3 ts))) (hn : n ≤ 9223372036854775807) :
    Calls Try.prog 9 #[.slice A n c] w fun e w' => e = .returned (.bool true) ∧ Below w.heap.size w w' := by
  have H := Lib.hid h
  have hE := Lib.hid (Env.start w)
  clear h
  by_cases hlong : 1048576 < n
  · have hi : (if (1048576 : Int) - n < 0 then (-1 : Int) else 1048576 - n) = -1 := if_pos (by omega)
    go_enter Try.func9, Try.ntmps9
    go_wp2_with fail
    refine (szStopS_any A n c 1048576 _ (by omega) (by omega) hn).mono ?_
    rintro e w' ⟨rfl, rfl⟩
    rw [hi]
    go_wp2_with fail
    go_ret
    exact ⟨rfl, Below.refl _ _⟩
  have hi : (if (1048576 : Int) - n < 0 then (-1 : Int) else 1048576 - n) = 1048576 - n := if_neg (by omega)
  have q0 : ¬ ((1048576 : Int) - n < 0) := by omega
  have q1 : (stopsB ts != stopsB ts) = false := by simp
  go_enter Try.func9, Try.ntmps9
  go_wp2_with fail
  refine (szStopS_any A n c 1048576 _ (by omega) (by omega) hn).mono ?_
  rintro e w' ⟨rfl, rfl⟩
  rw [hi]
  go_wp2_with fail
  refine (toStopS_any _ _ _ ts _ (hE.out.argR H.out) (by omega)).mono ?_
  rintro e w' ⟨A', c', rfl, o, b⟩
  replace hE := Lib.hid (hE.out.push o b)
  clear o b
  go_wp2_with fail
  refine (stopsValid_spec _ _ _ ts _ (hE.out.reads 0 rfl) (by omega)).mono ?_
  rintro e w' ⟨rfl, b⟩
  replace hE := Lib.hid (hE.out.below b)
  clear b
  go_wp2_with fail
  refine (toStopS_any _ _ _ ts _ (hE.out.argR H.out) (by omega)).mono ?_
  rintro e w' ⟨A', c', rfl, o, b⟩
  replace hE := Lib.hid (hE.out.push o b)
  clear o b
  go_wp2_with fail
  refine (stopsValid_impl _ _ _ ts _ (hE.out.reads 0 rfl) (by omega)).mono ?_
  rintro e w' ⟨rfl, b⟩
  replace hE := Lib.hid (hE.out.below b)
  clear b
  go_wp2_with fail
  refine (toStopS_any _ _ _ ts _ (hE.out.argR H.out) (by omega)).mono ?_
  rintro e w' ⟨A', c', rfl, o, b⟩
  replace hE := Lib.hid (hE.out.push o b)
  clear o b
  go_wp2_with fail
  refine (eqStopS_same _ _ _ _ _ _ _ (hE.out.reads 1 rfl) (hE.out.reads 0 rfl) (by omega)).mono ?_
  rintro e w' ⟨rfl, b⟩
  replace hE := Lib.hid (hE.out.below b)
  clear b
  go_wp2_with fail
  go_ret
  exact ⟨rfl, hE.out.bel⟩
theorem fnExactStopsValid_walk (w : World) (A : Option Addr) (n c : Nat) (ts : List Tri) (h : Reads w w.heap.size 3 A n (iv (fl3 ts))) (hn : n ≤ 9223372036854775807) :
    Calls Try.prog 9 #[.slice A n c] w fun e w' => e = .returned (.bool true) ∧ Below w.heap.size w w' := fnExactStopsValid_low A n c ts w h hn
end Go.Proofs.Ytmenehgbhgehjaa
