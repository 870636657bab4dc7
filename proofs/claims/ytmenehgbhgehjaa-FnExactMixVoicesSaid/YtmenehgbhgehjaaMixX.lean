/-
  The law that the program's MixVoices returns what the reference's returns: its walk, the list given as a row of numbers. No condition.
-/
import Derived.Test.YtmenehgbhgehjaaMix
import Derived.Test.YtmenehgbhgehjaaOpTVoice
namespace Go.Proofs.Ytmenehgbhgehjaa
open Go.RowKit
set_option linter.unusedVariables false
set_option linter.unusedSimpArgs false
set_option maxHeartbeats 4000000 in
theorem fnExactMixVoices_walk (w : World) (A : Option Addr) (n c : Nat) (ts : List TVoice) (h : Reads w w.heap.size 5 A n (iv (flVoice ts))) (hn : n ≤ 9223372036854775807) (x : Int) (_ : (Lit.int .i64 x).wf = true) :
    Calls Try.prog 8 #[.slice A n c, .int .i64 x] w fun e w' => e = .returned (.bool true) ∧ Below w.heap.size w w' := by
  have H := Lib.hid h
  have hE := Lib.hid (Env.start w)
  clear h
  by_cases hlong : 1048576 < n
  · have hi : (if (1048576 : Int) - n < 0 then (-1 : Int) else 1048576 - n) = -1 := if_pos (by omega)
    go_enter Try.func8, Try.ntmps8
    go_wp2_with fail
    refine (szVoiceS_any A n c 1048576 _ (by omega) (by omega) hn).mono ?_
    rintro e w' ⟨rfl, rfl⟩
    rw [hi]
    go_wp2_with fail
    go_ret
    exact ⟨rfl, Below.refl _ _⟩
  have hi : (if (1048576 : Int) - n < 0 then (-1 : Int) else 1048576 - n) = 1048576 - n := if_neg (by omega)
  have q0 : ¬ ((1048576 : Int) - n < 0) := by omega
  have hx := mixR_len ts x
  go_enter Try.func8, Try.ntmps8
  go_wp2_with fail
  refine (szVoiceS_any A n c 1048576 _ (by omega) (by omega) hn).mono ?_
  rintro e w' ⟨rfl, rfl⟩
  rw [hi]
  go_wp2_with fail
  refine (toVoiceS_any _ _ _ ts _ (hE.out.argR H.out) (by omega)).mono ?_
  rintro e w' ⟨A', c', rfl, o, b⟩
  replace hE := Lib.hid (hE.out.push o b)
  clear o b
  go_wp2_with fail
  refine (mixVoices_spec _ _ _ ts x _ (hE.out.reads 0 rfl) (by omega)).mono ?_
  rintro e w' ⟨A', c', rfl, o, b⟩
  replace hE := Lib.hid (hE.out.push o b)
  clear o b
  go_wp2_with fail
  refine (toVoiceS_any _ _ _ ts _ (hE.out.argR H.out) (by omega)).mono ?_
  rintro e w' ⟨A', c', rfl, o, b⟩
  replace hE := Lib.hid (hE.out.push o b)
  clear o b
  go_wp2_with fail
  refine (mixVoices_impl _ _ _ ts x _ (hE.out.reads 0 rfl) (by omega)).mono ?_
  rintro e w' ⟨A', c', rfl, o, b⟩
  replace hE := Lib.hid (hE.out.push o b)
  clear o b
  go_wp2_with fail
  refine (eqIntS_same _ _ _ _ _ _ _ (hE.out.ints 0 rfl) (hE.out.ints 2 rfl) (by omega)).mono ?_
  rintro e w' ⟨rfl, b⟩
  replace hE := Lib.hid (hE.out.below b)
  clear b
  go_wp2_with fail
  refine (toVoiceS_any _ _ _ ts _ (hE.out.argR H.out) (by omega)).mono ?_
  rintro e w' ⟨A', c', rfl, o, b⟩
  replace hE := Lib.hid (hE.out.push o b)
  clear o b
  go_wp2_with fail
  refine (eqVoiceS_same _ _ _ _ _ _ _ (hE.out.reads 2 rfl) (hE.out.reads 0 rfl) (by omega)).mono ?_
  rintro e w' ⟨rfl, b⟩
  replace hE := Lib.hid (hE.out.below b)
  clear b
  go_wp2_with fail
  refine (markVoiceS_own _ _ _ _ _ _ _ (hE.out.own 2 rfl) (by omega) (by omega) (by omega)).mono ?_
  rintro e w' ⟨rfl, o, g⟩
  replace hE := Lib.hid (hE.out.mark 2 rfl o g)
  clear o g
  go_wp2_with fail
  refine (eqIntS_same _ _ _ _ _ _ _ (hE.out.ints 1 rfl) (hE.out.ints 3 rfl) (by omega)).mono ?_
  rintro e w' ⟨rfl, b⟩
  replace hE := Lib.hid (hE.out.below b)
  clear b
  go_wp2_with fail
  refine (markIntS_own _ _ _ _ _ 1 _ (hE.out.own 1 rfl) (by omega) (by omega) (by omega)).mono ?_
  rintro e w' ⟨rfl, o, g⟩
  replace hE := Lib.hid (hE.out.mark 1 rfl o g)
  clear o g
  go_wp2_with fail
  refine (heldIntS_marks _ _ _ 1 _ (hE.out.ints 1 rfl) (by omega) (by omega) (by omega)).mono ?_
  rintro e w' ⟨rfl, b⟩
  replace hE := Lib.hid (hE.out.below b)
  clear b
  go_wp2_with fail
  refine (toVoiceS_any _ _ _ ts _ (hE.out.argR H.out) (by omega)).mono ?_
  rintro e w' ⟨A', c', rfl, o, b⟩
  replace hE := Lib.hid (hE.out.push o b)
  clear o b
  go_wp2_with fail
  refine (mixVoices_impl _ _ _ ts x _ (hE.out.reads 0 rfl) (by omega)).mono ?_
  rintro e w' ⟨A', c', rfl, o, b⟩
  replace hE := Lib.hid (hE.out.push o b)
  clear o b
  go_wp2_with fail
  refine (eqIntS_same _ _ _ _ _ _ _ (hE.out.ints 0 rfl) (hE.out.ints 5 rfl) (by omega)).mono ?_
  rintro e w' ⟨rfl, b⟩
  replace hE := Lib.hid (hE.out.below b)
  clear b
  go_wp2_with fail
  refine (heldIntS_marks _ _ _ 1 _ (hE.out.ints 3 rfl) (by omega) (by omega) (by omega)).mono ?_
  rintro e w' ⟨rfl, b⟩
  replace hE := Lib.hid (hE.out.below b)
  clear b
  go_wp2_with fail
  go_ret
  exact ⟨rfl, hE.out.bel⟩
end Go.Proofs.Ytmenehgbhgehjaa
