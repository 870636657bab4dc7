/-
  The laws that the program's save functions return what the reference's return: their walks. No condition.
-/
import Derived.Test.YtgmcbpnnololmaaSaveB
import Derived.Test.YtgmcbpnnololmaaSaveR
import Derived.Test.YtgmcbpnnololmaaBestS
namespace Go.Proofs.Ytgmcbpnnololmaa
open Go.RowKit
set_option linter.unusedVariables false
set_option linter.unusedSimpArgs false
set_option maxHeartbeats 2000000 in
theorem fnExactSaveBytes_walk (w : World) (m : Int) (_ : (Lit.int .i64 m).wf = true) (A : Option Addr) (n c : Nat) (zs0 : List Int) (h : IsRow .i64 w A n c zs0) :
    Calls Try.prog 3 #[.int .i64 m, .slice A n c] w fun e w' => e = .returned (.bool true) ∧ Below w.heap.size w w' := by
  have hl := h.len.1
  have H := h.ints
  clear h
  generalize zs0.take n = zs at H hl
  subst hl
  generalize hN : zs.length = n at H
  by_cases hlong : 1048576 < n
  · go_enter Try.func3, Try.ntmps3
    go_wp2_with fail
    go_ret
    exact ⟨rfl, Below.refl _ _⟩
  subst hN
  have q0 : ¬ ((zs.length : Int) > 1048576) := by omega
  have H := Lib.hid H
  have hE := Lib.hid (Env.start w)
  have hx := saveR_len m zs
  go_enter Try.func3, Try.ntmps3
  go_wp2_with fail
  refine (toIntS_any _ _ _ zs _ (hE.out.arg H.out) (by omega)).mono ?_
  rintro e w' ⟨A', c', rfl, o, b⟩
  replace hE := Lib.hid (hE.out.push o b)
  clear o b
  go_wp2_with fail
  refine (saveBytes_spec m _ _ _ zs _ (hE.out.ints 0 rfl) (by omega) (hE.out.nil_ 0 rfl)).mono ?_
  rintro e w' ⟨A', c', rfl, o, b⟩
  replace hE := Lib.hid (hE.out.push o b)
  clear o b
  go_wp2_with fail
  refine (toIntS_any _ _ _ zs _ (hE.out.arg H.out) (by omega)).mono ?_
  rintro e w' ⟨A', c', rfl, o, b⟩
  replace hE := Lib.hid (hE.out.push o b)
  clear o b
  go_wp2_with fail
  refine (saveBytes_impl m _ _ _ zs _ (hE.out.ints 0 rfl) (by omega) (hE.out.nil_ 0 rfl)).mono ?_
  rintro e w' ⟨A', c', rfl, o, b⟩
  replace hE := Lib.hid (hE.out.push o b)
  clear o b
  go_wp2_with fail
  refine (eqIntS_same _ _ _ _ _ _ _ (hE.out.ints 0 rfl) (hE.out.ints 2 rfl) (by omega)).mono ?_
  rintro e w' ⟨rfl, b⟩
  replace hE := Lib.hid (hE.out.below b)
  clear b
  go_wp2_with fail
  refine (toIntS_any _ _ _ zs _ (hE.out.arg H.out) (by omega)).mono ?_
  rintro e w' ⟨A', c', rfl, o, b⟩
  replace hE := Lib.hid (hE.out.push o b)
  clear o b
  go_wp2_with fail
  refine (eqIntS_same _ _ _ _ _ _ _ (hE.out.ints 2 rfl) (hE.out.ints 0 rfl) (by omega)).mono ?_
  rintro e w' ⟨rfl, b⟩
  replace hE := Lib.hid (hE.out.below b)
  clear b
  go_wp2_with fail
  refine (markIntS_own _ _ _ _ _ 1 _ (hE.out.own 2 rfl) (by omega) (by omega) (by omega)).mono ?_
  rintro e w' ⟨rfl, o, g⟩
  replace hE := Lib.hid (hE.out.mark 2 rfl o g)
  clear o g
  go_wp2_with fail
  refine (eqIntS_same _ _ _ _ _ _ _ (hE.out.ints 1 rfl) (hE.out.ints 3 rfl) (by omega)).mono ?_
  rintro e w' ⟨rfl, b⟩
  replace hE := Lib.hid (hE.out.below b)
  clear b
  go_wp2_with fail
  refine (markIntS_own _ _ _ _ _ 1 _ (hE.out.own 1 rfl) (by omega) (by omega) (by omega)).mono ?_
  rintro e w' ⟨rfl, o, g⟩
  replace hE := Lib.hid (hE.out.mark 1 rfl o g)
  clear o g
  go_wp2_with fail
  refine (heldIntS_marks _ _ _ 1 _ (hE.out.ints 1 rfl) (by omega) (by omega) (by omega)).mono ?_
  rintro e w' ⟨rfl, b⟩
  replace hE := Lib.hid (hE.out.below b)
  clear b
  go_wp2_with fail
  refine (toIntS_any _ _ _ zs _ (hE.out.arg H.out) (by omega)).mono ?_
  rintro e w' ⟨A', c', rfl, o, b⟩
  replace hE := Lib.hid (hE.out.push o b)
  clear o b
  go_wp2_with fail
  refine (saveBytes_impl m _ _ _ zs _ (hE.out.ints 0 rfl) (by omega) (hE.out.nil_ 0 rfl)).mono ?_
  rintro e w' ⟨A', c', rfl, o, b⟩
  replace hE := Lib.hid (hE.out.push o b)
  clear o b
  go_wp2_with fail
  refine (eqIntS_same _ _ _ _ _ _ _ (hE.out.ints 0 rfl) (hE.out.ints 5 rfl) (by omega)).mono ?_
  rintro e w' ⟨rfl, b⟩
  replace hE := Lib.hid (hE.out.below b)
  clear b
  go_wp2_with fail
  refine (heldIntS_marks _ _ _ 1 _ (hE.out.ints 3 rfl) (by omega) (by omega) (by omega)).mono ?_
  rintro e w' ⟨rfl, b⟩
  replace hE := Lib.hid (hE.out.below b)
  clear b
  go_wp2_with fail
  go_ret
  exact ⟨rfl, hE.out.bel⟩
set_option maxHeartbeats 2000000 in
theorem fnExactReadSave_walk (w : World) (A : Option Addr) (n c : Nat) (zs0 : List Int) (h : IsRow .i64 w A n c zs0) :
    Calls Try.prog 4 #[.slice A n c] w fun e w' => e = .returned (.bool true) ∧ Below w.heap.size w w' := by
  have hl := h.len.1
  have H := h.ints
  clear h
  generalize zs0.take n = zs at H hl
  subst hl
  generalize hN : zs.length = n at H
  by_cases hlong : 1048576 < n
  · go_enter Try.func4, Try.ntmps4
    go_wp2_with fail
    go_ret
    exact ⟨rfl, Below.refl _ _⟩
  subst hN
  have q0 : ¬ ((zs.length : Int) > 1048576) := by omega
  have H := Lib.hid H
  have hE := Lib.hid (Env.start w)
  have hx := readD_len zs
  have q1 : (readN zs != readN zs) = false := by simp
  have q2 : (readOk zs != readOk zs) = false := by simp
  go_enter Try.func4, Try.ntmps4
  go_wp2_with fail
  refine (toIntS_any _ _ _ zs _ (hE.out.arg H.out) (by omega)).mono ?_
  rintro e w' ⟨A', c', rfl, o, b⟩
  replace hE := Lib.hid (hE.out.push o b)
  clear o b
  go_wp2_with fail
  refine (readSave_spec _ _ _ zs _ (hE.out.ints 0 rfl) (by omega) (hE.out.cap 0 rfl)).mono ?_
  rintro e w' ⟨A', c', rfl, o, b⟩
  replace hE := Lib.hid (hE.out.push o b)
  clear o b
  go_wp2_with fail
  refine (toIntS_any _ _ _ zs _ (hE.out.arg H.out) (by omega)).mono ?_
  rintro e w' ⟨A', c', rfl, o, b⟩
  replace hE := Lib.hid (hE.out.push o b)
  clear o b
  go_wp2_with fail
  refine (readSave_impl _ _ _ zs _ (hE.out.ints 0 rfl) (by omega) (hE.out.cap 0 rfl)).mono ?_
  rintro e w' ⟨A', c', rfl, o, b⟩
  replace hE := Lib.hid (hE.out.push o b)
  clear o b
  go_wp2_with fail
  refine (eqIntS_same _ _ _ _ _ _ _ (hE.out.ints 0 rfl) (hE.out.ints 2 rfl) (by omega)).mono ?_
  rintro e w' ⟨rfl, b⟩
  replace hE := Lib.hid (hE.out.below b)
  clear b
  go_wp2_with fail
  refine (toIntS_any _ _ _ zs _ (hE.out.arg H.out) (by omega)).mono ?_
  rintro e w' ⟨A', c', rfl, o, b⟩
  replace hE := Lib.hid (hE.out.push o b)
  clear o b
  go_wp2_with fail
  refine (eqIntS_same _ _ _ _ _ _ _ (hE.out.ints 2 rfl) (hE.out.ints 0 rfl) (by omega)).mono ?_
  rintro e w' ⟨rfl, b⟩
  replace hE := Lib.hid (hE.out.below b)
  clear b
  go_wp2_with fail
  refine (markIntS_own _ _ _ _ _ 1 _ (hE.out.own 2 rfl) (by omega) (by omega) (by omega)).mono ?_
  rintro e w' ⟨rfl, o, g⟩
  replace hE := Lib.hid (hE.out.mark 2 rfl o g)
  clear o g
  go_wp2_with fail
  refine (eqIntS_same _ _ _ _ _ _ _ (hE.out.ints 1 rfl) (hE.out.ints 3 rfl) (by omega)).mono ?_
  rintro e w' ⟨rfl, b⟩
  replace hE := Lib.hid (hE.out.below b)
  clear b
  go_wp2_with fail
  refine (markIntS_own _ _ _ _ _ 1 _ (hE.out.own 1 rfl) (by omega) (by omega) (by omega)).mono ?_
  rintro e w' ⟨rfl, o, g⟩
  replace hE := Lib.hid (hE.out.mark 1 rfl o g)
  clear o g
  go_wp2_with fail
  refine (heldIntS_marks _ _ _ 1 _ (hE.out.ints 1 rfl) (by omega) (by omega) (by omega)).mono ?_
  rintro e w' ⟨rfl, b⟩
  replace hE := Lib.hid (hE.out.below b)
  clear b
  go_wp2_with fail
  refine (toIntS_any _ _ _ zs _ (hE.out.arg H.out) (by omega)).mono ?_
  rintro e w' ⟨A', c', rfl, o, b⟩
  replace hE := Lib.hid (hE.out.push o b)
  clear o b
  go_wp2_with fail
  refine (readSave_impl _ _ _ zs _ (hE.out.ints 0 rfl) (by omega) (hE.out.cap 0 rfl)).mono ?_
  rintro e w' ⟨A', c', rfl, o, b⟩
  replace hE := Lib.hid (hE.out.push o b)
  clear o b
  go_wp2_with fail
  refine (eqIntS_same _ _ _ _ _ _ _ (hE.out.ints 0 rfl) (hE.out.ints 5 rfl) (by omega)).mono ?_
  rintro e w' ⟨rfl, b⟩
  replace hE := Lib.hid (hE.out.below b)
  clear b
  go_wp2_with fail
  refine (heldIntS_marks _ _ _ 1 _ (hE.out.ints 3 rfl) (by omega) (by omega) (by omega)).mono ?_
  rintro e w' ⟨rfl, b⟩
  replace hE := Lib.hid (hE.out.below b)
  clear b
  go_wp2_with fail
  go_ret
  exact ⟨rfl, hE.out.bel⟩
set_option maxHeartbeats 2000000 in
theorem fnExactBestSave_walk (w : World) (A : Option Addr) (n c : Nat) (zs0 : List Int) (h : IsRow .i64 w A n c zs0) (B : Option Addr) (m d : Nat) (zs1 : List Int) (h1 : IsRow .i64 w B m d zs1) :
    Calls Try.prog 5 #[.slice A n c, .slice B m d] w fun e w' => e = .returned (.bool true) ∧ Below w.heap.size w w' := by
  have HAl := h.len.1
  have HA := h.ints
  clear h
  generalize zs0.take n = a at HA HAl
  subst HAl
  have HBl := h1.len.1
  have HB := h1.ints
  clear h1
  generalize zs1.take m = b at HB HBl
  subst HBl
  by_cases hlong : 1048576 < a.length
  · go_enter Try.func5, Try.ntmps5
    go_wp2_with fail
    go_ret
    exact ⟨rfl, Below.refl _ _⟩
  have hlong : a.length ≤ 1048576 := by omega
  have hlong' : ¬ (((a.length : Nat) : Int) > 1048576) := by omega
  by_cases hlong : 1048576 < b.length
  · go_enter Try.func5, Try.ntmps5
    go_wp2_with fail
    go_ret
    exact ⟨rfl, Below.refl _ _⟩
  have hlong : b.length ≤ 1048576 := by omega
  have hlong' : ¬ (((b.length : Nat) : Int) > 1048576) := by omega
  have HA := Lib.hid HA
  have HB := Lib.hid HB
  have hE := Lib.hid (Env.start w)
  have hx := bestD_len a b
  have q1 : (bestN a b != bestN a b) = false := by simp
  have q2 : (bestOk a b != bestOk a b) = false := by simp
  go_enter Try.func5, Try.ntmps5
  go_wp2_with fail
  refine (toIntS_any _ _ _ a _ (hE.out.arg HA.out) (by omega)).mono ?_
  rintro e w' ⟨A', c', rfl, o, b⟩
  replace hE := Lib.hid (hE.out.push o b)
  clear o b
  go_wp2_with fail
  refine (toIntS_any _ _ _ b _ (hE.out.arg HB.out) (by omega)).mono ?_
  rintro e w' ⟨A', c', rfl, o, b⟩
  replace hE := Lib.hid (hE.out.push o b)
  clear o b
  go_wp2_with fail
  refine (bestSave_spec _ _ _ _ _ _ a b _ (hE.out.ints 1 rfl) (hE.out.ints 0 rfl) (by omega) (by omega) (hE.out.cap 1 rfl) (hE.out.cap 0 rfl)).mono ?_
  rintro e w' ⟨A', c', rfl, o, b⟩
  replace hE := Lib.hid (hE.out.push o b)
  clear o b
  go_wp2_with fail
  refine (toIntS_any _ _ _ a _ (hE.out.arg HA.out) (by omega)).mono ?_
  rintro e w' ⟨A', c', rfl, o, b⟩
  replace hE := Lib.hid (hE.out.push o b)
  clear o b
  go_wp2_with fail
  refine (toIntS_any _ _ _ b _ (hE.out.arg HB.out) (by omega)).mono ?_
  rintro e w' ⟨A', c', rfl, o, b⟩
  replace hE := Lib.hid (hE.out.push o b)
  clear o b
  go_wp2_with fail
  refine (bestSave_impl _ _ _ _ _ _ a b _ (hE.out.ints 1 rfl) (hE.out.ints 0 rfl) (by omega) (by omega) (hE.out.cap 1 rfl) (hE.out.cap 0 rfl)).mono ?_
  rintro e w' ⟨A', c', rfl, o, b⟩
  replace hE := Lib.hid (hE.out.push o b)
  clear o b
  go_wp2_with fail
  refine (eqIntS_same _ _ _ _ _ _ _ (hE.out.ints 0 rfl) (hE.out.ints 3 rfl) (by omega)).mono ?_
  rintro e w' ⟨rfl, b⟩
  replace hE := Lib.hid (hE.out.below b)
  clear b
  go_wp2_with fail
  refine (toIntS_any _ _ _ a _ (hE.out.arg HA.out) (by omega)).mono ?_
  rintro e w' ⟨A', c', rfl, o, b⟩
  replace hE := Lib.hid (hE.out.push o b)
  clear o b
  go_wp2_with fail
  refine (eqIntS_same _ _ _ _ _ _ _ (hE.out.ints 3 rfl) (hE.out.ints 0 rfl) (by omega)).mono ?_
  rintro e w' ⟨rfl, b⟩
  replace hE := Lib.hid (hE.out.below b)
  clear b
  go_wp2_with fail
  refine (toIntS_any _ _ _ b _ (hE.out.arg HB.out) (by omega)).mono ?_
  rintro e w' ⟨A', c', rfl, o, b⟩
  replace hE := Lib.hid (hE.out.push o b)
  clear o b
  go_wp2_with fail
  refine (eqIntS_same _ _ _ _ _ _ _ (hE.out.ints 3 rfl) (hE.out.ints 0 rfl) (by omega)).mono ?_
  rintro e w' ⟨rfl, b⟩
  replace hE := Lib.hid (hE.out.below b)
  clear b
  go_wp2_with fail
  refine (markIntS_own _ _ _ _ _ _ _ (hE.out.own 4 rfl) (by omega) (by omega) (by omega)).mono ?_
  rintro e w' ⟨rfl, o, g⟩
  replace hE := Lib.hid (hE.out.mark 4 rfl o g)
  clear o g
  go_wp2_with fail
  refine (markIntS_own _ _ _ _ _ _ _ (hE.out.own 3 rfl) (by omega) (by omega) (by omega)).mono ?_
  rintro e w' ⟨rfl, o, g⟩
  replace hE := Lib.hid (hE.out.mark 3 rfl o g)
  clear o g
  go_wp2_with fail
  refine (eqIntS_same _ _ _ _ _ _ _ (hE.out.ints 2 rfl) (hE.out.ints 5 rfl) (by omega)).mono ?_
  rintro e w' ⟨rfl, b⟩
  replace hE := Lib.hid (hE.out.below b)
  clear b
  go_wp2_with fail
  refine (markIntS_own _ _ _ _ _ _ _ (hE.out.own 2 rfl) (by omega) (by omega) (by omega)).mono ?_
  rintro e w' ⟨rfl, o, g⟩
  replace hE := Lib.hid (hE.out.mark 2 rfl o g)
  clear o g
  go_wp2_with fail
  refine (heldIntS_marks _ _ _ _ _ (hE.out.ints 2 rfl) (by omega) (by omega) (by omega)).mono ?_
  rintro e w' ⟨rfl, b⟩
  replace hE := Lib.hid (hE.out.below b)
  clear b
  go_wp2_with fail
  refine (toIntS_any _ _ _ a _ (hE.out.arg HA.out) (by omega)).mono ?_
  rintro e w' ⟨A', c', rfl, o, b⟩
  replace hE := Lib.hid (hE.out.push o b)
  clear o b
  go_wp2_with fail
  refine (toIntS_any _ _ _ b _ (hE.out.arg HB.out) (by omega)).mono ?_
  rintro e w' ⟨A', c', rfl, o, b⟩
  replace hE := Lib.hid (hE.out.push o b)
  clear o b
  go_wp2_with fail
  refine (bestSave_impl _ _ _ _ _ _ a b _ (hE.out.ints 1 rfl) (hE.out.ints 0 rfl) (by omega) (by omega) (hE.out.cap 1 rfl) (hE.out.cap 0 rfl)).mono ?_
  rintro e w' ⟨A', c', rfl, o, b⟩
  replace hE := Lib.hid (hE.out.push o b)
  clear o b
  go_wp2_with fail
  refine (eqIntS_same _ _ _ _ _ _ _ (hE.out.ints 0 rfl) (hE.out.ints 8 rfl) (by omega)).mono ?_
  rintro e w' ⟨rfl, b⟩
  replace hE := Lib.hid (hE.out.below b)
  clear b
  go_wp2_with fail
  refine (heldIntS_marks _ _ _ _ _ (hE.out.ints 5 rfl) (by omega) (by omega) (by omega)).mono ?_
  rintro e w' ⟨rfl, b⟩
  replace hE := Lib.hid (hE.out.below b)
  clear b
  go_wp2_with fail
  go_ret
  exact ⟨rfl, hE.out.bel⟩
theorem writeA_len (a b z : List Int) : (writeA a b z).length ≤ a.length + 36 := by
  have : (nextB a b z).length ≤ 36 := saveR_len _ _
  unfold writeA
  split
  · simp
  · split <;> omega
theorem writeB_len (a b z : List Int) : (writeB a b z).length ≤ b.length + 36 := by
  have : (nextB a b z).length ≤ 36 := saveR_len _ _
  unfold writeB
  split
  · simp
  · split <;> omega
set_option maxHeartbeats 4000000 in
theorem fnExactWriteSave_walk (w : World) (A : Option Addr) (n c : Nat) (zs0 : List Int) (h : IsRow .i64 w A n c zs0) (B : Option Addr) (m d : Nat) (zs1 : List Int) (h1 : IsRow .i64 w B m d zs1) (Z : Option Addr) (l k : Nat) (zs2 : List Int) (h2 : IsRow .i64 w Z l k zs2) :
    Calls Try.prog 8 #[.slice A n c, .slice B m d, .slice Z l k] w fun e w' => e = .returned (.bool true) ∧ Below w.heap.size w w' := by
  have HAl := h.len.1
  have HA := h.ints
  clear h
  generalize zs0.take n = a at HA HAl
  subst HAl
  have HBl := h1.len.1
  have HB := h1.ints
  clear h1
  generalize zs1.take m = b at HB HBl
  subst HBl
  have HZl := h2.len.1
  have HZ := h2.ints
  clear h2
  generalize zs2.take l = z at HZ HZl
  subst HZl
  by_cases hlong : 1048576 < a.length
  · go_enter Try.func8, Try.ntmps8
    go_wp2_with fail
    go_ret
    exact ⟨rfl, Below.refl _ _⟩
  have hlong : a.length ≤ 1048576 := by omega
  have hlong' : ¬ (((a.length : Nat) : Int) > 1048576) := by omega
  by_cases hlong : 1048576 < b.length
  · go_enter Try.func8, Try.ntmps8
    go_wp2_with fail
    go_ret
    exact ⟨rfl, Below.refl _ _⟩
  have hlong : b.length ≤ 1048576 := by omega
  have hlong' : ¬ (((b.length : Nat) : Int) > 1048576) := by omega
  by_cases hlong : 1048576 < z.length
  · go_enter Try.func8, Try.ntmps8
    go_wp2_with fail
    go_ret
    exact ⟨rfl, Below.refl _ _⟩
  have hlong : z.length ≤ 1048576 := by omega
  have hlong' : ¬ (((z.length : Nat) : Int) > 1048576) := by omega
  have HA := Lib.hid HA
  have HB := Lib.hid HB
  have HZ := Lib.hid HZ
  have hE := Lib.hid (Env.start w)
  have hx := writeA_len a b z
  have hy := writeB_len a b z
  go_enter Try.func8, Try.ntmps8
  go_wp2_with fail
  refine (toIntS_any _ _ _ a _ (hE.out.arg HA.out) (by omega)).mono ?_
  rintro e w' ⟨A', c', rfl, o, b⟩
  replace hE := Lib.hid (hE.out.push o b)
  clear o b
  go_wp2_with fail
  refine (toIntS_any _ _ _ b _ (hE.out.arg HB.out) (by omega)).mono ?_
  rintro e w' ⟨A', c', rfl, o, b⟩
  replace hE := Lib.hid (hE.out.push o b)
  clear o b
  go_wp2_with fail
  refine (toIntS_any _ _ _ z _ (hE.out.arg HZ.out) (by omega)).mono ?_
  rintro e w' ⟨A', c', rfl, o, b⟩
  replace hE := Lib.hid (hE.out.push o b)
  clear o b
  go_wp2_with fail
  refine (writeSave_spec _ _ _ _ _ _ _ _ _ a b z _ (hE.out.ints 2 rfl) (hE.out.ints 1 rfl) (hE.out.ints 0 rfl) (by omega) (by omega) (by omega) (hE.out.cap 2 rfl) (hE.out.cap 1 rfl) (hE.out.nil_ 2 rfl) (hE.out.nil_ 1 rfl) (hE.out.nil_ 0 rfl)).mono ?_
  rintro e w' ⟨A1, c1, A2, c2, l1, h1, l2, h2, rfl, ⟨o1, p1⟩, ⟨o2, p2⟩, q, b'⟩
  replace hE := Lib.hid (hE.out.push2 o1 p1 o2 p2 q b')
  clear o1 p1 o2 p2 q b'
  go_wp2_with fail
  refine (toIntS_any _ _ _ a _ (hE.out.arg HA.out) (by omega)).mono ?_
  rintro e w' ⟨A', c', rfl, o, b⟩
  replace hE := Lib.hid (hE.out.push o b)
  clear o b
  go_wp2_with fail
  refine (toIntS_any _ _ _ b _ (hE.out.arg HB.out) (by omega)).mono ?_
  rintro e w' ⟨A', c', rfl, o, b⟩
  replace hE := Lib.hid (hE.out.push o b)
  clear o b
  go_wp2_with fail
  refine (toIntS_any _ _ _ z _ (hE.out.arg HZ.out) (by omega)).mono ?_
  rintro e w' ⟨A', c', rfl, o, b⟩
  replace hE := Lib.hid (hE.out.push o b)
  clear o b
  go_wp2_with fail
  refine (writeSave_impl _ _ _ _ _ _ _ _ _ a b z _ (hE.out.ints 2 rfl) (hE.out.ints 1 rfl) (hE.out.ints 0 rfl) (by omega) (by omega) (by omega) (hE.out.cap 2 rfl) (hE.out.cap 1 rfl) (hE.out.nil_ 2 rfl) (hE.out.nil_ 1 rfl) (hE.out.nil_ 0 rfl)).mono ?_
  rintro e w' ⟨A1, c1, A2, c2, l1, h1, l2, h2, rfl, ⟨o1, p1⟩, ⟨o2, p2⟩, q, b'⟩
  replace hE := Lib.hid (hE.out.push2 o1 p1 o2 p2 q b')
  clear o1 p1 o2 p2 q b'
  go_wp2_with fail
  refine (eqIntS_same _ _ _ _ _ _ _ (hE.out.ints 0 rfl) (hE.out.ints 5 rfl) (by omega)).mono ?_
  rintro e w' ⟨rfl, b⟩
  replace hE := Lib.hid (hE.out.below b)
  clear b
  go_wp2_with fail
  refine (eqIntS_same _ _ _ _ _ _ _ (hE.out.ints 1 rfl) (hE.out.ints 6 rfl) (by omega)).mono ?_
  rintro e w' ⟨rfl, b⟩
  replace hE := Lib.hid (hE.out.below b)
  clear b
  go_wp2_with fail
  refine (toIntS_any _ _ _ a _ (hE.out.arg HA.out) (by omega)).mono ?_
  rintro e w' ⟨A', c', rfl, o, b⟩
  replace hE := Lib.hid (hE.out.push o b)
  clear o b
  go_wp2_with fail
  refine (eqIntS_same _ _ _ _ _ _ _ (hE.out.ints 5 rfl) (hE.out.ints 0 rfl) (by omega)).mono ?_
  rintro e w' ⟨rfl, b⟩
  replace hE := Lib.hid (hE.out.below b)
  clear b
  go_wp2_with fail
  refine (toIntS_any _ _ _ b _ (hE.out.arg HB.out) (by omega)).mono ?_
  rintro e w' ⟨A', c', rfl, o, b⟩
  replace hE := Lib.hid (hE.out.push o b)
  clear o b
  go_wp2_with fail
  refine (eqIntS_same _ _ _ _ _ _ _ (hE.out.ints 5 rfl) (hE.out.ints 0 rfl) (by omega)).mono ?_
  rintro e w' ⟨rfl, b⟩
  replace hE := Lib.hid (hE.out.below b)
  clear b
  go_wp2_with fail
  refine (toIntS_any _ _ _ z _ (hE.out.arg HZ.out) (by omega)).mono ?_
  rintro e w' ⟨A', c', rfl, o, b⟩
  replace hE := Lib.hid (hE.out.push o b)
  clear o b
  go_wp2_with fail
  refine (eqIntS_same _ _ _ _ _ _ _ (hE.out.ints 5 rfl) (hE.out.ints 0 rfl) (by omega)).mono ?_
  rintro e w' ⟨rfl, b⟩
  replace hE := Lib.hid (hE.out.below b)
  clear b
  go_wp2_with fail
  refine (markIntS_own _ _ _ _ _ _ _ (hE.out.own 7 rfl) (by omega) (by omega) (by omega)).mono ?_
  rintro e w' ⟨rfl, o, g⟩
  replace hE := Lib.hid (hE.out.mark 7 rfl o g)
  clear o g
  go_wp2_with fail
  refine (markIntS_own _ _ _ _ _ _ _ (hE.out.own 6 rfl) (by omega) (by omega) (by omega)).mono ?_
  rintro e w' ⟨rfl, o, g⟩
  replace hE := Lib.hid (hE.out.mark 6 rfl o g)
  clear o g
  go_wp2_with fail
  refine (markIntS_own _ _ _ _ _ _ _ (hE.out.own 5 rfl) (by omega) (by omega) (by omega)).mono ?_
  rintro e w' ⟨rfl, o, g⟩
  replace hE := Lib.hid (hE.out.mark 5 rfl o g)
  clear o g
  go_wp2_with fail
  refine (eqIntS_same _ _ _ _ _ _ _ (hE.out.ints 3 rfl) (hE.out.ints 8 rfl) (by omega)).mono ?_
  rintro e w' ⟨rfl, b⟩
  replace hE := Lib.hid (hE.out.below b)
  clear b
  go_wp2_with fail
  refine (eqIntS_same _ _ _ _ _ _ _ (hE.out.ints 4 rfl) (hE.out.ints 9 rfl) (by omega)).mono ?_
  rintro e w' ⟨rfl, b⟩
  replace hE := Lib.hid (hE.out.below b)
  clear b
  go_wp2_with fail
  refine (markIntS_own _ _ _ _ _ _ _ (hE.out.own 3 rfl) (by omega) (by omega) (by omega)).mono ?_
  rintro e w' ⟨rfl, o, g⟩
  replace hE := Lib.hid (hE.out.mark 3 rfl o g)
  clear o g
  go_wp2_with fail
  refine (markIntS_own _ _ _ _ _ _ _ (hE.out.own 4 rfl) (by omega) (by omega) (by omega)).mono ?_
  rintro e w' ⟨rfl, o, g⟩
  replace hE := Lib.hid (hE.out.mark 4 rfl o g)
  clear o g
  go_wp2_with fail
  refine (heldIntS_marks _ _ _ _ _ (hE.out.ints 3 rfl) (by omega) (by omega) (by omega)).mono ?_
  rintro e w' ⟨rfl, b⟩
  replace hE := Lib.hid (hE.out.below b)
  clear b
  go_wp2_with fail
  refine (heldIntS_marks _ _ _ _ _ (hE.out.ints 4 rfl) (by omega) (by omega) (by omega)).mono ?_
  rintro e w' ⟨rfl, b⟩
  replace hE := Lib.hid (hE.out.below b)
  clear b
  go_wp2_with fail
  refine (toIntS_any _ _ _ a _ (hE.out.arg HA.out) (by omega)).mono ?_
  rintro e w' ⟨A', c', rfl, o, b⟩
  replace hE := Lib.hid (hE.out.push o b)
  clear o b
  go_wp2_with fail
  refine (toIntS_any _ _ _ b _ (hE.out.arg HB.out) (by omega)).mono ?_
  rintro e w' ⟨A', c', rfl, o, b⟩
  replace hE := Lib.hid (hE.out.push o b)
  clear o b
  go_wp2_with fail
  refine (toIntS_any _ _ _ z _ (hE.out.arg HZ.out) (by omega)).mono ?_
  rintro e w' ⟨A', c', rfl, o, b⟩
  replace hE := Lib.hid (hE.out.push o b)
  clear o b
  go_wp2_with fail
  refine (writeSave_impl _ _ _ _ _ _ _ _ _ a b z _ (hE.out.ints 2 rfl) (hE.out.ints 1 rfl) (hE.out.ints 0 rfl) (by omega) (by omega) (by omega) (hE.out.cap 2 rfl) (hE.out.cap 1 rfl) (hE.out.nil_ 2 rfl) (hE.out.nil_ 1 rfl) (hE.out.nil_ 0 rfl)).mono ?_
  rintro e w' ⟨A1, c1, A2, c2, l1, h1, l2, h2, rfl, ⟨o1, p1⟩, ⟨o2, p2⟩, q, b'⟩
  replace hE := Lib.hid (hE.out.push2 o1 p1 o2 p2 q b')
  clear o1 p1 o2 p2 q b'
  go_wp2_with fail
  refine (eqIntS_same _ _ _ _ _ _ _ (hE.out.ints 0 rfl) (hE.out.ints 13 rfl) (by omega)).mono ?_
  rintro e w' ⟨rfl, b⟩
  replace hE := Lib.hid (hE.out.below b)
  clear b
  go_wp2_with fail
  refine (eqIntS_same _ _ _ _ _ _ _ (hE.out.ints 1 rfl) (hE.out.ints 14 rfl) (by omega)).mono ?_
  rintro e w' ⟨rfl, b⟩
  replace hE := Lib.hid (hE.out.below b)
  clear b
  go_wp2_with fail
  refine (heldIntS_marks _ _ _ _ _ (hE.out.ints 8 rfl) (by omega) (by omega) (by omega)).mono ?_
  rintro e w' ⟨rfl, b⟩
  replace hE := Lib.hid (hE.out.below b)
  clear b
  go_wp2_with fail
  refine (heldIntS_marks _ _ _ _ _ (hE.out.ints 9 rfl) (by omega) (by omega) (by omega)).mono ?_
  rintro e w' ⟨rfl, b⟩
  replace hE := Lib.hid (hE.out.below b)
  clear b
  go_wp2_with fail
  go_ret
  exact ⟨rfl, hE.out.bel⟩
end Go.Proofs.Ytgmcbpnnololmaa
