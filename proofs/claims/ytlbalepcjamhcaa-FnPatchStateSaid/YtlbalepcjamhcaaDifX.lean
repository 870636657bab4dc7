/-
  The law that the program's DiffStates returns what the reference's returns: its walk. No condition.
-/
import Derived.Test.YtlbalepcjamhcaaDifI
import Derived.Test.YtlbalepcjamhcaaDifS
import Derived.Test.YtlbalepcjamhcaaPatM
namespace Go.Proofs.Ytlbalepcjamhcaa
open Go.RowKit
set_option linter.unusedVariables false
set_option linter.unusedSimpArgs false
attribute [local go_sem ↓] Go.wp_at_zero Go.wp_at_succ
def ZP (lo hi : Nat) (A : Option Addr) (c : Nat) (os : List TP) (vs : List Value) (w : World) : Prop := POwn w lo hi A c os vs
section
variable {w0 w w' : World} {L : List Zn} {A : Option Addr} {c lo hi : Nat} {os : List TP} {vs : List Value}
theorem Zones.pushP (h : Zones w0 w L) (o : POwn w' w.heap.size w'.heap.size A c os vs) (b : Below w.heap.size w w') : Zones w0 w' (⟨w.heap.size, w'.heap.size, ZP w.heap.size w'.heap.size A c os vs⟩ :: L) := h.push (P := ZP w.heap.size w'.heap.size A c os vs) o (local_POwn _ _ _ _ _ _) b
theorem Zones.pown (h : Zones w0 w L) (i : Nat) (hr : L[i]? = some ⟨lo, hi, ZP lo hi A c os vs⟩) : POwn w lo hi A c os vs := h.at_ i hr
theorem Zones.prd (h : Zones w0 w L) (i : Nat) (hr : L[i]? = some ⟨lo, hi, ZP lo hi A c os vs⟩) : PRd w A os.length os := POwn.rd (h.at_ i hr)
theorem Zones.prdM {k0 : Int} (h : Zones w0 w L) (i : Nat) (hr : L[i]? = some ⟨lo, hi, ZP lo hi A c ((List.range os.length).map (mkP k0 os)) vs⟩) : PRd w A os.length ((List.range os.length).map (mkP k0 os)) := by
  have := POwn.rd (h.at_ i hr)
  simpa using this
theorem Zones.markP {ys : List TP} (h : Zones w0 w L) (i : Nat) (hr : L[i]? = some ⟨lo, hi, ZP lo hi A c os vs⟩) (o : POwn w' lo hi A c ys vs) (g : Touch lo hi w w') : Zones w0 w' (L.set i ⟨lo, hi, ZP lo hi A c ys vs⟩) :=
  h.mark (P' := ZP lo hi A c ys vs) i hr o (local_POwn _ _ _ _ _ _) g
end
theorem dL_sum : ∀ (a b : List Int) (g : Nat) (c : Option (List Int)), sumL (dL g c a b) ≤ (c.getD []).length + b.length
  | [], b, g, none => by simp [dL, sumL]
  | [], b, g, some c => by simp [dL, sumL]
  | x :: xs, [], g, none => by simp [dL, sumL]
  | x :: xs, [], g, some c => by simp [dL, sumL]
  | x :: xs, y :: ys, g, none => by
    simp only [dL]
    split
    · have := dL_sum xs ys (g + 1) none; simp at this ⊢; omega
    · have := dL_sum xs ys g (some [y]); simp at this ⊢; omega
  | x :: xs, y :: ys, g, some c => by
    simp only [dL]
    split
    · have := dL_sum xs ys 1 none
      simp [sumL] at this ⊢; omega
    · have := dL_sum xs ys g (some (c ++ [y])); simp at this ⊢; omega
theorem diffR_sz (a b : List Int) : pszA (diffR a b) ≤ 2000 := by
  unfold diffR
  split
  · rename_i h
    simp only [stB, Bool.and_eq_true, decide_eq_true_eq] at h
    have h1 := dL_sum a b 0 none
    have h2 := dL_len a b 0 none
    simp at h1
    unfold pszA
    omega
  · simp [pszA, sumL]
theorem psz_each {ts : List TP} (h : pszA ts ≤ 1000000000) : ∀ k, k < ts.length → (ts.getD k (0, [])).2.length ≤ 1000000000 := fun k hk => by
  have := sumL_get hk
  unfold pszA at h
  omega
theorem psz_len {ts : List TP} {m : Nat} (h : pszA ts ≤ m) : ts.length ≤ m := by unfold pszA at h; omega
set_option maxHeartbeats 2000000 in
theorem fnExactDiffStates_walk (w : World) (A : Option Addr) (n c : Nat) (za : List Int) (h : IsRow .i64 w A n c za) (B : Option Addr) (m d : Nat) (zb : List Int) (h2 : IsRow .i64 w B m d zb) :
    Calls Try.prog 5 #[.slice A n c, .slice B m d] w fun e w' => e = .returned (.bool true) ∧ Below w.heap.size w w' := by
  have hl := h.len.1
  have hl2 := h2.len.1
  have H := h.ints
  have H2 := h2.ints
  clear h h2
  generalize za.take n = a at H hl
  generalize zb.take m = b at H2 hl2
  subst hl hl2
  generalize hN : a.length = n at H
  generalize hM : b.length = m at H2
  by_cases hlong : 1048576 < n
  · go_enter Try.func5, Try.ntmps5
    go_wp2_with fail
    go_ret
    exact ⟨rfl, Below.refl _ _⟩
  by_cases hlong2 : 1048576 < m
  · go_enter Try.func5, Try.ntmps5
    go_wp2_with fail
    go_ret
    exact ⟨rfl, Below.refl _ _⟩
  subst hN hM
  have q0 : ¬ ((a.length : Int) > 1048576) := by omega
  have q1 : ¬ ((b.length : Int) > 1048576) := by omega
  have H := Lib.hid H
  have H2 := Lib.hid H2
  have hZ := Lib.hid (Zones.start w)
  have hz := diffR_sz a b
  have hlen : (diffR a b).length ≤ 1000000000 := psz_len (m := 1000000000) (by omega)
  have hea := Lib.hid (psz_each (ts := diffR a b) (by omega))
  have bd := mkAt_bd (os := diffR a b) (k0 := 1) (diffR a b).length (Nat.le_refl _) (by omega) (by omega) (by omega)
  have hn1 : ¬ (mkAt 1 (diffR a b) (diffR a b).length < 0) := by omega
  have hn2 : (mkAt 1 (diffR a b) (diffR a b).length != mkAt 1 (diffR a b) (diffR a b).length) = false := by simp
  have hn3 : ¬ ((1 : Int) + (a.length : Int) + (b.length : Int) < 0) := by omega
  go_enter Try.func5, Try.ntmps5
  go_wp2_with fail
  refine (toIntS_any _ _ _ a _ (hZ.out.arg H.out) (by omega)).mono ?_
  rintro e w' ⟨A', c', rfl, o, b⟩
  replace hZ := Lib.hid (hZ.out.pushI o b)
  clear o b
  go_wp2_with fail
  refine (toIntS_any _ _ _ b _ (hZ.out.arg H2.out) (by omega)).mono ?_
  rintro e w' ⟨A', c', rfl, o, b⟩
  replace hZ := Lib.hid (hZ.out.pushI o b)
  clear o b
  go_wp2_with fail
  refine (diffStates_spec _ _ _ _ _ _ a b _ (hZ.out.ints 1 rfl) (hZ.out.ints 0 rfl) (by omega) (by omega) (hZ.out.cap 0 rfl)).mono ?_
  rintro e w' ⟨A', c', vs, rfl, o, b⟩
  replace hZ := Lib.hid (hZ.out.pushP o b)
  clear o b
  go_wp2_with fail
  refine (toIntS_any _ _ _ a _ (hZ.out.arg H.out) (by omega)).mono ?_
  rintro e w' ⟨A', c', rfl, o, b⟩
  replace hZ := Lib.hid (hZ.out.pushI o b)
  clear o b
  go_wp2_with fail
  refine (toIntS_any _ _ _ b _ (hZ.out.arg H2.out) (by omega)).mono ?_
  rintro e w' ⟨A', c', rfl, o, b⟩
  replace hZ := Lib.hid (hZ.out.pushI o b)
  clear o b
  go_wp2_with fail
  refine (diffStates_impl _ _ _ _ _ _ a b _ (hZ.out.ints 1 rfl) (hZ.out.ints 0 rfl) (by omega) (by omega) (hZ.out.cap 0 rfl)).mono ?_
  rintro e w' ⟨A', c', vs, rfl, o, b⟩
  replace hZ := Lib.hid (hZ.out.pushP o b)
  clear o b
  go_wp2_with fail
  refine (eqPatchS_same _ _ _ _ _ _ _ (hZ.out.prd 0 rfl) (hZ.out.prd 3 rfl) hlen hea.out).mono ?_
  rintro e w' ⟨rfl, b⟩
  replace hZ := Lib.hid (hZ.out.below b)
  clear b
  go_wp2_with fail
  refine (toIntS_any _ _ _ a _ (hZ.out.arg H.out) (by omega)).mono ?_
  rintro e w' ⟨A', c', rfl, o, b⟩
  replace hZ := Lib.hid (hZ.out.pushI o b)
  clear o b
  go_wp2_with fail
  refine (eqIntS_same _ _ _ _ _ _ _ (hZ.out.ints 3 rfl) (hZ.out.ints 0 rfl) (by omega)).mono ?_
  rintro e w' ⟨rfl, b⟩
  replace hZ := Lib.hid (hZ.out.below b)
  clear b
  go_wp2_with fail
  refine (toIntS_any _ _ _ b _ (hZ.out.arg H2.out) (by omega)).mono ?_
  rintro e w' ⟨A', c', rfl, o, b⟩
  replace hZ := Lib.hid (hZ.out.pushI o b)
  clear o b
  go_wp2_with fail
  refine (eqIntS_same _ _ _ _ _ _ _ (hZ.out.ints 3 rfl) (hZ.out.ints 0 rfl) (by omega)).mono ?_
  rintro e w' ⟨rfl, b⟩
  replace hZ := Lib.hid (hZ.out.below b)
  clear b
  go_wp2_with fail
  refine (markIntS_own _ _ _ _ _ 1 _ (hZ.out.own 4 rfl) (by omega) (by omega) (by omega)).mono ?_
  rintro e w' ⟨rfl, o, g⟩
  replace hZ := Lib.hid (hZ.out.markI 4 rfl o g)
  clear o g
  go_wp2_with fail
  refine (markIntS_own _ _ _ _ _ (1 + (a.length : Int)) _ (hZ.out.own 3 rfl) (by omega) (by omega) (by omega)).mono ?_
  rintro e w' ⟨rfl, o, g⟩
  replace hZ := Lib.hid (hZ.out.markI 3 rfl o g)
  clear o g
  go_wp2_with fail
  refine (eqPatchS_same _ _ _ _ _ _ _ (hZ.out.prd 2 rfl) (hZ.out.prd 5 rfl) hlen hea.out).mono ?_
  rintro e w' ⟨rfl, b⟩
  replace hZ := Lib.hid (hZ.out.below b)
  clear b
  go_wp2_with fail
  refine (markPatchS_own _ _ _ _ _ _ 1 _ (hZ.out.pown 2 rfl) (by omega) (by omega) (by omega)).mono ?_
  rintro e w' ⟨rfl, o, g⟩
  replace hZ := Lib.hid (hZ.out.markP 2 rfl o g)
  clear o g
  go_wp2_with fail
  refine (heldPatchS_marks _ _ _ _ 1 _ rfl (hZ.out.prdM 2 rfl) (by omega) (by omega) (by omega)).mono ?_
  rintro e w' ⟨rfl, b⟩
  replace hZ := Lib.hid (hZ.out.below b)
  clear b
  go_wp2_with fail
  refine (toIntS_any _ _ _ a _ (hZ.out.arg H.out) (by omega)).mono ?_
  rintro e w' ⟨A', c', rfl, o, b⟩
  replace hZ := Lib.hid (hZ.out.pushI o b)
  clear o b
  go_wp2_with fail
  refine (toIntS_any _ _ _ b _ (hZ.out.arg H2.out) (by omega)).mono ?_
  rintro e w' ⟨A', c', rfl, o, b⟩
  replace hZ := Lib.hid (hZ.out.pushI o b)
  clear o b
  go_wp2_with fail
  refine (diffStates_impl _ _ _ _ _ _ a b _ (hZ.out.ints 1 rfl) (hZ.out.ints 0 rfl) (by omega) (by omega) (hZ.out.cap 0 rfl)).mono ?_
  rintro e w' ⟨A', c', vs, rfl, o, b⟩
  replace hZ := Lib.hid (hZ.out.pushP o b)
  clear o b
  go_wp2_with fail
  refine (eqPatchS_same _ _ _ _ _ _ _ (hZ.out.prd 0 rfl) (hZ.out.prd 8 rfl) hlen hea.out).mono ?_
  rintro e w' ⟨rfl, b⟩
  replace hZ := Lib.hid (hZ.out.below b)
  clear b
  go_wp2_with fail
  refine (heldPatchS_marks _ _ _ _ 1 _ rfl (hZ.out.prdM 5 rfl) (by omega) (by omega) (by omega)).mono ?_
  rintro e w' ⟨rfl, b⟩
  replace hZ := Lib.hid (hZ.out.below b)
  clear b
  go_wp2_with fail
  go_ret
  exact ⟨rfl, hZ.out.bel⟩
end Go.Proofs.Ytlbalepcjamhcaa
