/-
  The law that the program's PatchSize returns what the reference's returns: its walk. No condition.
-/
import Derived.Test.YtlbalepcjamhcaaPatF
import Derived.Test.YtlbalepcjamhcaaOpP
namespace Go.Proofs.Ytlbalepcjamhcaa
open Go.RowKit
set_option linter.unusedVariables false
set_option linter.unusedSimpArgs false
set_option maxHeartbeats 2000000 in
theorem fnExactPatchSize_walk (w : World) (A : Option Addr) (n c : Nat) (ts : List TP) (h : PRd w A n ts) (hn : n ≤ 9223372036854775807) (hd : ∀ k, k < n → (ts.getD k (0, [])).2.length ≤ 9223372036854775807) :
    Calls Try.prog 3 #[.slice A n c] w fun e w' => e = .returned (.bool true) ∧ Below w.heap.size w w' := by
  have hl := h.1
  have hs0 := szPatchS_any A n c ts 1048576 w h (by omega) (by omega) hn hd
  have HX := Lib.hid h
  have HS := Lib.hid hs0
  clear h hs0 hd
  by_cases hlong : szR 1048576 ts < 0
  · go_enter Try.func3, Try.ntmps3
    go_wp2_with fail
    refine (HS.out).mono ?_
    rintro e w1 ⟨rfl, b1⟩
    go_wp2_with fail
    go_ret
    exact ⟨rfl, b1⟩
  obtain ⟨hb1, hb2⟩ := szR_ok hlong
  have hsz : pszA ts ≤ 1000000000 := by unfold pszA; omega
  have hn2 : n ≤ 1000000000 := by omega
  have hd2 : ∀ k, k < n → (ts.getD k (0, [])).2.length ≤ 1000000000 := fun k hk => by
    have := sumL_get (ts := ts) (k := k) (by omega)
    omega
  have hq : (pszA ts != pszA ts) = false := by simp
  replace hd2 := Lib.hid hd2
  replace hsz := Lib.hid hsz
  clear hb1 hb2
  go_enter Try.func3, Try.ntmps3
  go_wp2_with fail
  refine (HS.out).mono ?_
  rintro e w1 ⟨rfl, b⟩
  have HB := Lib.hid b
  clear b
  go_wp2_with fail
  refine (toPatchS_any A n c ts _ (HX.out.below HB.out) hn2 hd2.out).mono ?_
  rintro e w2 ⟨A2, c2, rfl, p2, b⟩
  replace HB := Lib.hid (below_step HB.out b HB.out.size)
  replace p2 := Lib.hid p2
  clear b
  go_wp2_with fail
  refine (patchSize_spec A2 n c2 ts _ p2.out hsz.out).mono ?_
  rintro e w3 ⟨rfl, b⟩
  replace HB := Lib.hid (below_step HB.out b HB.out.size)
  clear b p2
  go_wp2_with fail
  refine (toPatchS_any A n c ts _ (HX.out.below HB.out) hn2 hd2.out).mono ?_
  rintro e w4 ⟨A4, c4, rfl, p4, b⟩
  replace HB := Lib.hid (below_step HB.out b HB.out.size)
  replace p4 := Lib.hid p4
  clear b
  go_wp2_with fail
  refine (patchSize_impl A4 n c4 ts _ p4.out hsz.out).mono ?_
  rintro e w5 ⟨rfl, b⟩
  replace HB := Lib.hid (below_step HB.out b HB.out.size)
  replace p4 := Lib.hid (p4.out.below b)
  clear b
  go_wp2_with fail
  refine (toPatchS_any A n c ts _ (HX.out.below HB.out) hn2 hd2.out).mono ?_
  rintro e w6 ⟨A6, c6, rfl, p6, b⟩
  replace HB := Lib.hid (below_step HB.out b HB.out.size)
  replace p4 := Lib.hid (p4.out.below b)
  replace p6 := Lib.hid p6
  clear b
  go_wp2_with fail
  refine (eqPatchS_same A4 A6 n c4 c6 ts _ p4.out p6.out hn2 hd2.out).mono ?_
  rintro e w7 ⟨rfl, b⟩
  replace HB := Lib.hid (below_step HB.out b HB.out.size)
  clear b
  go_wp2_with fail
  go_ret
  exact ⟨rfl, HB.out⟩
end Go.Proofs.Ytlbalepcjamhcaa
