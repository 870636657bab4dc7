/-
  The law that the program's KeepState returns what the reference's returns: its walk. No condition.
-/
import Derived.Test.YtmdebahhlgfboaaKeeS
import Derived.Test.YtmdebahhlgfboaaOpG
namespace Go.Proofs.Ytmdebahhlgfboaa
open Go.RowKit
set_option linter.unusedVariables false
set_option linter.unusedSimpArgs false
attribute [local go_sem ↓] Go.wp_at_zero Go.wp_at_succ
theorem sumR_bd : ∀ (os : List (List Int)) (m : Nat), (∀ x ∈ os, x.length ≤ m) → sumR os ≤ os.length * m
  | [], m, _ => by simp [sumR]
  | o :: os, m, h => by
    have h1 := sumR_bd os m fun x hx => h x (List.mem_cons_of_mem _ hx)
    have h2 := h o (List.mem_cons_self ..)
    simp only [sumR, List.map_cons, List.sum_cons, List.length_cons] at h1 ⊢
    rw [Nat.add_mul]
    omega
theorem keepR_bd (os : List (List Int)) (st : List Int) (sz : Int) : (keepR os st sz).length ≤ 17 ∧ ∀ x ∈ keepR os st sz, x.length ≤ 512 := by
  unfold keepR
  split
  · rename_i h
    simp only [Bool.and_eq_true, decide_eq_true_eq, List.all_eq_true] at h
    obtain ⟨h1, h2, h3, h4⟩ := h
    refine ⟨by simp; omega, fun x hx => ?_⟩
    have hx := List.mem_of_mem_drop hx
    rcases List.mem_append.1 hx with hx | hx
    · have := h4 x hx
      simp only [stB, Bool.and_eq_true, decide_eq_true_eq] at this
      exact this.1
    · simp at hx
      subst hx
      simp only [stB, Bool.and_eq_true, decide_eq_true_eq] at h2
      exact h2.1
  · simp
theorem keepR_each {os : List (List Int)} {m : Nat} (h : ∀ x ∈ os, x.length ≤ m) : ∀ k, k < os.length → (os.getD k []).length ≤ m := fun k hk => by
  rw [List.getD_eq_getElem?_getD, List.getElem?_eq_getElem hk]
  exact h _ (List.getElem_mem hk)
set_option maxHeartbeats 2000000 in
theorem fnExactKeepState_walk (w : World) (A : Option Addr) (n c : Nat) (os : List (List Int)) (h : GRd w A n os) (hn : n ≤ 9223372036854775807) (hd : ∀ k, k < n → (os.getD k []).length ≤ 9223372036854775807) (B : Option Addr) (m d : Nat) (zb : List Int) (h2 : IsRow .i64 w B m d zb) (sz : Int) (_ : (Lit.int .i64 sz).wf = true) :
    Calls Try.prog 12 #[.slice A n c, .slice B m d, .int .i64 sz] w fun e w' => e = .returned (.bool true) ∧ Below w.heap.size w w' := by
  have hl2 := h2.len.1
  have H2 := h2.ints
  clear h2
  generalize zb.take m = st at H2 hl2
  subst hl2
  generalize hM : st.length = m at H2
  by_cases hlong2 : 1048576 < m
  · go_enter Try.func12, Try.ntmps12
    go_wp2_with fail
    go_ret
    exact ⟨rfl, Below.refl _ _⟩
  subst hM
  have q1 : ¬ ((st.length : Int) > 1048576) := by omega
  have hl := h.1
  have hs0 := szIntSS_any A n c os 1048576 w h (by omega) (by omega) hn hd
  have HX := Lib.hid h
  have HS := Lib.hid hs0
  clear h hs0 hd
  by_cases hlong : szGR 1048576 os < 0
  · go_enter Try.func12, Try.ntmps12
    go_wp2_with fail
    refine (HS.out).mono ?_
    rintro e w1 ⟨rfl, b1⟩
    go_wp2_with fail
    go_ret
    exact ⟨rfl, b1⟩
  obtain ⟨hb1, hb2⟩ := szGR_ok hlong
  subst hl
  have hm : os.length ≤ 1000000000 := by omega
  have hsm : sumR os ≤ 100000000 := by omega
  have hea := Lib.hid (fun k (hk : k < os.length) => show (os.getD k []).length ≤ 1000000000 by have := sumR_get hk; omega)
  have heb := Lib.hid (fun k (hk : k < os.length) => show (os.getD k []).length ≤ 2000000 by have := sumR_get hk; omega)
  obtain ⟨hr1, hr2⟩ := keepR_bd os st sz
  have hrs : sumR (keepR os st sz) ≤ 100000000 := by have := sumR_bd _ _ hr2; omega
  have hre := Lib.hid (fun k (hk : k < (keepR os st sz).length) => show ((keepR os st sz).getD k []).length ≤ 1000000000 by have := keepR_each hr2 k hk; omega)
  have bd := gkAt_bd (os := keepR os st sz) (k0 := 1) (keepR os st sz).length hrs (by omega) (by omega)
  have bd2 := gkAt_bd (os := os) (k0 := 1) os.length hsm (by omega) (by omega)
  have hn1 : ¬ (gkAt 1 (keepR os st sz) (keepR os st sz).length < 0) := by omega
  have hn2 : (gkAt 1 (keepR os st sz) (keepR os st sz).length != gkAt 1 (keepR os st sz) (keepR os st sz).length) = false := by simp
  have hn3 : ¬ (gkAt 1 os os.length + (st.length : Int) < 0) := by omega
  have hrl : (keepR os st sz).length ≤ 1000000000 := by omega
  have hm8 : os.length ≤ 100000000 := by omega
  clear hb1 hb2 hr2
  have H := Lib.hid H2
  have hZ := Lib.hid (Zones.start w)
  go_enter Try.func12, Try.ntmps12
  go_wp2_with fail
  refine (HS.out).mono ?_
  rintro e w1 ⟨rfl, b1⟩
  replace hZ := Lib.hid (hZ.out.below b1)
  clear b1
  go_wp2_with fail
  refine (toIntSS_own _ _ _ os _ (HX.out.below hZ.out.bel) hm hea.out).mono ?_
  rintro e w' ⟨A', c', vs, rfl, o, b⟩
  replace hZ := Lib.hid (hZ.out.pushG o b)
  clear o b
  go_wp2_with fail
  refine (toIntS_any _ _ _ st _ (hZ.out.arg H.out) (by omega)).mono ?_
  rintro e w' ⟨A', c', rfl, o, b⟩
  replace hZ := Lib.hid (hZ.out.pushI o b)
  clear o b
  go_wp2_with fail
  refine (keepState_spec _ _ _ _ _ _ os st sz _ (hZ.out.grd 1 rfl) (hZ.out.ints 0 rfl) (hZ.out.nil_ 0 rfl) (by omega) hm heb.out).mono ?_
  rintro e w' ⟨A', c', vs, rfl, o, b⟩
  replace hZ := Lib.hid (hZ.out.pushG o b)
  clear o b
  go_wp2_with fail
  refine (toIntSS_own _ _ _ os _ (HX.out.below hZ.out.bel) hm hea.out).mono ?_
  rintro e w' ⟨A', c', vs, rfl, o, b⟩
  replace hZ := Lib.hid (hZ.out.pushG o b)
  clear o b
  go_wp2_with fail
  refine (toIntS_any _ _ _ st _ (hZ.out.arg H.out) (by omega)).mono ?_
  rintro e w' ⟨A', c', rfl, o, b⟩
  replace hZ := Lib.hid (hZ.out.pushI o b)
  clear o b
  go_wp2_with fail
  refine (keepState_impl _ _ _ _ _ _ os st sz _ (hZ.out.grd 1 rfl) (hZ.out.ints 0 rfl) (hZ.out.nil_ 0 rfl) (by omega) hm heb.out).mono ?_
  rintro e w' ⟨A', c', vs, rfl, o, b⟩
  replace hZ := Lib.hid (hZ.out.pushG o b)
  clear o b
  go_wp2_with fail
  refine (eqIntSS_same _ _ _ _ _ _ _ (hZ.out.grd 0 rfl) (hZ.out.grd 3 rfl) hrl hre.out).mono ?_
  rintro e w' ⟨rfl, b⟩
  replace hZ := Lib.hid (hZ.out.below b)
  clear b
  go_wp2_with fail
  refine (toIntSS_own _ _ _ os _ (HX.out.below hZ.out.bel) hm hea.out).mono ?_
  rintro e w' ⟨A', c', vs, rfl, o, b⟩
  replace hZ := Lib.hid (hZ.out.pushG o b)
  clear o b
  go_wp2_with fail
  refine (eqIntSS_same _ _ _ _ _ _ _ (hZ.out.grd 3 rfl) (hZ.out.grd 0 rfl) hm hea.out).mono ?_
  rintro e w' ⟨rfl, b⟩
  replace hZ := Lib.hid (hZ.out.below b)
  clear b
  go_wp2_with fail
  refine (toIntS_any _ _ _ st _ (hZ.out.arg H.out) (by omega)).mono ?_
  rintro e w' ⟨A', c', rfl, o, b⟩
  replace hZ := Lib.hid (hZ.out.pushI o b)
  clear o b
  go_wp2_with fail
  refine (eqIntS_same _ _ _ _ _ _ _ (hZ.out.ints 3 rfl) (hZ.out.ints 0 rfl) (by omega)).mono ?_
  rintro e w' ⟨rfl, b⟩
  replace hZ := Lib.hid (hZ.out.below b)
  clear b
  go_wp2_with fail
  refine (markIntSS_own _ _ _ _ _ _ 1 _ (hZ.out.gown 4 rfl) (by omega) (by omega) (by omega) hsm).mono ?_
  rintro e w' ⟨rfl, o, g⟩
  replace hZ := Lib.hid (hZ.out.markG 4 rfl o g)
  clear o g
  go_wp2_with fail
  refine (markIntS_own _ _ _ _ _ (gkAt 1 os os.length) _ (hZ.out.own 3 rfl) (by omega) (by omega) (by omega)).mono ?_
  rintro e w' ⟨rfl, o, g⟩
  replace hZ := Lib.hid (hZ.out.markI 3 rfl o g)
  clear o g
  go_wp2_with fail
  refine (eqIntSS_same _ _ _ _ _ _ _ (hZ.out.grd 2 rfl) (hZ.out.grd 5 rfl) hrl hre.out).mono ?_
  rintro e w' ⟨rfl, b⟩
  replace hZ := Lib.hid (hZ.out.below b)
  clear b
  go_wp2_with fail
  refine (markIntSS_own _ _ _ _ _ _ 1 _ (hZ.out.gown 2 rfl) (by omega) (by omega) (by omega) hrs).mono ?_
  rintro e w' ⟨rfl, o, g⟩
  replace hZ := Lib.hid (hZ.out.markG 2 rfl o g)
  clear o g
  go_wp2_with fail
  refine (heldIntSS_marks _ _ _ _ 1 _ rfl (hZ.out.grdM 2 rfl) (by omega) (by omega) (by omega) hrs).mono ?_
  rintro e w' ⟨rfl, b⟩
  replace hZ := Lib.hid (hZ.out.below b)
  clear b
  go_wp2_with fail
  refine (toIntSS_own _ _ _ os _ (HX.out.below hZ.out.bel) hm hea.out).mono ?_
  rintro e w' ⟨A', c', vs, rfl, o, b⟩
  replace hZ := Lib.hid (hZ.out.pushG o b)
  clear o b
  go_wp2_with fail
  refine (toIntS_any _ _ _ st _ (hZ.out.arg H.out) (by omega)).mono ?_
  rintro e w' ⟨A', c', rfl, o, b⟩
  replace hZ := Lib.hid (hZ.out.pushI o b)
  clear o b
  go_wp2_with fail
  refine (keepState_impl _ _ _ _ _ _ os st sz _ (hZ.out.grd 1 rfl) (hZ.out.ints 0 rfl) (hZ.out.nil_ 0 rfl) (by omega) hm heb.out).mono ?_
  rintro e w' ⟨A', c', vs, rfl, o, b⟩
  replace hZ := Lib.hid (hZ.out.pushG o b)
  clear o b
  go_wp2_with fail
  refine (eqIntSS_same _ _ _ _ _ _ _ (hZ.out.grd 0 rfl) (hZ.out.grd 8 rfl) hrl hre.out).mono ?_
  rintro e w' ⟨rfl, b⟩
  replace hZ := Lib.hid (hZ.out.below b)
  clear b
  go_wp2_with fail
  refine (heldIntSS_marks _ _ _ _ 1 _ rfl (hZ.out.grdM 5 rfl) (by omega) (by omega) (by omega) hrs).mono ?_
  rintro e w' ⟨rfl, b⟩
  replace hZ := Lib.hid (hZ.out.below b)
  clear b
  go_wp2_with fail
  go_ret
  exact ⟨rfl, hZ.out.bel⟩
end Go.Proofs.Ytmdebahhlgfboaa
