/-
  The drawn laws on two slots: their walks. No condition.
-/
import Derived.Test.YtgmcbpnnololmaaSaveW
namespace Go.Proofs.Ytgmcbpnnololmaa
open Go.RowKit
set_option linter.unusedVariables false
set_option linter.unusedSimpArgs false
set_option maxHeartbeats 4000000 in
theorem fnBestSave_walk (w : World) (A : Option Addr) (n c : Nat) (zs : List Int) (h : IsRow .u8 w A n c zs) :
    Calls Try.prog 9 #[.slice A n c] w fun e w' => e = .returned (.bool true) ∧ Below w.heap.size w w' := by
  by_cases hlong : 1048576 < n
  · go_enter Try.func9, Try.ntmps9
    go_wp2_with fail
    go_ret
    exact ⟨rfl, Below.refl _ _⟩
  have HI := Lib.hid h
  clear h
  go_enter Try.func9, Try.ntmps9
  go_wp2_with fail
  refine (drawBestSave_any A n c zs _ HI.out).mono ?_
  rintro e w1 ⟨B, C, k, l, xs, ys, rfl, ⟨l1, l2, l3, l4⟩, ⟨g1, g2, g3, g4⟩, hb⟩
  have HX := Lib.hid l3
  have HY := Lib.hid g3
  have HB := Lib.hid hb
  have hw1 := hb.size
  have hE := Lib.hid (Env.start w1)
  have l4 : xs.length ≤ 40 := l4
  have g4 : ys.length ≤ 40 := g4
  have hdx := readD_len xs
  have hdy := readD_len ys
  clear l2 l3 g2 g3 hb
  obtain ⟨x, hx⟩ : ∃ u, readN xs = u := ⟨_, rfl⟩
  obtain ⟨p, hp⟩ : ∃ u, readD xs = u := ⟨_, rfl⟩
  obtain ⟨q, hq⟩ : ∃ u, readD ys = u := ⟨_, rfl⟩
  rw [hp] at hdx
  rw [hq] at hdy
  have hp := Lib.hid hp
  have hq := Lib.hid hq
  have hx := Lib.hid hx
  have n0 : ((0 : Int) != 0) = false := by simp
  have nx : (x != x) = false := by simp
  cases ha : readOk xs
  · have ha := Lib.hid ha
    obtain ⟨y, hy⟩ : ∃ u, readN ys = u := ⟨_, rfl⟩
    have hy := Lib.hid hy
    have ny : (y != y) = false := by simp
    cases hb : readOk ys
    · have hb := Lib.hid hb
      have E1 := Lib.hid (best_ff ha.out hb.out)
      have E2 := Lib.hid (best_ff hb.out ha.out)
      go_wp2_with fail
      refine (bestSave_implE (E1.out.2.1.trans (rfl)) (E1.out.2.2.1.trans (rfl)) E1.out.2.2.2 (hE.out.arg HX.out) (hE.out.arg HY.out) (by omega) (by omega) l1 g1).mono ?_
      rintro e w' ⟨A', c', rfl, o, b⟩
      replace hE := Lib.hid (hE.out.push o b)
      clear o b
      go_wp2_with fail
      refine (bestSave_specE (E1.out.2.1.trans (rfl)) (E1.out.2.2.1.trans (rfl)) E1.out.2.2.2 (hE.out.arg HX.out) (hE.out.arg HY.out) (by omega) (by omega) l1 g1).mono ?_
      rintro e w' ⟨A', c', rfl, o, b⟩
      replace hE := Lib.hid (hE.out.push o b)
      clear o b
      go_wp2_with (go_at_call 23; (with_reducible refine (sameInts_same _ _ _ _ _ _ _ (hE.out.ints 1 rfl) (hE.out.ints 0 rfl) (by first | omega | simp)).mono ?_); rintro e w6 ⟨rfl, b⟩; replace hE := Lib.hid (hE.out.below b); clear b)
      go_wp2_with fail
      refine (readSave_implE hx.out hp.out ha.out (hE.out.arg HX.out) (by omega) l1).mono ?_
      rintro e w' ⟨A', c', rfl, o, b⟩
      replace hE := Lib.hid (hE.out.push o b)
      clear o b
      go_wp2_with fail
      refine (readSave_implE hy.out hq.out hb.out (hE.out.arg HY.out) (by omega) g1).mono ?_
      rintro e w' ⟨A', c', rfl, o, b⟩
      replace hE := Lib.hid (hE.out.push o b)
      clear o b
      go_wp2_with fail
      refine (bestSave_implE (E2.out.2.1.trans (rfl)) (E2.out.2.2.1.trans (rfl)) E2.out.2.2.2 (hE.out.arg HY.out) (hE.out.arg HX.out) (by omega) (by omega) g1 l1).mono ?_
      rintro e w' ⟨A', c', rfl, o, b⟩
      replace hE := Lib.hid (hE.out.push o b)
      clear o b
      go_wp2_with (first | (go_at_call 23; (with_reducible refine (sameInts_same _ _ _ _ _ _ _ (hE.out.ints 2 rfl) (hE.out.ints 4 rfl) (by first | omega | simp)).mono ?_); rintro e w6 ⟨rfl, b⟩; replace hE := Lib.hid (hE.out.below b); clear b) | (go_at_call 23; (with_reducible refine (sameInts_same _ _ _ _ _ _ _ (hE.out.ints 1 rfl) (hE.out.ints 4 rfl) (by first | omega | simp)).mono ?_); rintro e w6 ⟨rfl, b⟩; replace hE := Lib.hid (hE.out.below b); clear b) | (go_at_call 24; refine (alive_any _).mono ?_; rintro e w' ⟨rfl, rfl⟩))
      go_ret
      exact ⟨rfl, HB.out.trans (hE.out.bel.mono hw1)⟩
    · have hb := Lib.hid hb
      have E1 := Lib.hid (best_ft ha.out hb.out)
      have E2 := Lib.hid (best_tf hb.out ha.out)
      go_wp2_with fail
      refine (bestSave_implE (E1.out.2.1.trans (hy.out)) (E1.out.2.2.1.trans (hq.out)) E1.out.2.2.2 (hE.out.arg HX.out) (hE.out.arg HY.out) (by omega) (by omega) l1 g1).mono ?_
      rintro e w' ⟨A', c', rfl, o, b⟩
      replace hE := Lib.hid (hE.out.push o b)
      clear o b
      go_wp2_with fail
      refine (bestSave_specE (E1.out.2.1.trans (hy.out)) (E1.out.2.2.1.trans (hq.out)) E1.out.2.2.2 (hE.out.arg HX.out) (hE.out.arg HY.out) (by omega) (by omega) l1 g1).mono ?_
      rintro e w' ⟨A', c', rfl, o, b⟩
      replace hE := Lib.hid (hE.out.push o b)
      clear o b
      go_wp2_with (go_at_call 23; (with_reducible refine (sameInts_same _ _ _ _ _ _ _ (hE.out.ints 1 rfl) (hE.out.ints 0 rfl) (by first | omega | simp)).mono ?_); rintro e w6 ⟨rfl, b⟩; replace hE := Lib.hid (hE.out.below b); clear b)
      go_wp2_with fail
      refine (readSave_implE hx.out hp.out ha.out (hE.out.arg HX.out) (by omega) l1).mono ?_
      rintro e w' ⟨A', c', rfl, o, b⟩
      replace hE := Lib.hid (hE.out.push o b)
      clear o b
      go_wp2_with fail
      refine (readSave_implE hy.out hq.out hb.out (hE.out.arg HY.out) (by omega) g1).mono ?_
      rintro e w' ⟨A', c', rfl, o, b⟩
      replace hE := Lib.hid (hE.out.push o b)
      clear o b
      go_wp2_with fail
      refine (bestSave_implE (E2.out.2.1.trans (hy.out)) (E2.out.2.2.1.trans (hq.out)) E2.out.2.2.2 (hE.out.arg HY.out) (hE.out.arg HX.out) (by omega) (by omega) g1 l1).mono ?_
      rintro e w' ⟨A', c', rfl, o, b⟩
      replace hE := Lib.hid (hE.out.push o b)
      clear o b
      go_wp2_with (first | (go_at_call 23; (with_reducible refine (sameInts_same _ _ _ _ _ _ _ (hE.out.ints 2 rfl) (hE.out.ints 4 rfl) (by first | omega | simp)).mono ?_); rintro e w6 ⟨rfl, b⟩; replace hE := Lib.hid (hE.out.below b); clear b) | (go_at_call 23; (with_reducible refine (sameInts_same _ _ _ _ _ _ _ (hE.out.ints 1 rfl) (hE.out.ints 4 rfl) (by first | omega | simp)).mono ?_); rintro e w6 ⟨rfl, b⟩; replace hE := Lib.hid (hE.out.below b); clear b) | (go_at_call 24; refine (alive_any _).mono ?_; rintro e w' ⟨rfl, rfl⟩))
      go_ret
      exact ⟨rfl, HB.out.trans (hE.out.bel.mono hw1)⟩
  · have ha := Lib.hid ha
    cases hb : readOk ys
    · have hb := Lib.hid hb
      obtain ⟨y, hy⟩ : ∃ u, readN ys = u := ⟨_, rfl⟩
      have hy := Lib.hid hy
      have E1 := Lib.hid (best_tf ha.out hb.out)
      have E2 := Lib.hid (best_ft hb.out ha.out)
      go_wp2_with fail
      refine (bestSave_implE (E1.out.2.1.trans (hx.out)) (E1.out.2.2.1.trans (hp.out)) E1.out.2.2.2 (hE.out.arg HX.out) (hE.out.arg HY.out) (by omega) (by omega) l1 g1).mono ?_
      rintro e w' ⟨A', c', rfl, o, b⟩
      replace hE := Lib.hid (hE.out.push o b)
      clear o b
      go_wp2_with fail
      refine (bestSave_specE (E1.out.2.1.trans (hx.out)) (E1.out.2.2.1.trans (hp.out)) E1.out.2.2.2 (hE.out.arg HX.out) (hE.out.arg HY.out) (by omega) (by omega) l1 g1).mono ?_
      rintro e w' ⟨A', c', rfl, o, b⟩
      replace hE := Lib.hid (hE.out.push o b)
      clear o b
      go_wp2_with (go_at_call 23; (with_reducible refine (sameInts_same _ _ _ _ _ _ _ (hE.out.ints 1 rfl) (hE.out.ints 0 rfl) (by first | omega | simp)).mono ?_); rintro e w6 ⟨rfl, b⟩; replace hE := Lib.hid (hE.out.below b); clear b)
      go_wp2_with fail
      refine (readSave_implE hx.out hp.out ha.out (hE.out.arg HX.out) (by omega) l1).mono ?_
      rintro e w' ⟨A', c', rfl, o, b⟩
      replace hE := Lib.hid (hE.out.push o b)
      clear o b
      go_wp2_with fail
      refine (readSave_implE hy.out hq.out hb.out (hE.out.arg HY.out) (by omega) g1).mono ?_
      rintro e w' ⟨A', c', rfl, o, b⟩
      replace hE := Lib.hid (hE.out.push o b)
      clear o b
      go_wp2_with fail
      refine (bestSave_implE (E2.out.2.1.trans (hx.out)) (E2.out.2.2.1.trans (hp.out)) E2.out.2.2.2 (hE.out.arg HY.out) (hE.out.arg HX.out) (by omega) (by omega) g1 l1).mono ?_
      rintro e w' ⟨A', c', rfl, o, b⟩
      replace hE := Lib.hid (hE.out.push o b)
      clear o b
      go_wp2_with (first | (go_at_call 23; (with_reducible refine (sameInts_same _ _ _ _ _ _ _ (hE.out.ints 2 rfl) (hE.out.ints 4 rfl) (by first | omega | simp)).mono ?_); rintro e w6 ⟨rfl, b⟩; replace hE := Lib.hid (hE.out.below b); clear b) | (go_at_call 23; (with_reducible refine (sameInts_same _ _ _ _ _ _ _ (hE.out.ints 1 rfl) (hE.out.ints 4 rfl) (by first | omega | simp)).mono ?_); rintro e w6 ⟨rfl, b⟩; replace hE := Lib.hid (hE.out.below b); clear b) | (go_at_call 24; refine (alive_any _).mono ?_; rintro e w' ⟨rfl, rfl⟩))
      go_ret
      exact ⟨rfl, HB.out.trans (hE.out.bel.mono hw1)⟩
    · have hb := Lib.hid hb
      by_cases heq : readN ys = x
      · have hy := Lib.hid heq
        clear heq
        have E1 := Lib.hid (best_ge ha.out hb.out (by rw [hx.out, hy.out]; exact Int.le_refl _))
        have E2 := Lib.hid (best_ge hb.out ha.out (by rw [hx.out, hy.out]; exact Int.le_refl _))
        go_wp2_with fail
        refine (bestSave_implE (E1.out.2.1.trans (hx.out)) (E1.out.2.2.1.trans (hp.out)) E1.out.2.2.2 (hE.out.arg HX.out) (hE.out.arg HY.out) (by omega) (by omega) l1 g1).mono ?_
        rintro e w' ⟨A', c', rfl, o, b⟩
        replace hE := Lib.hid (hE.out.push o b)
        clear o b
        go_wp2_with fail
        refine (bestSave_specE (E1.out.2.1.trans (hx.out)) (E1.out.2.2.1.trans (hp.out)) E1.out.2.2.2 (hE.out.arg HX.out) (hE.out.arg HY.out) (by omega) (by omega) l1 g1).mono ?_
        rintro e w' ⟨A', c', rfl, o, b⟩
        replace hE := Lib.hid (hE.out.push o b)
        clear o b
        go_wp2_with (go_at_call 23; (with_reducible refine (sameInts_same _ _ _ _ _ _ _ (hE.out.ints 1 rfl) (hE.out.ints 0 rfl) (by first | omega | simp)).mono ?_); rintro e w6 ⟨rfl, b⟩; replace hE := Lib.hid (hE.out.below b); clear b)
        go_wp2_with fail
        refine (readSave_implE hx.out hp.out ha.out (hE.out.arg HX.out) (by omega) l1).mono ?_
        rintro e w' ⟨A', c', rfl, o, b⟩
        replace hE := Lib.hid (hE.out.push o b)
        clear o b
        go_wp2_with fail
        refine (readSave_implE hy.out hq.out hb.out (hE.out.arg HY.out) (by omega) g1).mono ?_
        rintro e w' ⟨A', c', rfl, o, b⟩
        replace hE := Lib.hid (hE.out.push o b)
        clear o b
        go_wp2_with fail
        refine (bestSave_implE (E2.out.2.1.trans (hy.out)) (E2.out.2.2.1.trans (hq.out)) E2.out.2.2.2 (hE.out.arg HY.out) (hE.out.arg HX.out) (by omega) (by omega) g1 l1).mono ?_
        rintro e w' ⟨A', c', rfl, o, b⟩
        replace hE := Lib.hid (hE.out.push o b)
        clear o b
        go_wp2_with (first | (go_at_call 23; (with_reducible refine (sameInts_same _ _ _ _ _ _ _ (hE.out.ints 2 rfl) (hE.out.ints 4 rfl) (by first | omega | simp)).mono ?_); rintro e w6 ⟨rfl, b⟩; replace hE := Lib.hid (hE.out.below b); clear b) | (go_at_call 23; (with_reducible refine (sameInts_same _ _ _ _ _ _ _ (hE.out.ints 1 rfl) (hE.out.ints 4 rfl) (by first | omega | simp)).mono ?_); rintro e w6 ⟨rfl, b⟩; replace hE := Lib.hid (hE.out.below b); clear b) | (go_at_call 24; refine (alive_any _).mono ?_; rintro e w' ⟨rfl, rfl⟩))
        go_ret
        exact ⟨rfl, HB.out.trans (hE.out.bel.mono hw1)⟩
      · obtain ⟨y, hy⟩ : ∃ u, readN ys = u := ⟨_, rfl⟩
        rw [hy] at heq
        have hy := Lib.hid hy
        have ny : (y != y) = false := by simp
        have e1 : (y == x) = false := by rw [beq_eq_false_iff_ne]; exact heq
        have e2 : (x == y) = false := by rw [beq_eq_false_iff_ne]; exact fun h => heq h.symm
        by_cases hlt : y < x
        · have hle : y ≤ x := by omega
          clear heq
          have E1 := Lib.hid (best_ge ha.out hb.out (by rw [hx.out, hy.out]; exact hle))
          have E2 := Lib.hid (best_lt hb.out ha.out (by rw [hx.out, hy.out]; exact hlt))
          go_wp2_with fail
          refine (bestSave_implE (E1.out.2.1.trans (hx.out)) (E1.out.2.2.1.trans (hp.out)) E1.out.2.2.2 (hE.out.arg HX.out) (hE.out.arg HY.out) (by omega) (by omega) l1 g1).mono ?_
          rintro e w' ⟨A', c', rfl, o, b⟩
          replace hE := Lib.hid (hE.out.push o b)
          clear o b
          go_wp2_with fail
          refine (bestSave_specE (E1.out.2.1.trans (hx.out)) (E1.out.2.2.1.trans (hp.out)) E1.out.2.2.2 (hE.out.arg HX.out) (hE.out.arg HY.out) (by omega) (by omega) l1 g1).mono ?_
          rintro e w' ⟨A', c', rfl, o, b⟩
          replace hE := Lib.hid (hE.out.push o b)
          clear o b
          go_wp2_with (go_at_call 23; (with_reducible refine (sameInts_same _ _ _ _ _ _ _ (hE.out.ints 1 rfl) (hE.out.ints 0 rfl) (by first | omega | simp)).mono ?_); rintro e w6 ⟨rfl, b⟩; replace hE := Lib.hid (hE.out.below b); clear b)
          go_wp2_with fail
          refine (readSave_implE hx.out hp.out ha.out (hE.out.arg HX.out) (by omega) l1).mono ?_
          rintro e w' ⟨A', c', rfl, o, b⟩
          replace hE := Lib.hid (hE.out.push o b)
          clear o b
          go_wp2_with fail
          refine (readSave_implE hy.out hq.out hb.out (hE.out.arg HY.out) (by omega) g1).mono ?_
          rintro e w' ⟨A', c', rfl, o, b⟩
          replace hE := Lib.hid (hE.out.push o b)
          clear o b
          go_wp2_with fail
          refine (bestSave_implE (E2.out.2.1.trans (hx.out)) (E2.out.2.2.1.trans (hp.out)) E2.out.2.2.2 (hE.out.arg HY.out) (hE.out.arg HX.out) (by omega) (by omega) g1 l1).mono ?_
          rintro e w' ⟨A', c', rfl, o, b⟩
          replace hE := Lib.hid (hE.out.push o b)
          clear o b
          go_wp2_with (first | (go_at_call 23; (with_reducible refine (sameInts_same _ _ _ _ _ _ _ (hE.out.ints 2 rfl) (hE.out.ints 4 rfl) (by first | omega | simp)).mono ?_); rintro e w6 ⟨rfl, b⟩; replace hE := Lib.hid (hE.out.below b); clear b) | (go_at_call 23; (with_reducible refine (sameInts_same _ _ _ _ _ _ _ (hE.out.ints 1 rfl) (hE.out.ints 4 rfl) (by first | omega | simp)).mono ?_); rintro e w6 ⟨rfl, b⟩; replace hE := Lib.hid (hE.out.below b); clear b) | (go_at_call 24; refine (alive_any _).mono ?_; rintro e w' ⟨rfl, rfl⟩))
          go_ret
          exact ⟨rfl, HB.out.trans (hE.out.bel.mono hw1)⟩
        · have hle : x ≤ y := by omega
          have hlt2 : x < y := by omega
          have hn : ¬ y ≤ x := by omega
          clear heq
          have E1 := Lib.hid (best_lt ha.out hb.out (by rw [hx.out, hy.out]; exact hlt2))
          have E2 := Lib.hid (best_ge hb.out ha.out (by rw [hx.out, hy.out]; exact hle))
          go_wp2_with fail
          refine (bestSave_implE (E1.out.2.1.trans (hy.out)) (E1.out.2.2.1.trans (hq.out)) E1.out.2.2.2 (hE.out.arg HX.out) (hE.out.arg HY.out) (by omega) (by omega) l1 g1).mono ?_
          rintro e w' ⟨A', c', rfl, o, b⟩
          replace hE := Lib.hid (hE.out.push o b)
          clear o b
          go_wp2_with fail
          refine (bestSave_specE (E1.out.2.1.trans (hy.out)) (E1.out.2.2.1.trans (hq.out)) E1.out.2.2.2 (hE.out.arg HX.out) (hE.out.arg HY.out) (by omega) (by omega) l1 g1).mono ?_
          rintro e w' ⟨A', c', rfl, o, b⟩
          replace hE := Lib.hid (hE.out.push o b)
          clear o b
          go_wp2_with (go_at_call 23; (with_reducible refine (sameInts_same _ _ _ _ _ _ _ (hE.out.ints 1 rfl) (hE.out.ints 0 rfl) (by first | omega | simp)).mono ?_); rintro e w6 ⟨rfl, b⟩; replace hE := Lib.hid (hE.out.below b); clear b)
          go_wp2_with fail
          refine (readSave_implE hx.out hp.out ha.out (hE.out.arg HX.out) (by omega) l1).mono ?_
          rintro e w' ⟨A', c', rfl, o, b⟩
          replace hE := Lib.hid (hE.out.push o b)
          clear o b
          go_wp2_with fail
          refine (readSave_implE hy.out hq.out hb.out (hE.out.arg HY.out) (by omega) g1).mono ?_
          rintro e w' ⟨A', c', rfl, o, b⟩
          replace hE := Lib.hid (hE.out.push o b)
          clear o b
          go_wp2_with fail
          refine (bestSave_implE (E2.out.2.1.trans (hy.out)) (E2.out.2.2.1.trans (hq.out)) E2.out.2.2.2 (hE.out.arg HY.out) (hE.out.arg HX.out) (by omega) (by omega) g1 l1).mono ?_
          rintro e w' ⟨A', c', rfl, o, b⟩
          replace hE := Lib.hid (hE.out.push o b)
          clear o b
          go_wp2_with (first | (go_at_call 23; (with_reducible refine (sameInts_same _ _ _ _ _ _ _ (hE.out.ints 2 rfl) (hE.out.ints 4 rfl) (by first | omega | simp)).mono ?_); rintro e w6 ⟨rfl, b⟩; replace hE := Lib.hid (hE.out.below b); clear b) | (go_at_call 23; (with_reducible refine (sameInts_same _ _ _ _ _ _ _ (hE.out.ints 1 rfl) (hE.out.ints 4 rfl) (by first | omega | simp)).mono ?_); rintro e w6 ⟨rfl, b⟩; replace hE := Lib.hid (hE.out.below b); clear b) | (go_at_call 24; refine (alive_any _).mono ?_; rintro e w' ⟨rfl, rfl⟩))
          go_ret
          exact ⟨rfl, HB.out.trans (hE.out.bel.mono hw1)⟩
theorem ints_nil (w : World) (B : Nat) : Ints w B none 0 [] := Reads.none_
set_option maxHeartbeats 4000000 in
theorem fnWriteSave_walk (w : World) (A : Option Addr) (n c : Nat) (zs : List Int) (h : IsRow .u8 w A n c zs) :
    Calls Try.prog 11 #[.slice A n c] w fun e w' => e = .returned (.bool true) ∧ Below w.heap.size w w' := by
  by_cases hlong : 1048576 < n
  · go_enter Try.func11, Try.ntmps11
    go_wp2_with fail
    go_ret
    exact ⟨rfl, Below.refl _ _⟩
  have HI := Lib.hid h
  clear h
  go_enter Try.func11, Try.ntmps11
  go_wp2_with fail
  refine (drawWriteSave_any A n c zs _ HI.out).mono ?_
  rintro e w1 ⟨B, C, D, k, l, j, xs, ys, ds, rfl, ⟨lx, l2, l3, l4⟩, ⟨ly, g2, g3, g4⟩, ⟨lz, f2, f3, f4, -⟩, hb⟩
  have HX := Lib.hid l3
  have HY := Lib.hid g3
  have HZ := Lib.hid f3
  have HL := Lib.hid l2
  have HG := Lib.hid g2
  have HF := Lib.hid f2
  have HB := Lib.hid hb
  have hw1 := hb.size
  have hE := Lib.hid (Env.start w1)
  have l4 : xs.length ≤ 40 := l4
  have g4 : ys.length ≤ 40 := g4
  clear l2 l3 g2 g3 f2 f3 hb
  by_cases hz : (nextB xs ys ds).length = 0
  · have hw := Lib.hid (write_no ds hz)
    clear hz
    go_wp2_with fail
    refine (writeSave_implE (hw.out.1) (hw.out.2) (hE.out.arg HX.out) (hE.out.arg HY.out) (hE.out.arg HZ.out) (by omega) (by omega) (by omega) lx ly HL.out HG.out HF.out).mono ?_
    rintro e w' ⟨A1, c1, A2, c2, l1, h1, l2, h2, rfl, ⟨o1, p1⟩, ⟨o2, p2⟩, q, b'⟩
    replace hE := Lib.hid (hE.out.push2 o1 p1 o2 p2 q b')
    clear o1 p1 o2 p2 q b'
    go_wp2_with fail
    refine (writeSave_specE (hw.out.1) (hw.out.2) (hE.out.arg HX.out) (hE.out.arg HY.out) (hE.out.arg HZ.out) (by omega) (by omega) (by omega) lx ly HL.out HG.out HF.out).mono ?_
    rintro e w' ⟨A1, c1, A2, c2, l1, h1, l2, h2, rfl, ⟨o1, p1⟩, ⟨o2, p2⟩, q, b'⟩
    replace hE := Lib.hid (hE.out.push2 o1 p1 o2 p2 q b')
    clear o1 p1 o2 p2 q b'
    go_wp2_with (first | (go_at_call 23; (with_reducible refine (sameInts_same _ _ _ _ _ _ _ (hE.out.ints 2 rfl) (hE.out.ints 0 rfl) (by first | omega | simp)).mono ?_); rintro e w6 ⟨rfl, b⟩; replace hE := Lib.hid (hE.out.below b); clear b) | (go_at_call 23; (with_reducible refine (sameInts_same _ _ _ _ _ _ _ (hE.out.ints 3 rfl) (hE.out.ints 1 rfl) (by first | omega | simp)).mono ?_); rintro e w6 ⟨rfl, b⟩; replace hE := Lib.hid (hE.out.below b); clear b) | (go_at_call 24; refine (alive_any _).mono ?_; rintro e w' ⟨rfl, rfl⟩))
    go_ret
    exact ⟨rfl, HB.out.trans (hE.out.bel.mono hw1)⟩
  have hdx := readD_len xs
  have hdy := readD_len ys
  rcases write_cases ds hz with ⟨m, m0, m1, ra, na, bn, bd, bo, wa, wb, hs⟩ | ⟨m, m0, m1, rb, nb, bn, bd, bo, wa, wb, hs⟩ | ⟨rb, bn, bd, bo, wa, wb, hs⟩
  · obtain ⟨r1, r2, r3⟩ := saveR_read0 hs
    have hsl := (saveR_nz hs).2.2.2.2
    have F1 := Lib.hid (best_lt ra r1 (by rw [na, r2]; omega))
    have F2 := Lib.hid (best_ft read_nil r1)
    have F3 := Lib.hid (best_tf ra read_nil)
    have F0 := Lib.hid (And.intro bn (And.intro bd bo))
    have R := Lib.hid (And.intro r2 (And.intro r3 r1))
    have WW := Lib.hid (And.intro wa wb)
    have NA := Lib.hid na
    generalize saveR (m + 1) ds = S at hsl F1 F2 R WW
    generalize readD xs = p at hdx F0 F3
    have e1 : ((xs.length : Int) + (S.length : Int) == 0) = false := by rw [beq_eq_false_iff_ne]; omega
    replace hsl := Nat.le_of_eq hsl
    clear hz ra na bn bd bo wa wb hs r1 r2 r3
    go_wp2_with fail
    refine (writeSave_implE (WW.out.1) (WW.out.2) (hE.out.arg HX.out) (hE.out.arg HY.out) (hE.out.arg HZ.out) (by omega) (by omega) (by omega) lx ly HL.out HG.out HF.out).mono ?_
    rintro e w' ⟨A1, c1, A2, c2, l1, h1, l2, h2, rfl, ⟨o1, p1⟩, ⟨o2, p2⟩, q, b'⟩
    replace hE := Lib.hid (hE.out.push2 o1 p1 o2 p2 q b')
    clear o1 p1 o2 p2 q b'
    go_wp2_with fail
    refine (writeSave_specE (WW.out.1) (WW.out.2) (hE.out.arg HX.out) (hE.out.arg HY.out) (hE.out.arg HZ.out) (by omega) (by omega) (by omega) lx ly HL.out HG.out HF.out).mono ?_
    rintro e w' ⟨A1, c1, A2, c2, l1, h1, l2, h2, rfl, ⟨o1, p1⟩, ⟨o2, p2⟩, q, b'⟩
    replace hE := Lib.hid (hE.out.push2 o1 p1 o2 p2 q b')
    clear o1 p1 o2 p2 q b'
    go_wp2_with (first | (go_at_call 23; (with_reducible refine (sameInts_same _ _ _ _ _ _ _ (hE.out.ints 2 rfl) (hE.out.ints 0 rfl) (by first | omega | simp)).mono ?_); rintro e w6 ⟨rfl, b⟩; replace hE := Lib.hid (hE.out.below b); clear b) | (go_at_call 23; (with_reducible refine (sameInts_same _ _ _ _ _ _ _ (hE.out.ints 3 rfl) (hE.out.ints 1 rfl) (by first | omega | simp)).mono ?_); rintro e w6 ⟨rfl, b⟩; replace hE := Lib.hid (hE.out.below b); clear b) | (go_at_call 24; refine (alive_any _).mono ?_; rintro e w' ⟨rfl, rfl⟩))
    go_wp2_with fail
    refine (bestSave_implE F0.out.1 F0.out.2.1 F0.out.2.2 (hE.out.arg HX.out) (hE.out.arg HY.out) (by omega) (by omega) lx ly).mono ?_
    rintro e w' ⟨A', c', rfl, o, b⟩
    replace hE := Lib.hid (hE.out.push o b)
    clear o b
    go_wp2_with fail
    refine (bestSave_implE (F1.out.2.1.trans R.out.1) (F1.out.2.2.1.trans R.out.2.1) F1.out.2.2.2 (hE.out.ints 3 rfl) (hE.out.ints 4 rfl) (by omega) (by omega) (hE.out.cap 3 rfl) (hE.out.cap 4 rfl)).mono ?_
    rintro e w' ⟨A', c', rfl, o, b⟩
    replace hE := Lib.hid (hE.out.push o b)
    clear o b
    go_wp2_with (go_at_call 23; refine (sameInts_same _ _ _ _ _ _ _ (hE.out.ints 0 rfl) (hE.out.arg HZ.out) (by omega)).mono ?_; rintro e w6 ⟨rfl, b⟩; replace hE := Lib.hid (hE.out.below b); clear b)
    go_wp2_with fail
    refine (bestSave_implE (F2.out.2.1.trans R.out.1) (F2.out.2.2.1.trans R.out.2.1) F2.out.2.2.2 (ints_nil _ _) (hE.out.ints 5 rfl) (by omega) (by omega) (Nat.le_refl _) (hE.out.cap 5 rfl)).mono ?_
    rintro e w' ⟨A', c', rfl, o, b⟩
    replace hE := Lib.hid (hE.out.push o b)
    clear o b
    go_wp2_with fail
    refine (readSave_implE R.out.1 R.out.2.1 R.out.2.2 (hE.out.ints 6 rfl) (by omega) (hE.out.cap 6 rfl)).mono ?_
    rintro e w' ⟨A', c', rfl, o, b⟩
    replace hE := Lib.hid (hE.out.push o b)
    clear o b
    go_wp2_with fail
    refine (bestSave_implE (F3.out.2.1.trans NA.out) F3.out.2.2.1 F3.out.2.2.2 (hE.out.ints 6 rfl) (ints_nil _ _) (by omega) (by omega) (hE.out.cap 6 rfl) (Nat.le_refl _)).mono ?_
    rintro e w' ⟨A', c', rfl, o, b⟩
    replace hE := Lib.hid (hE.out.push o b)
    clear o b
    go_wp2_with (first | (go_at_call 23; (with_reducible refine (sameInts_same _ _ _ _ _ _ _ (hE.out.ints 0 rfl) (hE.out.ints 4 rfl) (by first | omega | simp)).mono ?_); rintro e w6 ⟨rfl, b⟩; replace hE := Lib.hid (hE.out.below b); clear b))
    go_ret
    exact ⟨rfl, HB.out.trans (hE.out.bel.mono hw1)⟩
  · obtain ⟨r1, r2, r3⟩ := saveR_read0 hs
    have hsl := (saveR_nz hs).2.2.2.2
    have F1 := Lib.hid (best_ge r1 rb (by rw [nb, r2]; omega))
    have F2 := Lib.hid (best_ft read_nil rb)
    have F0 := Lib.hid (And.intro bn (And.intro bd bo))
    have R := Lib.hid (And.intro r2 (And.intro r3 r1))
    have WW := Lib.hid (And.intro wa wb)
    have NB := Lib.hid nb
    have RB := Lib.hid rb
    have hpd := Lib.hid (rfl : readD ys = readD ys)
    generalize saveR (m + 1) ds = S at hsl F1 R WW
    generalize readD ys = p at hdy F0 F2 hpd
    have e1 : ((S.length : Int) + (ys.length : Int) == 0) = false := by rw [beq_eq_false_iff_ne]; omega
    replace hsl := Nat.le_of_eq hsl
    have e2 : (m == m + 1) = false := by rw [beq_eq_false_iff_ne]; omega
    clear hz rb nb bn bd bo wa wb hs r1 r2 r3
    go_wp2_with fail
    refine (writeSave_implE (WW.out.1) (WW.out.2) (hE.out.arg HX.out) (hE.out.arg HY.out) (hE.out.arg HZ.out) (by omega) (by omega) (by omega) lx ly HL.out HG.out HF.out).mono ?_
    rintro e w' ⟨A1, c1, A2, c2, l1, h1, l2, h2, rfl, ⟨o1, p1⟩, ⟨o2, p2⟩, q, b'⟩
    replace hE := Lib.hid (hE.out.push2 o1 p1 o2 p2 q b')
    clear o1 p1 o2 p2 q b'
    go_wp2_with fail
    refine (writeSave_specE (WW.out.1) (WW.out.2) (hE.out.arg HX.out) (hE.out.arg HY.out) (hE.out.arg HZ.out) (by omega) (by omega) (by omega) lx ly HL.out HG.out HF.out).mono ?_
    rintro e w' ⟨A1, c1, A2, c2, l1, h1, l2, h2, rfl, ⟨o1, p1⟩, ⟨o2, p2⟩, q, b'⟩
    replace hE := Lib.hid (hE.out.push2 o1 p1 o2 p2 q b')
    clear o1 p1 o2 p2 q b'
    go_wp2_with (first | (go_at_call 23; (with_reducible refine (sameInts_same _ _ _ _ _ _ _ (hE.out.ints 2 rfl) (hE.out.ints 0 rfl) (by first | omega | simp)).mono ?_); rintro e w6 ⟨rfl, b⟩; replace hE := Lib.hid (hE.out.below b); clear b) | (go_at_call 23; (with_reducible refine (sameInts_same _ _ _ _ _ _ _ (hE.out.ints 3 rfl) (hE.out.ints 1 rfl) (by first | omega | simp)).mono ?_); rintro e w6 ⟨rfl, b⟩; replace hE := Lib.hid (hE.out.below b); clear b) | (go_at_call 24; refine (alive_any _).mono ?_; rintro e w' ⟨rfl, rfl⟩))
    go_wp2_with fail
    refine (bestSave_implE F0.out.1 F0.out.2.1 F0.out.2.2 (hE.out.arg HX.out) (hE.out.arg HY.out) (by omega) (by omega) lx ly).mono ?_
    rintro e w' ⟨A', c', rfl, o, b⟩
    replace hE := Lib.hid (hE.out.push o b)
    clear o b
    go_wp2_with fail
    refine (bestSave_implE (F1.out.2.1.trans R.out.1) (F1.out.2.2.1.trans R.out.2.1) F1.out.2.2.2 (hE.out.ints 3 rfl) (hE.out.ints 4 rfl) (by omega) (by omega) (hE.out.cap 3 rfl) (hE.out.cap 4 rfl)).mono ?_
    rintro e w' ⟨A', c', rfl, o, b⟩
    replace hE := Lib.hid (hE.out.push o b)
    clear o b
    go_wp2_with (go_at_call 23; refine (sameInts_same _ _ _ _ _ _ _ (hE.out.ints 0 rfl) (hE.out.arg HZ.out) (by omega)).mono ?_; rintro e w6 ⟨rfl, b⟩; replace hE := Lib.hid (hE.out.below b); clear b)
    go_wp2_with fail
    refine (bestSave_implE (F2.out.2.1.trans NB.out) F2.out.2.2.1 F2.out.2.2.2 (ints_nil _ _) (hE.out.ints 5 rfl) (by omega) (by omega) (Nat.le_refl _) (hE.out.cap 5 rfl)).mono ?_
    rintro e w' ⟨A', c', rfl, o, b⟩
    replace hE := Lib.hid (hE.out.push o b)
    clear o b
    go_wp2_with fail
    refine (readSave_implE NB.out rfl RB.out (hE.out.ints 6 rfl) (by omega) (hE.out.cap 6 rfl)).mono ?_
    rintro e w' ⟨A', c', rfl, o, b⟩
    replace hE := Lib.hid (hE.out.push o b)
    clear o b
    go_wp2_with (first | (go_at_call 23; (with_reducible refine (sameInts_same _ _ _ _ _ _ _ (hE.out.ints 1 rfl) (hE.out.ints 3 rfl) (by first | omega | simp)).mono ?_); rintro e w6 ⟨rfl, b⟩; replace hE := Lib.hid (hE.out.below b); clear b))
    go_ret
    exact ⟨rfl, HB.out.trans (hE.out.bel.mono hw1)⟩
  · obtain ⟨r1, r2, r3⟩ := saveR_read0 hs
    have hsl := (saveR_nz hs).2.2.2.2
    have F1 := Lib.hid (best_tf r1 rb)
    have F2 := Lib.hid (best_ff read_nil rb)
    have F0 := Lib.hid (And.intro bn (And.intro bd bo))
    have R := Lib.hid (And.intro r2 (And.intro r3 r1))
    have WW := Lib.hid (And.intro wa wb)
    have RB := Lib.hid rb
    generalize saveR 0 ds = S at hsl F1 R WW
    have e1 : ((S.length : Int) + (ys.length : Int) == 0) = false := by rw [beq_eq_false_iff_ne]; omega
    replace hsl := Nat.le_of_eq hsl
    clear hz rb bn bd bo wa wb hs r1 r2 r3
    go_wp2_with fail
    refine (writeSave_implE (WW.out.1) (WW.out.2) (hE.out.arg HX.out) (hE.out.arg HY.out) (hE.out.arg HZ.out) (by omega) (by omega) (by omega) lx ly HL.out HG.out HF.out).mono ?_
    rintro e w' ⟨A1, c1, A2, c2, l1, h1, l2, h2, rfl, ⟨o1, p1⟩, ⟨o2, p2⟩, q, b'⟩
    replace hE := Lib.hid (hE.out.push2 o1 p1 o2 p2 q b')
    clear o1 p1 o2 p2 q b'
    go_wp2_with fail
    refine (writeSave_specE (WW.out.1) (WW.out.2) (hE.out.arg HX.out) (hE.out.arg HY.out) (hE.out.arg HZ.out) (by omega) (by omega) (by omega) lx ly HL.out HG.out HF.out).mono ?_
    rintro e w' ⟨A1, c1, A2, c2, l1, h1, l2, h2, rfl, ⟨o1, p1⟩, ⟨o2, p2⟩, q, b'⟩
    replace hE := Lib.hid (hE.out.push2 o1 p1 o2 p2 q b')
    clear o1 p1 o2 p2 q b'
    go_wp2_with (first | (go_at_call 23; (with_reducible refine (sameInts_same _ _ _ _ _ _ _ (hE.out.ints 2 rfl) (hE.out.ints 0 rfl) (by first | omega | simp)).mono ?_); rintro e w6 ⟨rfl, b⟩; replace hE := Lib.hid (hE.out.below b); clear b) | (go_at_call 23; (with_reducible refine (sameInts_same _ _ _ _ _ _ _ (hE.out.ints 3 rfl) (hE.out.ints 1 rfl) (by first | omega | simp)).mono ?_); rintro e w6 ⟨rfl, b⟩; replace hE := Lib.hid (hE.out.below b); clear b) | (go_at_call 24; refine (alive_any _).mono ?_; rintro e w' ⟨rfl, rfl⟩))
    go_wp2_with fail
    refine (bestSave_implE F0.out.1 F0.out.2.1 F0.out.2.2 (hE.out.arg HX.out) (hE.out.arg HY.out) (by omega) (by omega) lx ly).mono ?_
    rintro e w' ⟨A', c', rfl, o, b⟩
    replace hE := Lib.hid (hE.out.push o b)
    clear o b
    go_wp2_with fail
    refine (bestSave_implE (F1.out.2.1.trans R.out.1) (F1.out.2.2.1.trans R.out.2.1) F1.out.2.2.2 (hE.out.ints 3 rfl) (hE.out.ints 4 rfl) (by omega) (by omega) (hE.out.cap 3 rfl) (hE.out.cap 4 rfl)).mono ?_
    rintro e w' ⟨A', c', rfl, o, b⟩
    replace hE := Lib.hid (hE.out.push o b)
    clear o b
    go_wp2_with (go_at_call 23; refine (sameInts_same _ _ _ _ _ _ _ (hE.out.ints 0 rfl) (hE.out.arg HZ.out) (by omega)).mono ?_; rintro e w6 ⟨rfl, b⟩; replace hE := Lib.hid (hE.out.below b); clear b)
    go_wp2_with fail
    refine (bestSave_implE F2.out.2.1 F2.out.2.2.1 F2.out.2.2.2 (ints_nil _ _) (hE.out.ints 5 rfl) (by omega) (by omega) (Nat.le_refl _) (hE.out.cap 5 rfl)).mono ?_
    rintro e w' ⟨A', c', rfl, o, b⟩
    replace hE := Lib.hid (hE.out.push o b)
    clear o b
    go_wp2_with fail
    refine (readSave_implE rfl rfl RB.out (hE.out.ints 6 rfl) (by omega) (hE.out.cap 6 rfl)).mono ?_
    rintro e w' ⟨A', c', rfl, o, b⟩
    replace hE := Lib.hid (hE.out.push o b)
    clear o b
    go_wp2_with fail
    go_ret
    exact ⟨rfl, HB.out.trans (hE.out.bel.mono hw1)⟩
theorem abs_one (m : Int) (w : World) (h : m = 1 ∨ m = -1) : Calls Try.prog 30 #[.int .i64 m] w fun e w' => e = .returned (.int .i64 1) ∧ w = w' := by
  refine (abs_any m w (by omega) (by omega)).mono ?_
  rintro e w' ⟨rfl, rfl⟩
  exact ⟨ret_int (by rcases h with rfl | rfl <;> rfl), rfl⟩
set_option maxHeartbeats 4000000 in
theorem fnSaveTwice_walk (w : World) (A : Option Addr) (n c : Nat) (zs : List Int) (h : IsRow .u8 w A n c zs) :
    Calls Try.prog 10 #[.slice A n c] w fun e w' => e = .returned (.bool true) ∧ Below w.heap.size w w' := by
  by_cases hlong : 1048576 < n
  · go_enter Try.func10, Try.ntmps10
    go_wp2_with fail
    go_ret
    exact ⟨rfl, Below.refl _ _⟩
  have HI := Lib.hid h
  clear h
  go_enter Try.func10, Try.ntmps10
  go_wp2_with fail
  refine (drawWriteSave_any A n c zs _ HI.out).mono ?_
  rintro e w1 ⟨B, C, D, k, l, j, xs, ys, ds, rfl, ⟨lx, l2, l3, l4⟩, ⟨ly, g2, g3, g4⟩, ⟨lz, f2, f3, f4, -⟩, hb⟩
  have HX := Lib.hid l3
  have HY := Lib.hid g3
  have HZ := Lib.hid f3
  have HL := Lib.hid l2
  have HG := Lib.hid g2
  have HF := Lib.hid f2
  have HB := Lib.hid hb
  have hw1 := hb.size
  have hE := Lib.hid (Env.start w1)
  have l4 : xs.length ≤ 40 := l4
  have g4 : ys.length ≤ 40 := g4
  clear l2 l3 g2 g3 f2 f3 hb
  by_cases hz : (nextB xs ys ds).length = 0
  · have hw := Lib.hid (write_no ds hz)
    clear hz
    have hwl := writeA_len [] [] [1, 2]
    have hwl2 := writeB_len [] [] [1, 2]
    generalize hP : writeA [] [] [1, 2] = P at hwl
    generalize hQ : writeB [] [] [1, 2] = Q at hwl2
    have hP := Lib.hid hP
    have hQ := Lib.hid hQ
    go_wp2_with fail
    refine (writeSave_implE (hw.out.1) (hw.out.2) (hE.out.arg HX.out) (hE.out.arg HY.out) (hE.out.arg HZ.out) (by omega) (by omega) (by omega) lx ly HL.out HG.out HF.out).mono ?_
    rintro e w' ⟨A1, c1, A2, c2, l1, h1, l2, h2, rfl, ⟨o1, p1⟩, ⟨o2, p2⟩, q, b'⟩
    replace hE := Lib.hid (hE.out.push2 o1 p1 o2 p2 q b')
    clear o1 p1 o2 p2 q b'
    go_wp2_with fail
    replace hE := Lib.hid (hE.out.push (e := 3) (size := 1) (xs := iv [1, 2]) (World.ownsRow_lit w' #[.int .i64 1, .int .i64 2] 2 (Nat.le_refl _) (by simp [maxLen]) rfl) ((Below.refl _ _).alloc (Nat.le_refl _) _))
    refine (writeSave_implE (z := [1, 2]) (hP.out) (hQ.out) (hE.out.ints 1 rfl) (hE.out.ints 2 rfl) (hE.out.ints 0 rfl) (by first | omega | simp) (by first | omega | simp) (by omega) (hE.out.cap 1 rfl) (hE.out.cap 2 rfl) (hE.out.nil_ 1 rfl) (hE.out.nil_ 2 rfl) (hE.out.nil_ 0 rfl)).mono ?_
    rintro e w' ⟨A1, c1, A2, c2, l1, h1, l2, h2, rfl, ⟨o1, p1⟩, ⟨o2, p2⟩, q, b'⟩
    replace hE := Lib.hid (hE.out.push2 o1 p1 o2 p2 q b')
    clear o1 p1 o2 p2 q b'
    go_wp2_with fail
    refine (writeSave_specE (hw.out.1) (hw.out.2) (hE.out.arg HX.out) (hE.out.arg HY.out) (hE.out.arg HZ.out) (by omega) (by omega) (by omega) lx ly HL.out HG.out HF.out).mono ?_
    rintro e w' ⟨A1, c1, A2, c2, l1, h1, l2, h2, rfl, ⟨o1, p1⟩, ⟨o2, p2⟩, q, b'⟩
    replace hE := Lib.hid (hE.out.push2 o1 p1 o2 p2 q b')
    clear o1 p1 o2 p2 q b'
    go_wp2_with (first | (go_at_call 23; (with_reducible refine (sameInts_same _ _ _ _ _ _ _ (hE.out.ints 5 rfl) (hE.out.ints 0 rfl) (by first | omega | simp)).mono ?_); rintro e w6 ⟨rfl, b⟩; replace hE := Lib.hid (hE.out.below b); clear b) | (go_at_call 24; refine (alive_any _).mono ?_; rintro e w' ⟨rfl, rfl⟩))
    go_ret
    exact ⟨rfl, HB.out.trans (hE.out.bel.mono hw1)⟩
  rcases write_cases ds hz with ⟨m, m0, m1, ra, na, bn, bd, bo, wa, wb, hs⟩ | ⟨m, m0, m1, rb, nb, bn, bd, bo, wa, wb, hs⟩ | ⟨rb, bn, bd, bo, wa, wb, hs⟩
  · obtain ⟨r1, r2, r3⟩ := saveR_read0 hs
    have hsl := (saveR_nz hs).2.2.2.2
    obtain ⟨f1, f2, f3, f4⟩ := best_lt ra r1 (by rw [na, r2]; omega)
    have WW := Lib.hid (And.intro wa wb)
    generalize saveR (m + 1) ds = S at hsl r1 r2 r3 f1 f2 f3 f4 WW
    have hnx := next_of (z := [1, 2]) f4 (f2.trans r2)
    have e1 : ((xs.length : Int) + (S.length : Int) == 0) = false := by rw [beq_eq_false_iff_ne]; omega
    replace hsl := Nat.le_of_eq hsl
    by_cases hz2 : (nextB xs S [1, 2]).length = 0
    · have hv := Lib.hid (write_no [1, 2] hz2)
      clear hz ra na bn bd bo wa wb hs r1 r2 r3 f1 f2 f3 f4 hnx hz2
      go_wp2_with fail
      refine (writeSave_implE (WW.out.1) (WW.out.2) (hE.out.arg HX.out) (hE.out.arg HY.out) (hE.out.arg HZ.out) (by omega) (by omega) (by omega) lx ly HL.out HG.out HF.out).mono ?_
      rintro e w' ⟨A1, c1, A2, c2, l1, h1, l2, h2, rfl, ⟨o1, p1⟩, ⟨o2, p2⟩, q, b'⟩
      replace hE := Lib.hid (hE.out.push2 o1 p1 o2 p2 q b')
      clear o1 p1 o2 p2 q b'
      go_wp2_with fail
      replace hE := Lib.hid (hE.out.push (e := 3) (size := 1) (xs := iv [1, 2]) (World.ownsRow_lit w' #[.int .i64 1, .int .i64 2] 2 (Nat.le_refl _) (by simp [maxLen]) rfl) ((Below.refl _ _).alloc (Nat.le_refl _) _))
      refine (writeSave_implE (z := [1, 2]) (hv.out.1) (hv.out.2) (hE.out.ints 1 rfl) (hE.out.ints 2 rfl) (hE.out.ints 0 rfl) (by first | omega | simp) (by first | omega | simp) (by omega) (hE.out.cap 1 rfl) (hE.out.cap 2 rfl) (hE.out.nil_ 1 rfl) (hE.out.nil_ 2 rfl) (hE.out.nil_ 0 rfl)).mono ?_
      rintro e w' ⟨A1, c1, A2, c2, l1, h1, l2, h2, rfl, ⟨o1, p1⟩, ⟨o2, p2⟩, q, b'⟩
      replace hE := Lib.hid (hE.out.push2 o1 p1 o2 p2 q b')
      clear o1 p1 o2 p2 q b'
      go_wp2_with fail
      refine (writeSave_specE (WW.out.1) (WW.out.2) (hE.out.arg HX.out) (hE.out.arg HY.out) (hE.out.arg HZ.out) (by omega) (by omega) (by omega) lx ly HL.out HG.out HF.out).mono ?_
      rintro e w' ⟨A1, c1, A2, c2, l1, h1, l2, h2, rfl, ⟨o1, p1⟩, ⟨o2, p2⟩, q, b'⟩
      replace hE := Lib.hid (hE.out.push2 o1 p1 o2 p2 q b')
      clear o1 p1 o2 p2 q b'
      go_wp2_with (first | (go_at_call 23; (with_reducible refine (sameInts_same _ _ _ _ _ _ _ (hE.out.ints 5 rfl) (hE.out.ints 0 rfl) (by first | omega | simp)).mono ?_); rintro e w6 ⟨rfl, b⟩; replace hE := Lib.hid (hE.out.below b); clear b) | (go_at_call 24; refine (alive_any _).mono ?_; rintro e w' ⟨rfl, rfl⟩))
      go_ret
      exact ⟨rfl, HB.out.trans (hE.out.bel.mono hw1)⟩
    · have hv := Lib.hid (write_o f1 hz2)
      rw [hnx] at hz2 hv
      obtain ⟨t1, t2, t3⟩ := saveR_read0 hz2
      have htl := (saveR_nz hz2).2.2.2.2
      have hb2 := inB_iff.1 (saveR_nz hz2).1
      obtain ⟨u, hu⟩ : ∃ u : Int, m + 1 + 1 = u := ⟨_, rfl⟩
      obtain ⟨v, hv2⟩ : ∃ u : Int, m + 1 = u := ⟨_, rfl⟩
      rw [hu] at hv htl t1 t2 t3 hb2
      rw [hv2] at r2
      have hd : u - v = 1 := by omega
      have hd2 : -65535 ≤ u - v ∧ u - v ≤ 65535 := by omega
      generalize saveR u [1, 2] = T at hv htl t1 t2 t3
      have R1 := Lib.hid (And.intro t2 (And.intro t3 t1))
      have R2 := Lib.hid (And.intro r2 (And.intro r3 r1))
      have htl2 : T.length = 6 := htl
      have e2 : ((T.length : Int) + (S.length : Int) == 0) = false := by rw [beq_eq_false_iff_ne]; omega
      clear hz ra na bn bd bo wa wb hs r1 r2 r3 f1 f2 f3 f4 hnx hz2 t1 t2 t3 htl
      have htl : T.length ≤ 36 := by omega
      clear htl2 hu hv2
      go_wp2_with fail
      refine (writeSave_implE (WW.out.1) (WW.out.2) (hE.out.arg HX.out) (hE.out.arg HY.out) (hE.out.arg HZ.out) (by omega) (by omega) (by omega) lx ly HL.out HG.out HF.out).mono ?_
      rintro e w' ⟨A1, c1, A2, c2, l1, h1, l2, h2, rfl, ⟨o1, p1⟩, ⟨o2, p2⟩, q, b'⟩
      replace hE := Lib.hid (hE.out.push2 o1 p1 o2 p2 q b')
      clear o1 p1 o2 p2 q b'
      go_wp2_with fail
      replace hE := Lib.hid (hE.out.push (e := 3) (size := 1) (xs := iv [1, 2]) (World.ownsRow_lit w' #[.int .i64 1, .int .i64 2] 2 (Nat.le_refl _) (by simp [maxLen]) rfl) ((Below.refl _ _).alloc (Nat.le_refl _) _))
      refine (writeSave_implE (z := [1, 2]) (hv.out.1) (hv.out.2) (hE.out.ints 1 rfl) (hE.out.ints 2 rfl) (hE.out.ints 0 rfl) (by first | omega | simp) (by first | omega | simp) (by omega) (hE.out.cap 1 rfl) (hE.out.cap 2 rfl) (hE.out.nil_ 1 rfl) (hE.out.nil_ 2 rfl) (hE.out.nil_ 0 rfl)).mono ?_
      rintro e w' ⟨A1, c1, A2, c2, l1, h1, l2, h2, rfl, ⟨o1, p1⟩, ⟨o2, p2⟩, q, b'⟩
      replace hE := Lib.hid (hE.out.push2 o1 p1 o2 p2 q b')
      clear o1 p1 o2 p2 q b'
      go_wp2_with fail
      refine (writeSave_specE (WW.out.1) (WW.out.2) (hE.out.arg HX.out) (hE.out.arg HY.out) (hE.out.arg HZ.out) (by omega) (by omega) (by omega) lx ly HL.out HG.out HF.out).mono ?_
      rintro e w' ⟨A1, c1, A2, c2, l1, h1, l2, h2, rfl, ⟨o1, p1⟩, ⟨o2, p2⟩, q, b'⟩
      replace hE := Lib.hid (hE.out.push2 o1 p1 o2 p2 q b')
      clear o1 p1 o2 p2 q b'
      go_wp2_with (first | (go_at_call 23; (with_reducible refine (sameInts_same _ _ _ _ _ _ _ (hE.out.ints 5 rfl) (hE.out.ints 0 rfl) (by first | omega | simp)).mono ?_); rintro e w6 ⟨rfl, b⟩; replace hE := Lib.hid (hE.out.below b); clear b) | (go_at_call 24; refine (alive_any _).mono ?_; rintro e w' ⟨rfl, rfl⟩))
      go_wp2_with fail
      refine (readSave_implE R1.out.1 R1.out.2.1 R1.out.2.2 (hE.out.ints 2 rfl) (by omega) (hE.out.cap 2 rfl)).mono ?_
      rintro e w' ⟨A', c', rfl, o, b⟩
      replace hE := Lib.hid (hE.out.push o b)
      clear o b
      go_wp2_with fail
      refine (readSave_implE R2.out.1 R2.out.2.1 R2.out.2.2 (hE.out.ints 4 rfl) (by omega) (hE.out.cap 4 rfl)).mono ?_
      rintro e w' ⟨A', c', rfl, o, b⟩
      replace hE := Lib.hid (hE.out.push o b)
      clear o b
      go_wp2_with (go_at_call 30; refine (abs_one _ _ (by omega)).mono ?_; rintro e w6 ⟨rfl, rfl⟩)
      go_ret
      exact ⟨rfl, HB.out.trans (hE.out.bel.mono hw1)⟩
  · obtain ⟨r1, r2, r3⟩ := saveR_read0 hs
    have hsl := (saveR_nz hs).2.2.2.2
    obtain ⟨f1, f2, f3, f4⟩ := best_ge r1 rb (by rw [nb, r2]; omega)
    have WW := Lib.hid (And.intro wa wb)
    generalize saveR (m + 1) ds = S at hsl r1 r2 r3 f1 f2 f3 f4 WW
    have hnx := next_of (z := [1, 2]) f4 (f2.trans r2)
    have e1 : ((S.length : Int) + (ys.length : Int) == 0) = false := by rw [beq_eq_false_iff_ne]; omega
    replace hsl := Nat.le_of_eq hsl
    by_cases hz2 : (nextB S ys [1, 2]).length = 0
    · have hv := Lib.hid (write_no [1, 2] hz2)
      clear hz rb nb bn bd bo wa wb hs r1 r2 r3 f1 f2 f3 f4 hnx hz2
      go_wp2_with fail
      refine (writeSave_implE (WW.out.1) (WW.out.2) (hE.out.arg HX.out) (hE.out.arg HY.out) (hE.out.arg HZ.out) (by omega) (by omega) (by omega) lx ly HL.out HG.out HF.out).mono ?_
      rintro e w' ⟨A1, c1, A2, c2, l1, h1, l2, h2, rfl, ⟨o1, p1⟩, ⟨o2, p2⟩, q, b'⟩
      replace hE := Lib.hid (hE.out.push2 o1 p1 o2 p2 q b')
      clear o1 p1 o2 p2 q b'
      go_wp2_with fail
      replace hE := Lib.hid (hE.out.push (e := 3) (size := 1) (xs := iv [1, 2]) (World.ownsRow_lit w' #[.int .i64 1, .int .i64 2] 2 (Nat.le_refl _) (by simp [maxLen]) rfl) ((Below.refl _ _).alloc (Nat.le_refl _) _))
      refine (writeSave_implE (z := [1, 2]) (hv.out.1) (hv.out.2) (hE.out.ints 1 rfl) (hE.out.ints 2 rfl) (hE.out.ints 0 rfl) (by first | omega | simp) (by first | omega | simp) (by omega) (hE.out.cap 1 rfl) (hE.out.cap 2 rfl) (hE.out.nil_ 1 rfl) (hE.out.nil_ 2 rfl) (hE.out.nil_ 0 rfl)).mono ?_
      rintro e w' ⟨A1, c1, A2, c2, l1, h1, l2, h2, rfl, ⟨o1, p1⟩, ⟨o2, p2⟩, q, b'⟩
      replace hE := Lib.hid (hE.out.push2 o1 p1 o2 p2 q b')
      clear o1 p1 o2 p2 q b'
      go_wp2_with fail
      refine (writeSave_specE (WW.out.1) (WW.out.2) (hE.out.arg HX.out) (hE.out.arg HY.out) (hE.out.arg HZ.out) (by omega) (by omega) (by omega) lx ly HL.out HG.out HF.out).mono ?_
      rintro e w' ⟨A1, c1, A2, c2, l1, h1, l2, h2, rfl, ⟨o1, p1⟩, ⟨o2, p2⟩, q, b'⟩
      replace hE := Lib.hid (hE.out.push2 o1 p1 o2 p2 q b')
      clear o1 p1 o2 p2 q b'
      go_wp2_with (first | (go_at_call 23; (with_reducible refine (sameInts_same _ _ _ _ _ _ _ (hE.out.ints 5 rfl) (hE.out.ints 0 rfl) (by first | omega | simp)).mono ?_); rintro e w6 ⟨rfl, b⟩; replace hE := Lib.hid (hE.out.below b); clear b) | (go_at_call 24; refine (alive_any _).mono ?_; rintro e w' ⟨rfl, rfl⟩))
      go_ret
      exact ⟨rfl, HB.out.trans (hE.out.bel.mono hw1)⟩
    · have hv := Lib.hid (write_f f1 hz2)
      rw [hnx] at hz2 hv
      obtain ⟨t1, t2, t3⟩ := saveR_read0 hz2
      have htl := (saveR_nz hz2).2.2.2.2
      have hb2 := inB_iff.1 (saveR_nz hz2).1
      obtain ⟨u, hu⟩ : ∃ u : Int, m + 1 + 1 = u := ⟨_, rfl⟩
      obtain ⟨v, hv2⟩ : ∃ u : Int, m + 1 = u := ⟨_, rfl⟩
      rw [hu] at hv htl t1 t2 t3 hb2
      rw [hv2] at r2
      have hd : v - u = -1 := by omega
      generalize saveR u [1, 2] = T at hv htl t1 t2 t3
      have R1 := Lib.hid (And.intro t2 (And.intro t3 t1))
      have R2 := Lib.hid (And.intro r2 (And.intro r3 r1))
      have htl2 : T.length = 6 := htl
      have e2 : ((S.length : Int) + (T.length : Int) == 0) = false := by rw [beq_eq_false_iff_ne]; omega
      clear hz rb nb bn bd bo wa wb hs r1 r2 r3 f1 f2 f3 f4 hnx hz2 t1 t2 t3 htl
      have htl : T.length ≤ 36 := by omega
      clear htl2 hu hv2
      go_wp2_with fail
      refine (writeSave_implE (WW.out.1) (WW.out.2) (hE.out.arg HX.out) (hE.out.arg HY.out) (hE.out.arg HZ.out) (by omega) (by omega) (by omega) lx ly HL.out HG.out HF.out).mono ?_
      rintro e w' ⟨A1, c1, A2, c2, l1, h1, l2, h2, rfl, ⟨o1, p1⟩, ⟨o2, p2⟩, q, b'⟩
      replace hE := Lib.hid (hE.out.push2 o1 p1 o2 p2 q b')
      clear o1 p1 o2 p2 q b'
      go_wp2_with fail
      replace hE := Lib.hid (hE.out.push (e := 3) (size := 1) (xs := iv [1, 2]) (World.ownsRow_lit w' #[.int .i64 1, .int .i64 2] 2 (Nat.le_refl _) (by simp [maxLen]) rfl) ((Below.refl _ _).alloc (Nat.le_refl _) _))
      refine (writeSave_implE (z := [1, 2]) (hv.out.1) (hv.out.2) (hE.out.ints 1 rfl) (hE.out.ints 2 rfl) (hE.out.ints 0 rfl) (by first | omega | simp) (by first | omega | simp) (by omega) (hE.out.cap 1 rfl) (hE.out.cap 2 rfl) (hE.out.nil_ 1 rfl) (hE.out.nil_ 2 rfl) (hE.out.nil_ 0 rfl)).mono ?_
      rintro e w' ⟨A1, c1, A2, c2, l1, h1, l2, h2, rfl, ⟨o1, p1⟩, ⟨o2, p2⟩, q, b'⟩
      replace hE := Lib.hid (hE.out.push2 o1 p1 o2 p2 q b')
      clear o1 p1 o2 p2 q b'
      go_wp2_with fail
      refine (writeSave_specE (WW.out.1) (WW.out.2) (hE.out.arg HX.out) (hE.out.arg HY.out) (hE.out.arg HZ.out) (by omega) (by omega) (by omega) lx ly HL.out HG.out HF.out).mono ?_
      rintro e w' ⟨A1, c1, A2, c2, l1, h1, l2, h2, rfl, ⟨o1, p1⟩, ⟨o2, p2⟩, q, b'⟩
      replace hE := Lib.hid (hE.out.push2 o1 p1 o2 p2 q b')
      clear o1 p1 o2 p2 q b'
      go_wp2_with (first | (go_at_call 23; (with_reducible refine (sameInts_same _ _ _ _ _ _ _ (hE.out.ints 5 rfl) (hE.out.ints 0 rfl) (by first | omega | simp)).mono ?_); rintro e w6 ⟨rfl, b⟩; replace hE := Lib.hid (hE.out.below b); clear b) | (go_at_call 24; refine (alive_any _).mono ?_; rintro e w' ⟨rfl, rfl⟩))
      go_wp2_with fail
      refine (readSave_implE R2.out.1 R2.out.2.1 R2.out.2.2 (hE.out.ints 2 rfl) (by omega) (hE.out.cap 2 rfl)).mono ?_
      rintro e w' ⟨A', c', rfl, o, b⟩
      replace hE := Lib.hid (hE.out.push o b)
      clear o b
      go_wp2_with fail
      refine (readSave_implE R1.out.1 R1.out.2.1 R1.out.2.2 (hE.out.ints 4 rfl) (by omega) (hE.out.cap 4 rfl)).mono ?_
      rintro e w' ⟨A', c', rfl, o, b⟩
      replace hE := Lib.hid (hE.out.push o b)
      clear o b
      go_wp2_with (go_at_call 30; refine (abs_one _ _ (by omega)).mono ?_; rintro e w6 ⟨rfl, rfl⟩)
      go_ret
      exact ⟨rfl, HB.out.trans (hE.out.bel.mono hw1)⟩
  · obtain ⟨r1, r2, r3⟩ := saveR_read0 hs
    have hsl := (saveR_nz hs).2.2.2.2
    obtain ⟨f1, f2, f3, f4⟩ := best_tf r1 rb
    have WW := Lib.hid (And.intro wa wb)
    generalize saveR 0 ds = S at hsl r1 r2 r3 f1 f2 f3 f4 WW
    have hnx := next_of (z := [1, 2]) f4 (f2.trans r2)
    have hz2 : (nextB S ys [1, 2]).length ≠ 0 := by rw [hnx]; exact saveR_some (by omega) (by omega) (by simp) rfl
    have e1 : ((S.length : Int) + (ys.length : Int) == 0) = false := by rw [beq_eq_false_iff_ne]; omega
    replace hsl := Nat.le_of_eq hsl
    have hv := Lib.hid (write_f f1 hz2)
    rw [hnx] at hz2 hv
    obtain ⟨t1, t2, t3⟩ := saveR_read0 hz2
    have htl := (saveR_nz hz2).2.2.2.2
    generalize saveR (0 + 1) [1, 2] = T at hv htl t1 t2 t3
    have R1 := Lib.hid (And.intro (t2.trans (show (0 : Int) + 1 = 1 from rfl)) (And.intro t3 t1))
    have R2 := Lib.hid (And.intro r2 (And.intro r3 r1))
    have htl2 : T.length = 6 := htl
    have e2 : ((S.length : Int) + (T.length : Int) == 0) = false := by rw [beq_eq_false_iff_ne]; omega
    clear hz rb bn bd bo wa wb hs r1 r2 r3 f1 f2 f3 f4 hnx hz2 t1 t2 t3 htl
    have htl : T.length ≤ 36 := by omega
    clear htl2
    go_wp2_with fail
    refine (writeSave_implE (WW.out.1) (WW.out.2) (hE.out.arg HX.out) (hE.out.arg HY.out) (hE.out.arg HZ.out) (by omega) (by omega) (by omega) lx ly HL.out HG.out HF.out).mono ?_
    rintro e w' ⟨A1, c1, A2, c2, l1, h1, l2, h2, rfl, ⟨o1, p1⟩, ⟨o2, p2⟩, q, b'⟩
    replace hE := Lib.hid (hE.out.push2 o1 p1 o2 p2 q b')
    clear o1 p1 o2 p2 q b'
    go_wp2_with fail
    replace hE := Lib.hid (hE.out.push (e := 3) (size := 1) (xs := iv [1, 2]) (World.ownsRow_lit w' #[.int .i64 1, .int .i64 2] 2 (Nat.le_refl _) (by simp [maxLen]) rfl) ((Below.refl _ _).alloc (Nat.le_refl _) _))
    refine (writeSave_implE (z := [1, 2]) (hv.out.1) (hv.out.2) (hE.out.ints 1 rfl) (hE.out.ints 2 rfl) (hE.out.ints 0 rfl) (by first | omega | simp) (by first | omega | simp) (by omega) (hE.out.cap 1 rfl) (hE.out.cap 2 rfl) (hE.out.nil_ 1 rfl) (hE.out.nil_ 2 rfl) (hE.out.nil_ 0 rfl)).mono ?_
    rintro e w' ⟨A1, c1, A2, c2, l1, h1, l2, h2, rfl, ⟨o1, p1⟩, ⟨o2, p2⟩, q, b'⟩
    replace hE := Lib.hid (hE.out.push2 o1 p1 o2 p2 q b')
    clear o1 p1 o2 p2 q b'
    go_wp2_with fail
    refine (writeSave_specE (WW.out.1) (WW.out.2) (hE.out.arg HX.out) (hE.out.arg HY.out) (hE.out.arg HZ.out) (by omega) (by omega) (by omega) lx ly HL.out HG.out HF.out).mono ?_
    rintro e w' ⟨A1, c1, A2, c2, l1, h1, l2, h2, rfl, ⟨o1, p1⟩, ⟨o2, p2⟩, q, b'⟩
    replace hE := Lib.hid (hE.out.push2 o1 p1 o2 p2 q b')
    clear o1 p1 o2 p2 q b'
    go_wp2_with (first | (go_at_call 23; (with_reducible refine (sameInts_same _ _ _ _ _ _ _ (hE.out.ints 5 rfl) (hE.out.ints 0 rfl) (by first | omega | simp)).mono ?_); rintro e w6 ⟨rfl, b⟩; replace hE := Lib.hid (hE.out.below b); clear b) | (go_at_call 24; refine (alive_any _).mono ?_; rintro e w' ⟨rfl, rfl⟩))
    go_wp2_with fail
    refine (readSave_implE R2.out.1 R2.out.2.1 R2.out.2.2 (hE.out.ints 2 rfl) (by omega) (hE.out.cap 2 rfl)).mono ?_
    rintro e w' ⟨A', c', rfl, o, b⟩
    replace hE := Lib.hid (hE.out.push o b)
    clear o b
    go_wp2_with fail
    refine (readSave_implE R1.out.1 R1.out.2.1 R1.out.2.2 (hE.out.ints 4 rfl) (by omega) (hE.out.cap 4 rfl)).mono ?_
    rintro e w' ⟨A', c', rfl, o, b⟩
    replace hE := Lib.hid (hE.out.push o b)
    clear o b
    go_wp2_with (go_at_call 30; refine (abs_one _ _ (by omega)).mono ?_; rintro e w6 ⟨rfl, rfl⟩)
    go_ret
    exact ⟨rfl, HB.out.trans (hE.out.bel.mono hw1)⟩
end Go.Proofs.Ytgmcbpnnololmaa
