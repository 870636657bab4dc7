/-
  The drawn law on beam parts: its walk. No condition.
-/
import Derived.Test.YtmenehgbhgehjaaChgL
namespace Go.Proofs.Ytmenehgbhgehjaa
open Go.RowKit
set_option linter.unusedVariables false
set_option linter.unusedSimpArgs false
theorem beamParts_implE {x y : Int} {A : Option Addr} {n c : Nat} {ts : List Tri} {w : World} {O : List Int} (ho : partsR x y ts = O) (h : Reads w w.heap.size 3 A n (iv (fl3 ts))) (hn : n ≤ 1000000000) :
    Calls Try.prog 50 #[.int .i64 x, .int .i64 y, .slice A n c] w (Gives w O) := by
  subst ho; exact beamParts_impl x y A n c ts w h hn
theorem beamParts_specE {x y : Int} {A : Option Addr} {n c : Nat} {ts : List Tri} {w : World} {O : List Int} (ho : partsR x y ts = O) (h : Reads w w.heap.size 3 A n (iv (fl3 ts))) (hn : n ≤ 1000000000) :
    Calls Try.prog 51 #[.int .i64 x, .int .i64 y, .slice A n c] w (Gives w O) := by
  subst ho; exact beamParts_spec x y A n c ts w h hn
theorem any_succ {p : Tri → Bool} {ts : List Tri} {k : Nat} (hk : k < ts.length) : (ts.take (k + 1)).any p = ((ts.take k).any p || p (ts.getD k (0, 0, 0))) := by
  rw [List.take_add_one, List.getElem?_eq_getElem hk, List.getD_eq_getElem?_getD, List.getElem?_eq_getElem hk]
  simp only [List.any_append, Option.toList_some, List.any_cons, List.any_nil, Bool.or_false, Option.getD_some]
set_option maxHeartbeats 4000000 in
theorem fnBeamParts_walk (w : World) (A : Option Addr) (n c : Nat) (zs : List Int) (h : IsRow .u8 w A n c zs) :
    Calls Try.prog 13 #[.slice A n c] w fun e w' => e = .returned (.bool true) ∧ Below w.heap.size w w' := by
  by_cases hlong : 1048576 < n
  · go_enter Try.func13, Try.ntmps13
    go_wp2_with fail
    go_ret
    exact ⟨rfl, Below.refl _ _⟩
  have HI := Lib.hid h
  clear h
  go_enter Try.func13, Try.ntmps13
  go_wp2_with fail
  refine (drawBeamParts_any A n c zs _ HI.out).mono ?_
  rintro e w1 ⟨x, y, B, k, ts, rfl, ⟨l1, l2, l3, l4⟩, hb⟩
  have HX := Lib.hid l3
  have HN := Lib.hid l2
  have HB := Lib.hid hb
  have hw1 := hb.size
  have hE := Lib.hid (Env.start w1)
  obtain ⟨f1, f2, f3⟩ := parts_facts x y ts
  obtain ⟨O, hO⟩ : ∃ O, partsR x y ts = O := ⟨_, rfl⟩
  rw [hO] at f1 f2 f3
  have hO := Lib.hid hO
  have F2 := Lib.hid f2
  have F3 := Lib.hid f3
  clear l2 l3 hb f2 f3
  go_wp2_with fail
  refine (beamParts_implE (c := k) hO.out (hE.out.argR HX.out) (by omega)).mono ?_
  rintro e w' ⟨A', c', rfl, o, b⟩
  replace hE := Lib.hid (hE.out.push o b)
  clear o b
  go_wp2_with fail
  refine (beamParts_specE (c := k) hO.out (hE.out.argR HX.out) (by omega)).mono ?_
  rintro e w' ⟨A', c', rfl, o, b⟩
  replace hE := Lib.hid (hE.out.push o b)
  clear o b
  go_wp2_with fail
  refine (sameInts_same _ _ _ _ _ _ _ (hE.out.ints 1 rfl) (hE.out.ints 0 rfl) (by omega)).mono ?_
  rintro e w2 ⟨rfl, b⟩
  replace hE := Lib.hid (hE.out.below b)
  clear b
  go_wp2_with fail
  go_loopw [7] (fun i wr => ∃ k : Nat, k ≤ O.length ∧ i = .int .i64 k ∧ ∃ q, wr = w2.drewN q) (fun i _ => O.length - (intOf i).toNat)
  case atStart => exact ⟨0, Nat.zero_le _, rfl, 0, rfl⟩
  case round =>
    obtain ⟨i, hi, rfl, q, rfl⟩ := hrel
    by_cases hlt : i < O.length
    · obtain ⟨bo, oo, e1, _, hz⟩ := (hE.out.ints 1 rfl).spot hlt
      have hpv : 0 < i → ∃ z', w2.cell? ⟨bo, oo + (i - 1), none⟩ = some (.int .i64 z') ∧ z' < O.getD i 0 := by
        intro h0
        obtain ⟨b', o', e', _, h'⟩ := (hE.out.ints 1 rfl).spot (show i - 1 < O.length by omega)
        rw [e1] at e'
        injection e' with e'
        injection e' with e2 e3
        subst e2 e3
        exact ⟨_, h', F3.out i h0 hlt⟩
      have hany := F2.out i hlt
      obtain ⟨z, hzz⟩ : ∃ z, z = O.getD i 0 := ⟨_, rfl⟩
      rw [← hzz] at hz hpv hany
      have hpv := Lib.hid hpv
      have hany := Lib.hid hany
      have e1 := Lib.hid e1
      clear hzz
      have q0 : (0 : Int) ≤ (i : Int) := by omega
      have q1 : (i : Int) < (O.length : Int) := by omega
      rw [e1.out]
      go_wp2_with fail
      go_loopw [8, 9] (fun am j wr => ∃ m : Nat, m ≤ ts.length ∧ j = .int .i64 m ∧ am = .bool ((ts.take m).any fun t => t.1 == z) ∧ ∃ q, wr = w2.drewN q) (fun _ j _ => ts.length - (intOf j).toNat)
      case atStart => exact ⟨0, Nat.zero_le _, rfl, rfl, q, rfl⟩
      case round =>
        obtain ⟨m, hm, rfl, rfl, q', rfl⟩ := hrel
        by_cases hlt2 : m < ts.length
        · obtain ⟨bt, ot, e2, _, c0, c1, c2⟩ := Tri.spot (hE.out.argR HX.out) hlt2
          have hsu := any_succ (p := fun t => t.1 == z) hlt2
          generalize ts.getD m (0, 0, 0) = t at c0 c1 c2 hsu
          obtain ⟨x0, y0, z0⟩ := t
          have q2 : (0 : Int) ≤ (m : Int) := by omega
          have q3 : (m : Int) < (ts.length : Int) := by omega
          have hsu := Lib.hid hsu
          have e2 := Lib.hid e2
          clear c1 c2
          rw [e2.out]
          cases ha : (ts.take m).any fun t => t.1 == z
          · cases hx : (x0 == z)
            · go_wp2_with fail
              go_quiet (fail)
              go_wp2_with fail
              go_roundw
              case rel => exact ⟨m + 1, by omega, by go_num, by rw [hsu.out, ha]; simp [hx], _, by first | rfl | simp⟩
              case measure => simp [intOf]; omega
            · go_wp2_with fail
              go_quiet (fail)
              go_wp2_with fail
              go_roundw
              case rel => exact ⟨m + 1, by omega, by go_num, by rw [hsu.out, ha]; simp [hx], _, by first | rfl | simp⟩
              case measure => simp [intOf]; omega
          · go_wp2_with fail
            go_quiet (fail)
            go_wp2_with fail
            go_roundw
            case rel => exact ⟨m + 1, by omega, by go_num, by rw [hsu.out, ha]; rfl, _, by first | rfl | simp⟩
            case measure => simp [intOf]; omega
        · obtain rfl : m = ts.length := by omega
          rw [List.take_length, hany.out]
          by_cases h0 : 0 < i
          · obtain ⟨z', hz', hlt'⟩ := hpv.out h0
            have g1 : decide ((i : Int) > 0) = true := decide_eq_true (by omega)
            have w1 : IntKind.i64.wrap ((i : Int) - 1) = ((i - 1 : Nat) : Int) := by rw [IntWalk.i64_in _ (by omega)]; omega
            have w2 : (i : Int) - 1 = ((i - 1 : Nat) : Int) := by omega
            have w3 : ((i - 1 : Nat) : Int) < (O.length : Int) := by omega
            have hge : decide (z' ≥ z) = false := decide_eq_false (by omega)
            go_wp2_with fail
            go_quiet (fail)
            go_wp2_with fail
            go_roundw
            case rel => exact ⟨i + 1, by omega, by go_num, _, by first | rfl | simp⟩
            case measure => simp [intOf]; omega
          · have g1 : decide ((i : Int) > 0) = false := decide_eq_false (by omega)
            go_wp2_with fail
            go_quiet (fail)
            go_wp2_with fail
            go_roundw
            case rel => exact ⟨i + 1, by omega, by go_num, _, by first | rfl | simp⟩
            case measure => simp [intOf]; omega
    · obtain rfl : i = O.length := by omega
      have hle : decide ((O.length : Int) ≤ (ts.length : Int)) = true := decide_eq_true (by omega)
      replace hE := Lib.hid (hE.out.below (below_drewN (Below.refl _ _) q))
      have hlit := Lib.hid (reads_lit3 (w := w2.drewN q) (E := 69) [(3, 7, 7)] #[.int .i64 3, .int .i64 7, .int .i64 7] rfl (by simp))
      go_wp2_with (first | (go_at_call 50; refine (beamParts_implE (c := 1) (O := []) (x := 7) (y := 7) (ts := [(3, 7, 7)]) (by decide) (hlit.out.more (by simp)) (by simp)).mono ?_; rintro e w5 ⟨A5, c5, rfl, o5, b5⟩; replace hE := Lib.hid (hE.out.below (((Below.refl _ _).alloc (Nat.le_refl _) _).trans (b5.mono (by simp)))); clear o5 b5) | (go_at_call 19; refine (alive_any _).mono ?_; rintro e w' ⟨rfl, rfl⟩))
      go_ret
      exact ⟨rfl, HB.out.trans (hE.out.bel.mono hw1)⟩
end Go.Proofs.Ytmenehgbhgehjaa
