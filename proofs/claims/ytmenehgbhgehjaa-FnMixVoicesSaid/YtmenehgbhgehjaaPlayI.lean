/-
  PlayVoice of the program. No condition.
-/
import Derived.Test.YtmenehgbhgehjaaPlay
namespace Go.Proofs.Ytmenehgbhgehjaa
open Go.RowKit
set_option linter.unusedVariables false
set_option linter.unusedSimpArgs false
def sliceLen : Value → Nat
  | .slice _ n _ => n
  | _ => 0
theorem rep_snoc (xs : List Int) (m : Nat) (y : Int) : xs ++ List.replicate m y ++ [y] = xs ++ List.replicate (m + 1) y := by
  rw [List.append_assoc, ← List.replicate_succ']
set_option maxHeartbeats 4000000 in
theorem playVoice_impl (v : Vo) (n : Int) (w : World) : Calls Try.prog 20 #[v.val, .int .i64 n] w (GivesP w (playL v n) (playV v n)) := by
  cases hv : vvB v
  · rw [(play_bad (show playB v n = false by simp [playB, hv])).1, (play_bad (show playB v n = false by simp [playB, hv])).2]
    go_enter Try.func20, Try.ntmps20
    go_wp2_with (first | (go_at_call 21; refine (voiceValid_impl _ _).mono ?_; rintro e w1 ⟨rfl, hb1⟩; obtain ⟨hV, hZ, hB, hz⟩ := boxes2 (u := (⟨0, 0, 0, 0, 0⟩ : Vo)) hb1; replace hV := Lib.hid hV; replace hZ := Lib.hid hZ; replace hB := Lib.hid hB; clear hb1; obtain ⟨y0, y1, y2, y3, y4⟩ := hZ.out.cells; obtain ⟨g0, g1, g2, g3, g4⟩ := hZ.out.froz) | (go_at_call 56; refine (within_any _ _ _ _).mono ?_; rintro e w' ⟨rfl, rfl⟩))
    obtain ⟨o1, o2⟩ := hZ.out.set ⟨0, 0, 0, 0, 0⟩
    refine bodyPost_ret (v := .tuple #[.slice none 0 0, (⟨0, 0, 0, 0, 0⟩ : Vo).val]) (by simp [results, Try.results20, go_sem, y0, y1, y2, y3, y4]) rfl ?_
    exact ⟨none, 0, rfl, World.ownsRow_nil _ _ _ _, hB.out.grown o2 (by omega) (by intro k hk; injection hk with hk; omega)⟩
  cases hn : inB n 0 400
  · rw [(play_bad (show playB v n = false by simp [playB, hn])).1, (play_bad (show playB v n = false by simp [playB, hn])).2]
    go_enter Try.func20, Try.ntmps20
    go_wp2_with (first | (go_at_call 21; refine (voiceValid_impl _ _).mono ?_; rintro e w1 ⟨rfl, hb1⟩; obtain ⟨hV, hZ, hB, hz⟩ := boxes2 (u := (⟨0, 0, 0, 0, 0⟩ : Vo)) hb1; replace hV := Lib.hid hV; replace hZ := Lib.hid hZ; replace hB := Lib.hid hB; clear hb1; obtain ⟨y0, y1, y2, y3, y4⟩ := hZ.out.cells; obtain ⟨g0, g1, g2, g3, g4⟩ := hZ.out.froz) | (go_at_call 56; refine (within_any _ _ _ _).mono ?_; rintro e w' ⟨rfl, rfl⟩))
    obtain ⟨o1, o2⟩ := hZ.out.set ⟨0, 0, 0, 0, 0⟩
    refine bodyPost_ret (v := .tuple #[.slice none 0 0, (⟨0, 0, 0, 0, 0⟩ : Vo).val]) (by simp [results, Try.results20, go_sem, y0, y1, y2, y3, y4]) rfl ?_
    exact ⟨none, 0, rfl, World.ownsRow_nil _ _ _ _, hB.out.grown o2 (by omega) (by intro k hk; injection hk with hk; omega)⟩
  obtain ⟨N, rfl⟩ := Int.eq_ofNat_of_zero_le (inB_iff.1 hn).1
  have hN : N ≤ 400 := by have := (inB_iff.1 hn).2; omega
  obtain ⟨e1, e2⟩ := play_good (show playB v N = true by simp [playB, hv, hn])
  rw [e1, e2]
  clear e1 e2
  have HVV := Lib.hid hv
  have q4 : (N : Int) ≤ 1000000000 := by omega
  go_enter Try.func20, Try.ntmps20
  go_wp2_with (first | (go_at_call 21; refine (voiceValid_impl _ _).mono ?_; rintro e w1 ⟨rfl, hb1⟩; obtain ⟨hV, hZ, hB, hz⟩ := boxes2 (u := (⟨0, 0, 0, 0, 0⟩ : Vo)) hb1; replace hV := Lib.hid hV; replace hZ := Lib.hid hZ; replace hB := Lib.hid hB; clear hb1; obtain ⟨y0, y1, y2, y3, y4⟩ := hZ.out.cells; obtain ⟨g0, g1, g2, g3, g4⟩ := hZ.out.froz) | (go_at_call 56; refine (within_any _ _ _ _).mono ?_; rintro e w' ⟨rfl, rfl⟩) | (at_make; refine make_own0 _ rfl _ _ rfl N rfl rfl (by omega) (w.heap.size + 2) hz ?_; intro w2 ho2 hb2; replace hV := Lib.hid (hV.out.below hb2); replace hZ := Lib.hid (hZ.out.below hb2); replace hB := Lib.hid (below_step hB.out hb2 hB.out.size); replace ho2 := Lib.hid ho2; clear hb2))
  clear y0 y1 y2 y3 y4 g0 g1 g2 g3 g4
  go_loopw [6] (fun out wr => ∃ (j : Nat) (A' : Option Addr) (c' : Nat), j ≤ N ∧ out = .slice A' j c' ∧ wr.ownsRow (w.heap.size + 2) 3 1 (.slice A' j c') j (iv (sampV j v)) ∧ HasV wr w.heap.size (iterV j v) ∧ HasV wr (w.heap.size + 1) ⟨0, 0, 0, 0, 0⟩ ∧ Below w.heap.size w wr) (fun out _ => N - sliceLen out)
  case atStart => exact ⟨0, _, _, Nat.zero_le _, rfl, ho2.out, hV.out, hZ.out, hB.out⟩
  case round =>
    obtain ⟨j, A', c', hj, rfl, hown, hv1, hz1, hb1⟩ := hrel
    obtain ⟨u, hu2⟩ : ∃ u, u = iterV j v := ⟨_, rfl⟩
    have hu := iter_valid j HVV.out
    rw [← hu2] at hv1 hu
    obtain ⟨-, -, -, -, f1, f2⟩ := vvB_bd hu
    have hl1 := (vvB_bd hu).1
    replace hu := Lib.hid hu
    have HO := Lib.hid hown
    have HV := Lib.hid hv1
    have HZ := Lib.hid hz1
    have HB := Lib.hid hb1
    have hsz := hb1.size
    have hvl := hv1.lt
    have hzl := hz1.lt
    obtain ⟨x0, x1, x2, x3, x4⟩ := hv1.cells
    have hu3 := Lib.hid hu2
    clear hown hv1 hz1 hb1 hV hZ hB ho2
    by_cases hlt : j < N
    · have q1 : (j : Int) < (N : Int) := by omega
      clear hu2
      by_cases hm : u.f ≤ (N : Int) - (j : Int)
      · obtain ⟨r, hr⟩ := Int.eq_ofNat_of_zero_le (show 0 ≤ u.f by omega)
        by_cases hl : u.s < u.h
        · have hS : levV u = u.a := if_pos hl
          replace hS := Lib.hid hS
          have r1 : 1 ≤ r := by omega
          have r2 : j + r ≤ N := by omega
          have r3 : (r : Int) ≤ u.f := by omega
          have hs := Lib.hid (show sampV j v ++ List.replicate r (u.a) = sampV (j + r) v by rw [sampV_add, ← hu3.out, samp_run r hu.out r3, hS.out])
          have hi := Lib.hid (show skipV u (u.f) = iterV (j + r) v by rw [show (u.f) = (r : Int) by omega, skip_iter r hu.out, hu3.out, ← iterV_add])
          have hr' := Lib.hid hr
          clear hr r3
          go_wp2_with fail
          go_loopw [6, 39] (fun out k wr' => ∃ (m : Nat) (A2 : Option Addr) (c2 : Nat), m ≤ r ∧ out = .slice A2 (j + m) c2 ∧ k = .int .i64 m ∧ wr'.ownsRow (w.heap.size + 2) 3 1 (.slice A2 (j + m) c2) (j + m) (iv (sampV j v ++ List.replicate m (u.a))) ∧ HasV wr' w.heap.size u ∧ HasV wr' (w.heap.size + 1) ⟨0, 0, 0, 0, 0⟩ ∧ Below w.heap.size w wr') (fun _ k _ => r - (intOf k).toNat)
          case atStart => exact ⟨0, _, _, Nat.zero_le _, rfl, rfl, by simpa using HO.out, HV.out, HZ.out, HB.out⟩
          case round =>
            obtain ⟨m, A2, c2, hm2, rfl, rfl, o1, v1, z1, b1⟩ := hrel
            replace HO := Lib.hid o1
            replace HV := Lib.hid v1
            replace HZ := Lib.hid z1
            replace HB := Lib.hid b1
            have hz2 := z1.lt
            obtain ⟨p0, p1, p2, p3, p4⟩ := v1.cells
            clear o1 v1 z1 b1 x0 x1 x2 x3 x4
            by_cases hlm : m < r
            · have q5 : (m : Int) < u.f := by have := hr'.out; omega
              go_wp2_with (at_builtin; refine push_own_g _ rfl _ _ rfl (w.heap.size + 2) (j + m) c2 wr.heap.size 1 A2 (sampV j v ++ List.replicate m (u.a)) (u.a) rfl rfl (HO.out.alloc _) (cell_new _ _ _ 0) (by omega) (by simp; omega) ?_; intro A3 c3 w3 o3 gr3; rw [rep_snoc] at o3; replace HV := Lib.hid ((HV.out.alloc _).kept gr3 (fun e => by have := (HO.out.lt _ e).1; omega)); replace HZ := Lib.hid ((HZ.out.alloc _).kept gr3 (fun e => by have := (HO.out.lt _ e).1; omega)); replace HB := Lib.hid ((HB.out.alloc HB.out.size _).grown gr3 (Nat.le_trans HB.out.size (size_alloc_le _ _)) (fun k hk => by have := (HO.out.lt k hk).1; omega)); replace HO := Lib.hid o3; clear o3 gr3)
              go_roundw
              case rel => exact ⟨m + 1, A3, c3, by omega, rfl, by go_num, HO.out, HV.out, HZ.out, HB.out⟩
              case measure => simp [intOf]; omega
            · obtain rfl : m = r := by omega
              have q5 : ¬ ((m : Int) < u.f) := by have := hr'.out; omega
              have q6 : 0 ≤ u.f := by have := hr'.out; omega
              go_wp2_with (go_at_call 57; refine (skipVoice_low u (u.f) _ hu.out (by omega) (by omega)).mono ?_; rintro e w4 ⟨rfl, b4⟩; replace HO := Lib.hid (own_below HO.out b4); replace HV := Lib.hid (HV.out.below b4); replace HZ := Lib.hid (HZ.out.below b4); replace HB := Lib.hid (below_step HB.out b4 HB.out.size); clear b4; obtain ⟨m0, m1, m2, m3, m4⟩ := HV.out.cells; obtain ⟨g0, g1, g2, g3, g4⟩ := HV.out.froz)
              go_roundw
              case rel =>
                obtain ⟨s1, s2⟩ := HV.out.set (skipV u (u.f))
                have ho := HO.out.kept s2 (.inr (fun e => by have := (HO.out.lt _ e).1; omega))
                rw [hs.out] at ho
                refine ⟨j + m, A2, c2, by omega, rfl, ho, ?_, HZ.out.kept s2 (by intro e; injection e with e; omega), HB.out.grown s2 HB.out.size (by intro k hk; injection hk with hk; omega)⟩
                rw [← hi.out]
                exact s1
              case measure => simp [sliceLen]; omega
        · have hS : levV u = 0 := if_neg hl
          replace hS := Lib.hid hS
          have r1 : 1 ≤ r := by omega
          have r2 : j + r ≤ N := by omega
          have r3 : (r : Int) ≤ u.f := by omega
          have hs := Lib.hid (show sampV j v ++ List.replicate r (0) = sampV (j + r) v by rw [sampV_add, ← hu3.out, samp_run r hu.out r3, hS.out])
          have hi := Lib.hid (show skipV u (u.f) = iterV (j + r) v by rw [show (u.f) = (r : Int) by omega, skip_iter r hu.out, hu3.out, ← iterV_add])
          have hr' := Lib.hid hr
          clear hr r3
          go_wp2_with fail
          go_loopw [6, 39] (fun out k wr' => ∃ (m : Nat) (A2 : Option Addr) (c2 : Nat), m ≤ r ∧ out = .slice A2 (j + m) c2 ∧ k = .int .i64 m ∧ wr'.ownsRow (w.heap.size + 2) 3 1 (.slice A2 (j + m) c2) (j + m) (iv (sampV j v ++ List.replicate m (0))) ∧ HasV wr' w.heap.size u ∧ HasV wr' (w.heap.size + 1) ⟨0, 0, 0, 0, 0⟩ ∧ Below w.heap.size w wr') (fun _ k _ => r - (intOf k).toNat)
          case atStart => exact ⟨0, _, _, Nat.zero_le _, rfl, rfl, by simpa using HO.out, HV.out, HZ.out, HB.out⟩
          case round =>
            obtain ⟨m, A2, c2, hm2, rfl, rfl, o1, v1, z1, b1⟩ := hrel
            replace HO := Lib.hid o1
            replace HV := Lib.hid v1
            replace HZ := Lib.hid z1
            replace HB := Lib.hid b1
            have hz2 := z1.lt
            obtain ⟨p0, p1, p2, p3, p4⟩ := v1.cells
            clear o1 v1 z1 b1 x0 x1 x2 x3 x4
            by_cases hlm : m < r
            · have q5 : (m : Int) < u.f := by have := hr'.out; omega
              go_wp2_with (at_builtin; refine push_own_g _ rfl _ _ rfl (w.heap.size + 2) (j + m) c2 wr.heap.size 1 A2 (sampV j v ++ List.replicate m (0)) (0) rfl rfl (HO.out.alloc _) (cell_new _ _ _ 0) (by omega) (by simp; omega) ?_; intro A3 c3 w3 o3 gr3; rw [rep_snoc] at o3; replace HV := Lib.hid ((HV.out.alloc _).kept gr3 (fun e => by have := (HO.out.lt _ e).1; omega)); replace HZ := Lib.hid ((HZ.out.alloc _).kept gr3 (fun e => by have := (HO.out.lt _ e).1; omega)); replace HB := Lib.hid ((HB.out.alloc HB.out.size _).grown gr3 (Nat.le_trans HB.out.size (size_alloc_le _ _)) (fun k hk => by have := (HO.out.lt k hk).1; omega)); replace HO := Lib.hid o3; clear o3 gr3)
              go_roundw
              case rel => exact ⟨m + 1, A3, c3, by omega, rfl, by go_num, HO.out, HV.out, HZ.out, HB.out⟩
              case measure => simp [intOf]; omega
            · obtain rfl : m = r := by omega
              have q5 : ¬ ((m : Int) < u.f) := by have := hr'.out; omega
              have q6 : 0 ≤ u.f := by have := hr'.out; omega
              go_wp2_with (go_at_call 57; refine (skipVoice_low u (u.f) _ hu.out (by omega) (by omega)).mono ?_; rintro e w4 ⟨rfl, b4⟩; replace HO := Lib.hid (own_below HO.out b4); replace HV := Lib.hid (HV.out.below b4); replace HZ := Lib.hid (HZ.out.below b4); replace HB := Lib.hid (below_step HB.out b4 HB.out.size); clear b4; obtain ⟨m0, m1, m2, m3, m4⟩ := HV.out.cells; obtain ⟨g0, g1, g2, g3, g4⟩ := HV.out.froz)
              go_roundw
              case rel =>
                obtain ⟨s1, s2⟩ := HV.out.set (skipV u (u.f))
                have ho := HO.out.kept s2 (.inr (fun e => by have := (HO.out.lt _ e).1; omega))
                rw [hs.out] at ho
                refine ⟨j + m, A2, c2, by omega, rfl, ho, ?_, HZ.out.kept s2 (by intro e; injection e with e; omega), HB.out.grown s2 HB.out.size (by intro k hk; injection hk with hk; omega)⟩
                rw [← hi.out]
                exact s1
              case measure => simp [sliceLen]; omega
      · obtain ⟨r, hr⟩ := Int.eq_ofNat_of_zero_le (show 0 ≤ (N : Int) - (j : Int) by omega)
        by_cases hl : u.s < u.h
        · have hS : levV u = u.a := if_pos hl
          replace hS := Lib.hid hS
          have r1 : 1 ≤ r := by omega
          have r2 : j + r ≤ N := by omega
          have r3 : (r : Int) ≤ u.f := by omega
          have hs := Lib.hid (show sampV j v ++ List.replicate r (u.a) = sampV (j + r) v by rw [sampV_add, ← hu3.out, samp_run r hu.out r3, hS.out])
          have hi := Lib.hid (show skipV u (((N : Int) - (j : Int))) = iterV (j + r) v by rw [show (((N : Int) - (j : Int))) = (r : Int) by omega, skip_iter r hu.out, hu3.out, ← iterV_add])
          have hr' := Lib.hid hr
          clear hr r3
          go_wp2_with fail
          go_loopw [6, 39] (fun out k wr' => ∃ (m : Nat) (A2 : Option Addr) (c2 : Nat), m ≤ r ∧ out = .slice A2 (j + m) c2 ∧ k = .int .i64 m ∧ wr'.ownsRow (w.heap.size + 2) 3 1 (.slice A2 (j + m) c2) (j + m) (iv (sampV j v ++ List.replicate m (u.a))) ∧ HasV wr' w.heap.size u ∧ HasV wr' (w.heap.size + 1) ⟨0, 0, 0, 0, 0⟩ ∧ Below w.heap.size w wr') (fun _ k _ => r - (intOf k).toNat)
          case atStart => exact ⟨0, _, _, Nat.zero_le _, rfl, rfl, by simpa using HO.out, HV.out, HZ.out, HB.out⟩
          case round =>
            obtain ⟨m, A2, c2, hm2, rfl, rfl, o1, v1, z1, b1⟩ := hrel
            replace HO := Lib.hid o1
            replace HV := Lib.hid v1
            replace HZ := Lib.hid z1
            replace HB := Lib.hid b1
            have hz2 := z1.lt
            obtain ⟨p0, p1, p2, p3, p4⟩ := v1.cells
            clear o1 v1 z1 b1 x0 x1 x2 x3 x4
            by_cases hlm : m < r
            · have q5 : (m : Int) < ((N : Int) - (j : Int)) := by have := hr'.out; omega
              go_wp2_with (at_builtin; refine push_own_g _ rfl _ _ rfl (w.heap.size + 2) (j + m) c2 wr.heap.size 1 A2 (sampV j v ++ List.replicate m (u.a)) (u.a) rfl rfl (HO.out.alloc _) (cell_new _ _ _ 0) (by omega) (by simp; omega) ?_; intro A3 c3 w3 o3 gr3; rw [rep_snoc] at o3; replace HV := Lib.hid ((HV.out.alloc _).kept gr3 (fun e => by have := (HO.out.lt _ e).1; omega)); replace HZ := Lib.hid ((HZ.out.alloc _).kept gr3 (fun e => by have := (HO.out.lt _ e).1; omega)); replace HB := Lib.hid ((HB.out.alloc HB.out.size _).grown gr3 (Nat.le_trans HB.out.size (size_alloc_le _ _)) (fun k hk => by have := (HO.out.lt k hk).1; omega)); replace HO := Lib.hid o3; clear o3 gr3)
              go_roundw
              case rel => exact ⟨m + 1, A3, c3, by omega, rfl, by go_num, HO.out, HV.out, HZ.out, HB.out⟩
              case measure => simp [intOf]; omega
            · obtain rfl : m = r := by omega
              have q5 : ¬ ((m : Int) < ((N : Int) - (j : Int))) := by have := hr'.out; omega
              have q6 : 0 ≤ ((N : Int) - (j : Int)) := by have := hr'.out; omega
              go_wp2_with (go_at_call 57; refine (skipVoice_low u (((N : Int) - (j : Int))) _ hu.out (by omega) (by omega)).mono ?_; rintro e w4 ⟨rfl, b4⟩; replace HO := Lib.hid (own_below HO.out b4); replace HV := Lib.hid (HV.out.below b4); replace HZ := Lib.hid (HZ.out.below b4); replace HB := Lib.hid (below_step HB.out b4 HB.out.size); clear b4; obtain ⟨m0, m1, m2, m3, m4⟩ := HV.out.cells; obtain ⟨g0, g1, g2, g3, g4⟩ := HV.out.froz)
              go_roundw
              case rel =>
                obtain ⟨s1, s2⟩ := HV.out.set (skipV u (((N : Int) - (j : Int))))
                have ho := HO.out.kept s2 (.inr (fun e => by have := (HO.out.lt _ e).1; omega))
                rw [hs.out] at ho
                refine ⟨j + m, A2, c2, by omega, rfl, ho, ?_, HZ.out.kept s2 (by intro e; injection e with e; omega), HB.out.grown s2 HB.out.size (by intro k hk; injection hk with hk; omega)⟩
                rw [← hi.out]
                exact s1
              case measure => simp [sliceLen]; omega
        · have hS : levV u = 0 := if_neg hl
          replace hS := Lib.hid hS
          have r1 : 1 ≤ r := by omega
          have r2 : j + r ≤ N := by omega
          have r3 : (r : Int) ≤ u.f := by omega
          have hs := Lib.hid (show sampV j v ++ List.replicate r (0) = sampV (j + r) v by rw [sampV_add, ← hu3.out, samp_run r hu.out r3, hS.out])
          have hi := Lib.hid (show skipV u (((N : Int) - (j : Int))) = iterV (j + r) v by rw [show (((N : Int) - (j : Int))) = (r : Int) by omega, skip_iter r hu.out, hu3.out, ← iterV_add])
          have hr' := Lib.hid hr
          clear hr r3
          go_wp2_with fail
          go_loopw [6, 39] (fun out k wr' => ∃ (m : Nat) (A2 : Option Addr) (c2 : Nat), m ≤ r ∧ out = .slice A2 (j + m) c2 ∧ k = .int .i64 m ∧ wr'.ownsRow (w.heap.size + 2) 3 1 (.slice A2 (j + m) c2) (j + m) (iv (sampV j v ++ List.replicate m (0))) ∧ HasV wr' w.heap.size u ∧ HasV wr' (w.heap.size + 1) ⟨0, 0, 0, 0, 0⟩ ∧ Below w.heap.size w wr') (fun _ k _ => r - (intOf k).toNat)
          case atStart => exact ⟨0, _, _, Nat.zero_le _, rfl, rfl, by simpa using HO.out, HV.out, HZ.out, HB.out⟩
          case round =>
            obtain ⟨m, A2, c2, hm2, rfl, rfl, o1, v1, z1, b1⟩ := hrel
            replace HO := Lib.hid o1
            replace HV := Lib.hid v1
            replace HZ := Lib.hid z1
            replace HB := Lib.hid b1
            have hz2 := z1.lt
            obtain ⟨p0, p1, p2, p3, p4⟩ := v1.cells
            clear o1 v1 z1 b1 x0 x1 x2 x3 x4
            by_cases hlm : m < r
            · have q5 : (m : Int) < ((N : Int) - (j : Int)) := by have := hr'.out; omega
              go_wp2_with (at_builtin; refine push_own_g _ rfl _ _ rfl (w.heap.size + 2) (j + m) c2 wr.heap.size 1 A2 (sampV j v ++ List.replicate m (0)) (0) rfl rfl (HO.out.alloc _) (cell_new _ _ _ 0) (by omega) (by simp; omega) ?_; intro A3 c3 w3 o3 gr3; rw [rep_snoc] at o3; replace HV := Lib.hid ((HV.out.alloc _).kept gr3 (fun e => by have := (HO.out.lt _ e).1; omega)); replace HZ := Lib.hid ((HZ.out.alloc _).kept gr3 (fun e => by have := (HO.out.lt _ e).1; omega)); replace HB := Lib.hid ((HB.out.alloc HB.out.size _).grown gr3 (Nat.le_trans HB.out.size (size_alloc_le _ _)) (fun k hk => by have := (HO.out.lt k hk).1; omega)); replace HO := Lib.hid o3; clear o3 gr3)
              go_roundw
              case rel => exact ⟨m + 1, A3, c3, by omega, rfl, by go_num, HO.out, HV.out, HZ.out, HB.out⟩
              case measure => simp [intOf]; omega
            · obtain rfl : m = r := by omega
              have q5 : ¬ ((m : Int) < ((N : Int) - (j : Int))) := by have := hr'.out; omega
              have q6 : 0 ≤ ((N : Int) - (j : Int)) := by have := hr'.out; omega
              go_wp2_with (go_at_call 57; refine (skipVoice_low u (((N : Int) - (j : Int))) _ hu.out (by omega) (by omega)).mono ?_; rintro e w4 ⟨rfl, b4⟩; replace HO := Lib.hid (own_below HO.out b4); replace HV := Lib.hid (HV.out.below b4); replace HZ := Lib.hid (HZ.out.below b4); replace HB := Lib.hid (below_step HB.out b4 HB.out.size); clear b4; obtain ⟨m0, m1, m2, m3, m4⟩ := HV.out.cells; obtain ⟨g0, g1, g2, g3, g4⟩ := HV.out.froz)
              go_roundw
              case rel =>
                obtain ⟨s1, s2⟩ := HV.out.set (skipV u (((N : Int) - (j : Int))))
                have ho := HO.out.kept s2 (.inr (fun e => by have := (HO.out.lt _ e).1; omega))
                rw [hs.out] at ho
                refine ⟨j + m, A2, c2, by omega, rfl, ho, ?_, HZ.out.kept s2 (by intro e; injection e with e; omega), HB.out.grown s2 HB.out.size (by intro k hk; injection hk with hk; omega)⟩
                rw [← hi.out]
                exact s1
              case measure => simp [sliceLen]; omega
    · obtain rfl : j = N := by omega
      obtain ⟨y0, y1, y2, y3, y4⟩ := HZ.out.cells
      obtain ⟨g0, g1, g2, g3, g4⟩ := HZ.out.froz
      rw [← hu2]
      clear hu2
      go_wp2
      go_region
      all_goals go_wp2
      all_goals refine bodyPost_ret (v := .tuple #[.slice A' j c', u.val]) (by simp [results, Try.results20, go_sem, y0, y1, y2, y3, y4]) rfl ?_
      obtain ⟨o1, o2⟩ := HZ.out.set u
      refine ⟨A', c', by rw [sampV_len, hu3.out], ?_, (HB.out.grown o2 HB.out.size (by intro k hk; injection hk with hk; omega)).drew⟩
      rw [sampV_len]
      have ho := own_base (b := w.heap.size) (HO.out.kept o2 (.inr (fun e => by have := (HO.out.lt _ e).1; omega))) (by omega)
      exact ho
end Go.Proofs.Ytmenehgbhgehjaa
