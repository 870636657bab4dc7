/-
  Walk of the law FnNoiseSamples: whatever the code, the law returns true. No condition.
-/
import Derived.Test.YtdhhkdkaigplaaaNoiseLaws
import Derived.Test.YtdhhkdkaigplaaaNoiseSL
import Derived.Test.YtdhhkdkaigplaaaRd
namespace Go.Proofs.Ytdhhkdkaigplaaa
open Go.RowKit
set_option linter.unusedVariables false
set_option linter.unusedSimpArgs false
theorem samp_get (s : Int) (n k : Nat) (h : k < n) : (samp s n).getD k 0 = itN s k % 2 := by
  simp [samp, List.getD_eq_getElem?_getD, h]
theorem samp_take (s : Int) (n k : Nat) (h : k ≤ n) : (samp s n).take k = samp s k := by
  simp [samp, ← List.map_take, List.take_range, Nat.min_eq_left h]
/-- A cut at the end reads as the list's head. -/
theorem Ints.take {w : World} {B n k : Nat} {A : Option Addr} {xs : List Int} (h : Ints w B A n xs) (hk : k ≤ n) : Ints w B A k (xs.take k) := by
  have hl := h.len
  refine ⟨by simp [iv_len, hl]; omega, fun h0 => ?_⟩
  obtain ⟨ad, e, hb, hc⟩ := h.2 (by omega)
  refine ⟨ad, e, hb, fun j u hu => hc j u ?_⟩
  obtain ⟨hj, rfl⟩ := iv_get hu
  have hj2 : j < xs.length := by simp at hj; omega
  rw [iv_at hj2]
  simp
theorem own_cap {w : World} {base e size n c : Nat} {A : Option Addr} {xs : List Value} (h : w.ownsRow base e size (.slice A n c) n xs) : n ≤ c := by
  rcases h.2 with ⟨h1, rfl⟩ | ⟨g, cap, cur, h1, _, _, hnc, _⟩
  · exact Nat.zero_le _
  · injection h1 with _ _ h3; rw [h3]; exact hnc
/-- A slice that reads as numbers, wherever it lies. -/
def IntsV (n : Nat) (xs : List Int) (w : World) (v : Value) : Prop := ∃ A c, v = .slice A n c ∧ Ints w w.heap.size A n xs
theorem st_intsV (n : Nat) (xs : List Int) : Stable none (IntsV n xs) := by
  rintro w w' v hg ⟨A, c, rfl, h⟩
  exact ⟨A, c, rfl, h.step (Nat.le_refl _) (below_of_grown hg (Nat.le_refl _) (by intro k hk; cases hk))⟩
theorem st_val' (row : Option Nat) (u : Value) : Stable row (IsVal u) := fun _ _ _ _ h => h
theorem ob_sliceTo {o : Oper} {a : Act} {w : World} {K : Act → World → Prop} {Q : Exit → Act → World → Prop} (x y : Operand) {A : Option Addr} {n c h : Nat} (ho : o.op = .slice 46 x none (some y) none)
    (hx : a.eval x = .slice A n c) (hy : a.eval y = .int .i64 (h : Int)) (h1 : h ≤ c) (h2 : h ≤ 1000000000) (hk : K (a.put o.dst (.slice A h c)) w) : o.wp Try.prog a w K Q := by
  have hr : (Instr.sliceAt 46 (.slice A n c) none (some (.int .i64 (h : Int))) none).run Try.prog w = .ok (.slice A h c) w := by
    have e0 : (0 : Int) ≤ (h : Int) := by omega
    have e1 : (h : Int) ≤ (c : Int) := by omega
    simp [go_sem, e0, e1]
  unfold Oper.wp execOp
  simp only [ho, hx, hy, hr, Sem.run_bind, Sem.run_pure, Result.andThen_ok, Option.map_none, Option.map_some]
  exact hk
set_option maxHeartbeats 2000000 in
theorem fnNoiseSamples_walk (w : World) (A : Option Addr) (n c : Nat) (zs : List Int) (h : IsRow .u8 w A n c zs) :
    Calls Try.prog 14 #[.slice A n c] w fun e w' => e = .returned (.bool true) ∧ Below w.heap.size w w' := by
  by_cases hlong : 1048576 < n
  · go_enter Try.func14, Try.ntmps14
    go_wp2_with fail
    go_ret
    exact ⟨rfl, Below.refl _ _⟩
  have HI := Lib.hid h
  clear h
  have hl2 : ¬ 1048576 < n := hlong
  go_enter Try.func14, Try.ntmps14
  go_wp2_with fail
  refine (drawNoiseSamples_any A n c zs _ HI.out).mono ?_
  rintro e w1 ⟨s, m, rfl, s0, s1, m0, m1, hb⟩
  have hw1 := hb.size
  have HB := Lib.hid hb
  clear hb
  go_wp2_with fail
  refine (samples_impl s m _).mono ?_
  rintro e w2 ⟨A1, n1, c1, rfl, o1, b1⟩
  obtain rfl := own_len o1
  have hcc := own_cap o1
  go_wp2_with fail
  refine (samples_spec s m _).mono ?_
  rintro e w3 ⟨A2, n2, c2, rfl, o2, b2⟩
  obtain rfl := own_len o2
  have hlen := sampR_len s m
  have r1 := (own_ints o1).step (Nat.le_refl _) b2
  have r2 := own_ints o2
  have HB3 := Lib.hid ((HB.out.trans (b1.mono hw1)).trans (b2.mono (Nat.le_trans hw1 b1.size)))
  have hw3 : w.heap.size ≤ w3.heap.size := Nat.le_trans hw1 (Nat.le_trans b1.size b2.size)
  clear o1 o2 b1 b2 HB
  obtain ⟨L, hL⟩ : ∃ L, L = (sampR s m).length := ⟨_, rfl⟩
  rw [← hL] at r1 r2 hlen hcc ⊢
  replace hL := Lib.hid hL
  have hc1 := Lib.hid hcc
  have R1 := Lib.hid r1
  have R2 := Lib.hid r2
  clear r1 r2
  go_wp2_with fail
  refine (sameInts_same A1 A2 L _ _ _ _ R1.out R2.out (by omega)).mono ?_
  rintro e w4 ⟨rfl, b4⟩
  have R4 := Lib.hid (R1.out.step (Nat.le_refl _) b4)
  have HB4 := Lib.hid (HB3.out.trans (b4.mono hw3))
  have hw4 : w.heap.size ≤ w4.heap.size := Nat.le_trans hw3 b4.size
  clear b4 R1 R2
  cases hv : (inB s 1 32767 && inB m 0 400)
  · have e0 : sampR s m = [] := by simp [sampR, hv]
    have hL0 : L = 0 := by rw [hL.out, e0]; rfl
    subst hL0
    clear e0 hL R4
    by_cases hm : m = 0
    · subst hm
      go_wp2_with (go_at_call 25; refine (alive_any _).mono ?_; rintro e w' ⟨rfl, rfl⟩)
      go_ret
      exact ⟨rfl, HB4.out⟩
    · have hm2 : ((0 : Int) != m) = true := by simp; omega
      go_wp2_with (go_at_call 25; refine (alive_any _).mono ?_; rintro e w' ⟨rfl, rfl⟩)
      go_ret
      exact ⟨rfl, HB4.out⟩
  rw [Bool.and_eq_true] at hv
  obtain ⟨hs, hm⟩ := hv
  obtain ⟨M, rfl⟩ := Int.eq_ofNat_of_zero_le (inB_iff.1 hm).1
  have e0 : sampR s M = samp s M := by simp [sampR, hs, hm]
  rw [e0] at hL R4
  have hLM : L = M := by rw [hL.out, samp_len]
  subst hLM
  have HE := Lib.hid e0
  clear e0 hL
  by_cases hz : L = 0
  · subst hz
    clear R4
    go_wp2_with (go_at_call 25; refine (alive_any _).mono ?_; rintro e w' ⟨rfl, rfl⟩)
    go_ret
    exact ⟨rfl, HB4.out⟩
  have hz1 : ((L : Int) == 0) = false := by simp; omega
  have hz2 : ((L : Int) != (L : Int)) = false := by simp
  have hs0 := Lib.hid hs
  have hm0 := Lib.hid hm
  clear hs hm
  go_wp2_with fail
  go_loop [6, 7] (fun st i => ∃ k : Nat, k ≤ L ∧ i = .int .i64 k ∧ st = .int .i64 (itN s k)) (fun _ i => L - (intOf i).toNat)
  case atStart => exact ⟨0, Nat.zero_le _, rfl, rfl⟩
  case round =>
    obtain ⟨k, hk, rfl, rfl⟩ := hrel
    by_cases hlt : k < L
    · have hst := itN_state hs0.out k
      obtain ⟨t1, t2⟩ := inB_iff.1 hst
      obtain ⟨b, off, rfl, _, hcell⟩ := R4.out.spot hlt
      rw [samp_get s L k hlt] at hcell
      obtain ⟨st, he⟩ : ∃ st, itN s k = st := ⟨_, rfl⟩
      rw [he] at hcell t1 t2
      have HS := Lib.hid he
      clear hst he R4
      rw [HS.out]
      go_wp2_with (go_at_call 18; refine (next_impl _ _).mono ?_; rintro e w' ⟨rfl, rfl⟩)
      go_round
      case rel => exact ⟨k + 1, by omega, by go_num, by rw [itN, HS.out]⟩
      case measure => simp [intOf]; omega
    · obtain rfl : k = L := by omega
      have hH : ∀ W : World, Calls Try.prog 33 #[.int .i64 s, .int .i64 ((k / 2 : Nat) : Int)] W fun e w' => ∃ A c, e = .returned (.slice A (k / 2) c) ∧ Ints w' w'.heap.size A (k / 2) (samp s (k / 2)) ∧ Below W.heap.size W w' := by
        intro W
        refine (samples_impl s ((k / 2 : Nat) : Int) W).mono ?_
        rintro e w' ⟨A', m', c', rfl, o', b'⟩
        have e1 : sampR s ((k / 2 : Nat) : Int) = samp s (k / 2) := by
          have hq : inB ((k / 2 : Nat) : Int) 0 400 = true := inB_true (by have := inB_iff.1 hm0.out; omega)
          simp only [sampR, hs0.out, hq, Bool.and_self, if_true, Int.toNat_natCast]
        rw [e1] at o'
        have e2 := own_len o'
        rw [samp_len] at e2
        subst e2
        exact ⟨A', c', rfl, own_ints o', b'⟩
      have HH := Lib.hid hH
      have R5 := Lib.hid ((R4.out.take (k := k / 2) (by omega)))
      rw [samp_take s k (k / 2) (by omega)] at R5
      have hq : k / 2 ≤ k := by omega
      have hcap : k ≤ c1 := hc1.out
      clear hH R4
      have hk0 : (0 : Int) ≤ (k : Int) := by omega
      have hk2 : (k : Int) / 2 = ((k / 2 : Nat) : Int) := by omega
      have HK2 := Lib.hid hk2
      clear hk2
      go_upto_region 16 with (fail)
      refine region_list none (IsVal (.int .i64 s) :: IsVal (.int .i64 k) :: IsVal (.int .i64 ((k / 2 : Nat) : Int)) :: IntsV (k / 2) (samp s (k / 2)) :: IsVal (.slice A1 k c1) :: IsVal (.int .i64 k) :: IsVal (.int .i64 ((k / 2 : Nat) : Int)) :: IsVal (.slice A1 (k / 2) c1) :: IsVal (.bool true) :: IsVal (.bool true) :: [])
        (fun _ w' => World.grownBy w4 w' none) ?_ ?_ ?_ ?_ ?_ ?_ ?_
      · kernel_rfl
      · exact ⟨st_val' _ _, st_val' _ _, st_val' _ _, st_intsV _ _, st_val' _ _, st_val' _ _, st_val' _ _, st_val' _ _, st_val' _ _, st_val' _ _, trivial⟩
      · exact of_decide_eq_true (by kernel_rfl)
      · kernel_rfl
      · exact grown_drew _ _
      · refine each_cons ?_ (each_cons ?_ (each_cons ?_ (each_cons ?_ (each_cons ?_ (each_cons ?_ (each_cons ?_ (each_cons ?_ (each_cons ?_ (each_cons ?_ trivial)))))))))
        · intro n vs aa w' haa hJ hd K hK
          refine ob_plain rfl ?_
          refine ob_move _ (v := .int .i64 s) rfl (ev_of haa (by kernel_rfl)) ?_
          refine hK _ _ ?_ (World.grownBy.refl _ _) hJ
          show (IsVal _) w' _
          exact rfl
        · intro n vs aa w' haa hJ hd K hK
          refine ob_plain rfl ?_
          refine ob_move _ (v := .int .i64 k) rfl (ev_of haa (by kernel_rfl)) ?_
          refine hK _ _ ?_ (World.grownBy.refl _ _) hJ
          show (IsVal _) w' _
          exact rfl
        · intro n vs aa w' haa hJ hd K hK
          refine ob_plain rfl ?_
          have e1 : (IsVal (.int .i64 k)) w' (vs 1) := hd.1 rfl
          refine ob_quo _ _ (u := (k : Int)) (v := 2) rfl (Eq.trans (b := vs 1) (ev_of haa (by kernel_rfl)) e1) (ev_of haa (by kernel_rfl)) (by omega) (by omega) (by omega) ?_
          refine hK _ _ ?_ (World.grownBy.refl _ _) hJ
          show (IsVal _) w' _
          rw [HK2.out]
          exact rfl
        · intro n vs aa w' haa hJ hd K hK
          refine ob_plain rfl ?_
          have e0 : (IsVal (.int .i64 s)) w' (vs 0) := hd.1 rfl
          have e2 : (IsVal (.int .i64 ((k / 2 : Nat) : Int))) w' (vs 2) := hd.2.1 rfl
          refine ob_call 33 _ _ #[.int .i64 s, .int .i64 ((k / 2 : Nat) : Int)] rfl (Eq.trans (b := #[vs 0, vs 2]) (evs_of haa (by kernel_rfl)) (by rw [e0, e2])) (fun _ _ => by kernel_rfl) ?_
          refine (HH.out _).mono ?_
          rintro e w5 ⟨A3, c3, rfl, r3, b3⟩
          refine ⟨_, rfl, ?_⟩
          refine hK _ w5 ?_ (grown_of_below b3 _) (World.grownBy.trans hJ (grown_of_below b3 _))
          show (IntsV _ _) w5 _
          exact ⟨A3, c3, rfl, r3⟩
        · intro n vs aa w' haa hJ hd K hK
          refine ob_plain rfl ?_
          refine ob_move _ (v := .slice A1 k c1) rfl (ev_of haa (by kernel_rfl)) ?_
          refine hK _ _ ?_ (World.grownBy.refl _ _) hJ
          show (IsVal _) w' _
          exact rfl
        · intro n vs aa w' haa hJ hd K hK
          refine ob_plain rfl ?_
          refine ob_move _ (v := .int .i64 k) rfl (ev_of haa (by kernel_rfl)) ?_
          refine hK _ _ ?_ (World.grownBy.refl _ _) hJ
          show (IsVal _) w' _
          exact rfl
        · intro n vs aa w' haa hJ hd K hK
          refine ob_plain rfl ?_
          have e1 : (IsVal (.int .i64 k)) w' (vs 5) := hd.1 rfl
          refine ob_quo _ _ (u := (k : Int)) (v := 2) rfl (Eq.trans (b := vs 5) (ev_of haa (by kernel_rfl)) e1) (ev_of haa (by kernel_rfl)) (by omega) (by omega) (by omega) ?_
          refine hK _ _ ?_ (World.grownBy.refl _ _) hJ
          show (IsVal _) w' _
          rw [HK2.out]
          exact rfl
        · intro n vs aa w' haa hJ hd K hK
          refine ob_plain rfl ?_
          have e4 : (IsVal (.slice A1 k c1)) w' (vs 4) := hd.1 rfl
          have e6 : (IsVal (.int .i64 ((k / 2 : Nat) : Int))) w' (vs 6) := hd.2.1 rfl
          refine ob_sliceTo _ _ (A := A1) (n := k) (c := c1) (h := k / 2) rfl (Eq.trans (b := vs 4) (ev_of haa (by kernel_rfl)) e4) (Eq.trans (b := vs 6) (ev_of haa (by kernel_rfl)) e6) (by omega) (by omega) ?_
          refine hK _ _ ?_ (World.grownBy.refl _ _) hJ
          show (IsVal _) w' _
          exact rfl
        · intro n vs aa w' haa hJ hd K hK
          refine ob_plain rfl ?_
          have d3 : (IntsV (k / 2) (samp s (k / 2))) w' (vs 3) := hd.1 rfl
          obtain ⟨A3, c3, e3, r3⟩ := d3
          have e7 : (IsVal (.slice A1 (k / 2) c1)) w' (vs 7) := hd.2.1 rfl
          refine ob_call 38 _ _ #[.slice A3 (k / 2) c3, .slice A1 (k / 2) c1] rfl (Eq.trans (b := #[vs 3, vs 7]) (evs_of haa (by kernel_rfl)) (by rw [e3, e7])) (fun _ _ => by kernel_rfl) ?_
          have bJ : Below w4.heap.size w4 w' := below_of_grown hJ (Nat.le_refl _) (by intro k hk; cases hk)
          refine (sameInts_same _ _ (k / 2) _ _ _ _ r3 (R5.out.step (Nat.le_refl _) bJ) (by omega)).mono ?_
          rintro e w6 ⟨rfl, b6⟩
          refine ⟨_, rfl, ?_⟩
          refine hK _ w6 ?_ (grown_of_below b6 _) (World.grownBy.trans hJ (grown_of_below b6 _))
          show (IsVal _) w6 _
          exact rfl
        · intro n vs aa w' haa hJ hd K hK
          refine ob_plain rfl ?_
          have e8 : (IsVal (.bool true)) w' (vs 8) := hd.1 rfl
          refine ob_assign _ (v := .bool true) rfl (Eq.trans (b := vs 8) (ev_of haa (by kernel_rfl)) e8) ?_
          refine hK _ _ ?_ (World.grownBy.refl _ _) hJ
          show (IsVal _) w' _
          exact rfl
      · intro vs w' hJ hall
        have hx : vs 9 = .bool true := hall 9 (by decide)
        clear hall
        have HG := Lib.hid hJ
        clear hJ
        simp only [fill, Act.put, List.toList_toArray, List.setIfInBounds_toArray, List.set_cons_zero, List.set_cons_succ, Nat.zero_add, Nat.reduceAdd, hx]
        go_wp2_with fail
        go_ret
        exact ⟨rfl, HB4.out.trans (below_of_grown HG.out hw4 (by intro k hk; cases hk))⟩
end Go.Proofs.Ytdhhkdkaigplaaa
