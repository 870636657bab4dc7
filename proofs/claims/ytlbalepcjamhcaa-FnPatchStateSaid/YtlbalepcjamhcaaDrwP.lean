/-
  What the statements on states draw: states, pairs of states. No condition.
-/
import Derived.Test.YtlbalepcjamhcaaDrw
namespace Go.Proofs.Ytlbalepcjamhcaa
open Go.RowKit
set_option linter.unusedVariables false
set_option linter.unusedSimpArgs false
set_option maxHeartbeats 2000000 in
theorem l20State_any (g : Nat) (A : Option Addr) (len cap p0 : Nat) (n : Int) (w : World) (h : Rd w g A len cap p0) (hp0 : p0 ≤ 800000000) (n0 : 0 ≤ n) (n1 : n ≤ 1000000000) :
    Calls Try.prog 48 #[.pointer (some ⟨g, 0, none⟩), .int .i64 n] w (Draws g A len cap p0 60 w (LRow w.heap.size (LenP 513))) := by
  have hown0 : (w.alloc (.cells #[] 3)).ownsRow w.heap.size 3 1 (.slice (some ⟨w.heap.size, 0, none⟩) 0 0) 0 (iv []) := World.ownsRow_lit w #[] 0 (Nat.le_refl _) (by simp [maxLen]) rfl
  have HO := Lib.hid hown0
  have hgl := h.lt
  have HD := Lib.hid ((Drs.start h).alloc (.cells #[] 3))
  clear h hown0
  go_enter Try.func48, Try.ntmps48
  go_wp2_with fail
  refine (pick_d HD.out 20 (by omega) (by omega) (by omega)).mono ?_
  rintro e W' ⟨v, rfl, ⟨x, rfl, x0, x1⟩, hD, hgr⟩
  replace HD := Lib.hid hD
  clear hD
  replace HO := Lib.hid (own_rd HO.out hgr hgl)
  clear hgr
  obtain ⟨K0, rfl⟩ := Int.eq_ofNat_of_zero_le x0
  have hK0 : K0 ≤ 19 := by omega
  clear x0 x1
  go_wp2_with fail
  go_loopw [5, 6] (fun out k wr => ∃ (K : Nat) (A' : Option Addr) (c' : Nat) (o : List Int), out = .slice A' o.length c' ∧ k = .int .i64 K ∧ o.length + K ≤ 19 ∧ wr.ownsRow w.heap.size 3 1 (.slice A' o.length c') o.length (iv o) ∧ Drs w wr g A len cap p0 (p0 + 1 + (19 - K))) (fun _ k _ => (intOf k).toNat)
  case atStart => exact ⟨K0, _, _, [], rfl, rfl, by simpa using hK0, HO.out, HD.out.more (by omega)⟩
  case round =>
    obtain ⟨K, A', c', o, rfl, rfl, hl, hown, hD⟩ := hrel
    replace HD := Lib.hid hD
    replace HO := Lib.hid hown
    clear hD hown
    by_cases hlt : 0 < K
    · have q1 : (K : Int) > 0 := by omega
      go_wp2_with fail
      refine (pick_d HD.out 4 (by omega) (by omega) (by omega)).mono ?_
      rintro e W' ⟨v, rfl, ⟨z, rfl, z0, z1⟩, hD, hgr⟩
      replace HD := Lib.hid hD
      clear hD
      replace HO := Lib.hid (own_rd HO.out hgr hgl)
      clear hgr
      have hs := HD.out.size.2
      go_wp2_with (at_builtin; refine push_own_g _ rfl _ _ rfl w.heap.size o.length c' W'.heap.size 1 A' o z rfl rfl (HO.out.alloc _) (by exact cell_new W' _ _ 0) (by omega) (by simp; omega) ?_; intro A3 c3 w3 hown3 hg3; have hD3 := (HD.out.alloc _).push hg3 (fun k hk => (HO.out.lt k hk).1); replace hown3 := Lib.hid hown3; replace hD3 := Lib.hid hD3; clear hg3)
      go_roundw
      case rel => exact ⟨K - 1, A3, c3, o ++ [z], by simp, by rw [show (K : Int) - 1 = ((K - 1 : Nat) : Int) by omega], by simp; omega, by rw [List.length_append]; exact hown3.out, hD3.out.more (by omega)⟩
      case measure => simp [intOf]; omega
    · obtain rfl : K = 0 := by omega
      go_wp2_with fail
      refine (odd_d HD.out n (by omega) n0 n1).mono ?_
      rintro e W' ⟨v, rfl, ⟨b, rfl, hb⟩, hD, hgr⟩
      replace HD := Lib.hid hD
      clear hD
      replace HO := Lib.hid (own_rd HO.out hgr hgl)
      clear hgr hb
      cases b
      · go_wp2_with fail
        go_ret
        exact draws_of HD.out (by omega) ⟨A', c', o, rfl, HO.out, by unfold LenP; omega⟩
      · go_wp2_with fail
        refine (pick_d HD.out 2 (by omega) (by omega) (by omega)).mono ?_
        rintro e W' ⟨v, rfl, ⟨x, rfl, x0, x1⟩, hD, hgr⟩
        replace HD := Lib.hid hD
        clear hD
        replace HO := Lib.hid (own_rd HO.out hgr hgl)
        clear hgr
        by_cases hx : x = 0
        · subst hx
          go_wp2_with fail
          refine (l20Byte_d HD.out 1 (by omega) (by omega) (by omega)).mono ?_
          rintro e W' ⟨v, rfl, ⟨x, rfl, y0, y1, y2⟩, hD, hgr⟩
          replace HD := Lib.hid hD
          clear hD
          replace HO := Lib.hid (own_rd HO.out hgr hgl)
          clear hgr y2
          have hs := HD.out.size.2
          go_wp2_with (at_builtin; refine push_own_g _ rfl _ _ rfl w.heap.size o.length c' W'.heap.size 1 A' o x rfl rfl (HO.out.alloc _) (by exact cell_new W' _ _ 0) (by omega) (by simp; omega) ?_; intro A3 c3 w3 hown3 hg3; have hD3 := (HD.out.alloc _).push hg3 (fun k hk => (HO.out.lt k hk).1); replace hown3 := Lib.hid hown3; replace hD3 := Lib.hid hD3; clear hg3)
          go_ret
          exact draws_of hD3.out (by omega) ⟨A3, c3, o ++ [x], by simp, by rw [List.length_append]; exact hown3.out, by unfold LenP; simp; omega⟩
        · have hx1 : (x == 0) = false := by simp; omega
          have hs := HD.out.size.2
          clear HO
          go_wp2_with (at_make; refine make_full _ rfl _ _ rfl 513 rfl rfl (by omega) w.heap.size hs ?_; intro w1 ho1 hb1; replace ho1 := Lib.hid ho1; replace hb1 := Lib.hid hb1)
          go_ret
          exact draws_of (HD.out.below hb1.out) (by omega) ⟨some ⟨W'.heap.size, 0, none⟩, 513, List.replicate 513 0, by rw [List.length_replicate]; rfl, by rw [List.length_replicate]; exact ho1.out, by unfold LenP; rw [List.length_replicate]; omega⟩
theorem l20State_d {w W : World} {g len cap p0 q : Nat} {A : Option Addr} (h : Drs w W g A len cap p0 q) (n : Int) (hq : q ≤ 800000000) (h0 : 0 ≤ n) (h1 : n ≤ 1000000000) :
    Calls Try.prog 48 #[.pointer (some ⟨g, 0, none⟩), .int .i64 n] W (Dr w W g A len cap p0 (q + 60) (LRow W.heap.size (LenP 513))) :=
  dr_of h 800000000 hq fun p hp hR => l20State_any g A len cap p n W hR hp h0 h1
/-- Two drawn lists of numbers. -/
def LPair (base m : Nat) (w : World) (v : Value) : Prop := ∃ (A B : Option Addr) (c d : Nat) (xs ys : List Int), v = .tuple #[.slice A xs.length c, .slice B ys.length d] ∧ w.ownsRow base 3 1 (.slice A xs.length c) xs.length (iv xs) ∧ w.ownsRow base 3 1 (.slice B ys.length d) ys.length (iv ys) ∧ xs.length ≤ m ∧ ys.length ≤ m
set_option maxHeartbeats 4000000 in
theorem l20States_any (g : Nat) (A : Option Addr) (len cap p0 : Nat) (w : World) (h : Rd w g A len cap p0) (hp0 : p0 ≤ 700000000) :
    Calls Try.prog 36 #[.pointer (some ⟨g, 0, none⟩)] w (Draws g A len cap p0 300 w (LPair w.heap.size 513)) := by
  have hgl := h.lt
  have HD := Lib.hid (Drs.start h)
  clear h
  go_enter Try.func36, Try.ntmps36
  go_wp2_with fail
  refine (l20State_d HD.out 14 (by omega) (by omega) (by omega)).mono ?_
  rintro e W' ⟨v, rfl, hv, hD, hgr⟩
  replace HD := Lib.hid hD
  clear hD
  obtain ⟨A1, c1, xs, rfl, o1, hL⟩ := hv
  unfold LenP at hL
  have hs1 := HD.out.size.2
  have hA1 := Lib.hid (fun k hk => (o1.lt k hk).2 : ∀ k, (Value.slice A1 xs.length c1).ownBlock = some k → k < W'.heap.size)
  have H1 := Lib.hid o1
  have HD1 := Lib.hid (HD.out.alloc (.cells #[] 3))
  have HO0 := Lib.hid (show (W'.alloc (.cells #[] 3)).ownsRow W'.heap.size 3 1 (.slice (some ⟨W'.heap.size, 0, none⟩) 0 0) 0 (iv []) from World.ownsRow_lit W' #[] 0 (Nat.le_refl _) (by simp [maxLen]) rfl)
  have HI1 := Lib.hid ((own_ints o1).below (show Below W'.heap.size W' (W'.alloc (.cells #[] 3)) by go_grown))
  clear o1 hgr
  go_wp2_with (at_builtin; refine push_list _ rfl _ _ rfl W'.heap.size 0 0 xs.length c1 W'.heap.size _ A1 [] xs rfl rfl HO0.out HI1.out (own_nilc H1.out) (by omega) (by simp) ?_; intro B1 d1 W1 o2 b2; rw [List.nil_append, Nat.zero_add] at o2; rw [Nat.zero_add]; have H2 := Lib.hid o2; have B2 := Lib.hid b2; clear o2 b2)
  have hbw := (show Below W'.heap.size W' (W'.alloc (.cells #[] 3)) by go_grown).trans B2.out
  have HA := Lib.hid (own_below H1.out hbw)
  have HD2 := Lib.hid (HD.out.below hbw)
  obtain ⟨N, hN⟩ : ∃ N, N = W'.heap.size := ⟨_, rfl⟩
  have HB := Lib.hid (show W1.ownsRow N 3 1 (.slice B1 xs.length d1) xs.length (iv xs) by rw [hN]; exact H2.out)
  have HA1 := Lib.hid (show ∀ k, (Value.slice A1 xs.length c1).ownBlock = some k → k < N by rw [hN]; exact hA1.out)
  have hNw : w.heap.size ≤ N := by rw [hN]; exact hs1
  have hgN : g < N := by omega
  replace hN := Lib.hid hN
  clear hbw hA1 H1 H2 B2 HI1 HO0 HD1 HD hs1
  go_loopw [6] (fun k wr => ∃ (K : Nat) (ys : List Int), K ≤ xs.length ∧ k = .int .i64 K ∧ wr.ownsRow N 3 1 (.slice B1 xs.length d1) xs.length (iv ys) ∧ wr.ownsRow w.heap.size 3 1 (.slice A1 xs.length c1) xs.length (iv xs) ∧ (K ≤ 40 ∧ Drs w wr g A len cap p0 (p0 + 60 + 2 * K))) (fun k _ => xs.length - (intOf k).toNat)
  case atStart => exact ⟨0, xs, Nat.zero_le _, rfl, HB.out, HA.out, by omega, HD2.out⟩
  case round =>
    obtain ⟨K, ys, hK, rfl, hb, ha, hK4, hD⟩ := hrel
    replace HD := Lib.hid hD
    replace HA := Lib.hid ha
    replace HB := Lib.hid hb
    clear hb ha hD HD2
    by_cases hlt : K < xs.length
    · have q1 : (K : Int) < (xs.length : Int) := by omega
      by_cases h40 : K < 40
      · have q2 : (K : Int) < 40 := by omega
        go_wp2_with fail
        refine (pick_d HD.out 3 (by omega) (by omega) (by omega)).mono ?_
        rintro e W' ⟨v, rfl, ⟨z, rfl, z0, z1⟩, hD, hgr⟩
        replace HD := Lib.hid hD
        clear hD
        replace HA := Lib.hid (own_rd HA.out hgr hgl)
        replace HB := Lib.hid (own_rd HB.out hgr hgN)
        clear hgr
        by_cases hz : z = 0
        · subst hz
          go_wp2_with fail
          refine (pick_d HD.out 4 (by omega) (by omega) (by omega)).mono ?_
          rintro e W' ⟨v, rfl, ⟨y, rfl, y0, y1⟩, hD, hgr⟩
          replace HD := Lib.hid hD
          clear hD
          replace HA := Lib.hid (own_rd HA.out hgr hgl)
          replace HB := Lib.hid (own_rd HB.out hgr hgN)
          clear hgr
          have hyl := own_len HB.out
          obtain ⟨gb, cb, e3, hg1, hg2⟩ := HB.out.form (by omega)
          injection e3 with e3 _ e4
          subst e3 e4
          have hcl := HB.out.cellAt K (by omega)
          rw [iv_getD (by omega)] at hcl
          have hfr := HB.out.frozenAt K
          obtain ⟨s1, k1⟩ := HB.out.stored K (.int .i64 y)
          rw [iv_set] at s1
          have HB3 := Lib.hid s1
          have HA3 := Lib.hid (HA.out.kept k1 (.inr fun e => by have := HA1.out _ e; omega))
          have HD3 := Lib.hid (HD.out.push k1 (fun k hk => by injection hk with hk; omega))
          clear s1 k1 hyl
          have q0 : (0 : Int) ≤ (K : Int) := by omega
          go_wp2_with fail
          go_roundw
          case rel => exact ⟨K + 1, ys.set K y, by omega, by go_num, HB3.out, HA3.out, by omega, HD3.out.more (by omega)⟩
          case measure => simp [intOf]; omega
        · have hz1 : (z == 0) = false := by simp; omega
          go_wp2_with fail
          go_roundw
          case rel => exact ⟨K + 1, ys, by omega, by go_num, HB.out, HA.out, by omega, HD.out.more (by omega)⟩
          case measure => simp [intOf]; omega
      · have q2 : ¬ (K : Int) < 40 := by omega
        have hyl := Lib.hid (own_len HB.out)
        go_wp2_with fail
        refine (odd_d HD.out 9 (by omega) (by omega) (by omega)).mono ?_
        rintro e W' ⟨v, rfl, ⟨b, rfl, hb⟩, hD, hgr⟩
        replace HD := Lib.hid hD
        clear hD
        replace HA := Lib.hid (own_rd HA.out hgr hgl)
        replace HB := Lib.hid (own_rd HB.out hgr hgN)
        clear hgr hb
        cases b
        · go_wp2_with fail
          refine bodyPost_ret (results_tmp2 (by rfl) _ _ _) rfl ?_
          exact draws_of HD.out (by omega) ⟨A1, B1, c1, d1, xs, ys, by rw [← hyl.out]; rfl, HA.out, by rw [← hyl.out]; exact own_base HB.out hNw, hL, by rw [← hyl.out]; exact hL⟩
        · have hs2 := HD.out.size.2
          go_wp2_with fail
          refine (l20State_d HD.out 9 (by omega) (by omega) (by omega)).mono ?_
          rintro e W' ⟨v, rfl, hv, hD, hgr⟩
          replace HD := Lib.hid hD
          clear hD
          obtain ⟨B2, c2, zs, rfl, o2, hL2⟩ := hv
          unfold LenP at hL2
          replace HA := Lib.hid (own_rd HA.out hgr hgl)
          have H2 := Lib.hid o2
          clear hgr o2
          go_wp2_with fail
          refine bodyPost_ret (results_tmp2 (by rfl) _ _ _) rfl ?_
          exact draws_of HD.out (by omega) ⟨A1, B2, c1, c2, xs, zs, rfl, HA.out, own_base H2.out hs2, hL, hL2⟩
    · have q1 : ¬ (K : Int) < (xs.length : Int) := by omega
      have hyl := Lib.hid (own_len HB.out)
      go_wp2_with fail
      refine (odd_d HD.out 9 (by omega) (by omega) (by omega)).mono ?_
      rintro e W' ⟨v, rfl, ⟨b, rfl, hb⟩, hD, hgr⟩
      replace HD := Lib.hid hD
      clear hD
      replace HA := Lib.hid (own_rd HA.out hgr hgl)
      replace HB := Lib.hid (own_rd HB.out hgr hgN)
      clear hgr hb
      cases b
      · go_wp2_with fail
        refine bodyPost_ret (results_tmp2 (by rfl) _ _ _) rfl ?_
        exact draws_of HD.out (by omega) ⟨A1, B1, c1, d1, xs, ys, by rw [← hyl.out]; rfl, HA.out, by rw [← hyl.out]; exact own_base HB.out hNw, hL, by rw [← hyl.out]; exact hL⟩
      · have hs2 := HD.out.size.2
        go_wp2_with fail
        refine (l20State_d HD.out 9 (by omega) (by omega) (by omega)).mono ?_
        rintro e W' ⟨v, rfl, hv, hD, hgr⟩
        replace HD := Lib.hid hD
        clear hD
        obtain ⟨B2, c2, zs, rfl, o2, hL2⟩ := hv
        unfold LenP at hL2
        replace HA := Lib.hid (own_rd HA.out hgr hgl)
        have H2 := Lib.hid o2
        clear hgr o2
        go_wp2_with fail
        refine bodyPost_ret (results_tmp2 (by rfl) _ _ _) rfl ?_
        exact draws_of HD.out (by omega) ⟨A1, B2, c1, c2, xs, zs, rfl, HA.out, own_base H2.out hs2, hL, hL2⟩
theorem l20States_d {w W : World} {g len cap p0 q : Nat} {A : Option Addr} (h : Drs w W g A len cap p0 q) (hq : q ≤ 700000000) :
    Calls Try.prog 36 #[.pointer (some ⟨g, 0, none⟩)] W (Dr w W g A len cap p0 (q + 300) (LPair W.heap.size 513)) :=
  dr_of h 700000000 hq fun p hp hR => l20States_any g A len cap p W hR hp
end Go.Proofs.Ytlbalepcjamhcaa
