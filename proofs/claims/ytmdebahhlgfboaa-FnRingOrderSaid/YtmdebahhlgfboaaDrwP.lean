/-
  What the statements on states draw: states, pairs of states. No condition.
-/
import Derived.Test.YtmdebahhlgfboaaDrw
namespace Go.Proofs.Ytmdebahhlgfboaa
open Go.RowKit
set_option linter.unusedVariables false
set_option linter.unusedSimpArgs false
set_option maxHeartbeats 2000000 in
theorem l20State_any (g : Nat) (A : Option Addr) (len cap p0 : Nat) (n : Int) (w : World) (h : Rd w g A len cap p0) (hp0 : p0 ≤ 800000000) (n0 : 0 ≤ n) (n1 : n ≤ 1000000000) :
    Calls Try.prog 56 #[.pointer (some ⟨g, 0, none⟩), .int .i64 n] w (Draws g A len cap p0 60 w (LRow w.heap.size (LenP 513))) := by
  have hown0 : (w.alloc (.cells #[] 3)).ownsRow w.heap.size 3 1 (.slice (some ⟨w.heap.size, 0, none⟩) 0 0) 0 (iv []) := World.ownsRow_lit w #[] 0 (Nat.le_refl _) (by simp [maxLen]) rfl
  have HO := Lib.hid hown0
  have hgl := h.lt
  have HD := Lib.hid ((Drs.start h).alloc (.cells #[] 3))
  clear h hown0
  go_enter Try.func56, Try.ntmps56
  go_wp2_with fail
  refine (pick_d HD.out 20 (by omega) (by omega) (by omega)).mono ?_
  rintro e W' ⟨v, rfl, ⟨x, rfl, x0, x1⟩, hD, hgr⟩
  replace HD := Lib.hid hD
  clear hD
  replace HO := Lib.hid (own_rd HO.out hgr hgl)
  clear hgr
  obtain ⟨K0, rfl⟩ := Int.eq_ofNat_of_zero_le x0
  have hK0 : K0 ≤ 19 := by omega
  clear x0 x1
  go_wp2_with fail
  go_loopw [5, 6] (fun out k wr => ∃ (K : Nat) (A' : Option Addr) (c' : Nat) (o : List Int), out = .slice A' o.length c' ∧ k = .int .i64 K ∧ o.length + K ≤ 19 ∧ wr.ownsRow w.heap.size 3 1 (.slice A' o.length c') o.length (iv o) ∧ Drs w wr g A len cap p0 (p0 + 1 + (19 - K))) (fun _ k _ => (intOf k).toNat)
  case atStart => exact ⟨K0, _, _, [], rfl, rfl, by simpa using hK0, HO.out, HD.out.more (by omega)⟩
  case round =>
    obtain ⟨K, A', c', o, rfl, rfl, hl, hown, hD⟩ := hrel
    replace HD := Lib.hid hD
    replace HO := Lib.hid hown
    clear hD hown
    by_cases hlt : 0 < K
    · have q1 : (K : Int) > 0 := by omega
      go_wp2_with fail
      refine (pick_d HD.out 4 (by omega) (by omega) (by omega)).mono ?_
      rintro e W' ⟨v, rfl, ⟨z, rfl, z0, z1⟩, hD, hgr⟩
      replace HD := Lib.hid hD
      clear hD
      replace HO := Lib.hid (own_rd HO.out hgr hgl)
      clear hgr
      have hs := HD.out.size.2
      go_wp2_with (at_builtin; refine push_own_g _ rfl _ _ rfl w.heap.size o.length c' W'.heap.size 1 A' o z rfl rfl (HO.out.alloc _) (by exact cell_new W' _ _ 0) (by omega) (by simp; omega) ?_; intro A3 c3 w3 hown3 hg3; have hD3 := (HD.out.alloc _).push hg3 (fun k hk => (HO.out.lt k hk).1); replace hown3 := Lib.hid hown3; replace hD3 := Lib.hid hD3; clear hg3)
      go_roundw
      case rel => exact ⟨K - 1, A3, c3, o ++ [z], by simp, by rw [show (K : Int) - 1 = ((K - 1 : Nat) : Int) by omega], by simp; omega, by rw [List.length_append]; exact hown3.out, hD3.out.more (by omega)⟩
      case measure => simp [intOf]; omega
    · obtain rfl : K = 0 := by omega
      go_wp2_with fail
      refine (odd_d HD.out n (by omega) n0 n1).mono ?_
      rintro e W' ⟨v, rfl, ⟨b, rfl, hb⟩, hD, hgr⟩
      replace HD := Lib.hid hD
      clear hD
      replace HO := Lib.hid (own_rd HO.out hgr hgl)
      clear hgr hb
      cases b
      · go_wp2_with fail
        go_ret
        exact draws_of HD.out (by omega) ⟨A', c', o, rfl, HO.out, by unfold LenP; omega⟩
      · go_wp2_with fail
        refine (pick_d HD.out 2 (by omega) (by omega) (by omega)).mono ?_
        rintro e W' ⟨v, rfl, ⟨x, rfl, x0, x1⟩, hD, hgr⟩
        replace HD := Lib.hid hD
        clear hD
        replace HO := Lib.hid (own_rd HO.out hgr hgl)
        clear hgr
        by_cases hx : x = 0
        · subst hx
          go_wp2_with fail
          refine (l20Byte_d HD.out 1 (by omega) (by omega) (by omega)).mono ?_
          rintro e W' ⟨v, rfl, ⟨x, rfl, y0, y1, y2⟩, hD, hgr⟩
          replace HD := Lib.hid hD
          clear hD
          replace HO := Lib.hid (own_rd HO.out hgr hgl)
          clear hgr y2
          have hs := HD.out.size.2
          go_wp2_with (at_builtin; refine push_own_g _ rfl _ _ rfl w.heap.size o.length c' W'.heap.size 1 A' o x rfl rfl (HO.out.alloc _) (by exact cell_new W' _ _ 0) (by omega) (by simp; omega) ?_; intro A3 c3 w3 hown3 hg3; have hD3 := (HD.out.alloc _).push hg3 (fun k hk => (HO.out.lt k hk).1); replace hown3 := Lib.hid hown3; replace hD3 := Lib.hid hD3; clear hg3)
          go_ret
          exact draws_of hD3.out (by omega) ⟨A3, c3, o ++ [x], by simp, by rw [List.length_append]; exact hown3.out, by unfold LenP; simp; omega⟩
        · have hx1 : (x == 0) = false := by simp; omega
          have hs := HD.out.size.2
          clear HO
          go_wp2_with (at_make; refine make_full _ rfl _ _ rfl 513 rfl rfl (by omega) w.heap.size hs ?_; intro w1 ho1 hb1; replace ho1 := Lib.hid ho1; replace hb1 := Lib.hid hb1)
          go_ret
          exact draws_of (HD.out.below hb1.out) (by omega) ⟨some ⟨W'.heap.size, 0, none⟩, 513, List.replicate 513 0, by rw [List.length_replicate]; rfl, by rw [List.length_replicate]; exact ho1.out, by unfold LenP; rw [List.length_replicate]; omega⟩
theorem l20State_d {w W : World} {g len cap p0 q : Nat} {A : Option Addr} (h : Drs w W g A len cap p0 q) (n : Int) (hq : q ≤ 800000000) (h0 : 0 ≤ n) (h1 : n ≤ 1000000000) :
    Calls Try.prog 56 #[.pointer (some ⟨g, 0, none⟩), .int .i64 n] W (Dr w W g A len cap p0 (q + 60) (LRow W.heap.size (LenP 513))) :=
  dr_of h 800000000 hq fun p hp hR => l20State_any g A len cap p n W hR hp h0 h1
end Go.Proofs.Ytmdebahhlgfboaa
