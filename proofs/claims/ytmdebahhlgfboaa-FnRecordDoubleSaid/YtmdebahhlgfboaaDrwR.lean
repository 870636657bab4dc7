/-
  What the statements on recordings draw: lists of buttons, lists of parts. No condition.
-/
import Derived.Test.YtmdebahhlgfboaaDrw
import Derived.Test.YtmdebahhlgfboaaRecL
namespace Go.Proofs.Ytmdebahhlgfboaa
open Go.RowKit
set_option linter.unusedVariables false
set_option linter.unusedSimpArgs false
/-- One of some literals, behind a call of the reader. -/
theorem lits_at {W W3 : World} {g K : Nat} (xs : List Int) {t : TypeId} (hgr : (W.alloc (.cells (xs.map (Value.int .i64)).toArray t)).grownBy W3 (some g)) (hne : W.heap.size ≠ g) (hK : K < xs.length) :
    ∃ Y, W3.cell? ⟨W.heap.size, K, none⟩ = some (.int .i64 Y) ∧ Y ∈ xs := by
  refine ⟨xs[K], grown_cell hgr (by simp) (by intro e; injection e with e; exact hne e) ?_, List.getElem_mem hK⟩
  rw [cell_new]
  simp [hK]
def LenP (m : Nat) (xs : List Int) : Prop := xs.length ≤ m
theorem own_nilc {w : World} {base e size n c : Nat} {A : Option Addr} {xs : List Value} (o : w.ownsRow base e size (.slice A n c) n xs) : A = none → c = 0 := by
  rintro rfl
  rcases own_block o with ⟨_, _, h⟩ | ⟨g, e, _⟩
  · exact h
  · cases e
set_option maxHeartbeats 2000000 in
theorem l20Buttons_any (g : Nat) (A : Option Addr) (len cap p0 M : Nat) (n : Int) (w : World) (h : Rd w g A len cap p0) (hp0 : p0 ≤ 800000000) (hM : M ≤ 300) (n0 : 0 ≤ n) (n1 : n ≤ 1000000000) :
    Calls Try.prog 51 #[.pointer (some ⟨g, 0, none⟩), .int .i64 M, .int .i64 n] w (Draws g A len cap p0 1000 w (LRow w.heap.size (LenP 301))) := by
  have hown0 : (w.alloc (.cells #[] 3)).ownsRow w.heap.size 3 1 (.slice (some ⟨w.heap.size, 0, none⟩) 0 0) 0 (iv []) := World.ownsRow_lit w #[] 0 (Nat.le_refl _) (by simp [maxLen]) rfl
  have HO := Lib.hid hown0
  have hgl := h.lt
  have HD := Lib.hid ((Drs.start h).alloc (.cells #[] 3))
  clear h hown0
  go_enter Try.func51, Try.ntmps51
  go_wp2_with fail
  refine (pick_d HD.out ((M : Int) + 1) (by omega) (by omega) (by omega)).mono ?_
  rintro e W' ⟨v, rfl, ⟨x, rfl, x0, x1⟩, hD, hgr⟩
  replace HD := Lib.hid hD
  clear hD
  replace HO := Lib.hid (own_rd HO.out hgr hgl)
  clear hgr
  obtain ⟨K0, rfl⟩ := Int.eq_ofNat_of_zero_le x0
  have hK0 : K0 ≤ M := by omega
  clear x0 x1
  go_wp2_with fail
  go_loopw [7, 8, 9] (fun out b k wr => ∃ (K : Nat) (A' : Option Addr) (c' : Nat) (o : List Int) (bb : Int), out = .slice A' o.length c' ∧ b = .int .i64 bb ∧ k = .int .i64 K ∧ o.length + K ≤ M ∧ wr.ownsRow w.heap.size 3 1 (.slice A' o.length c') o.length (iv o) ∧ Drs w wr g A len cap p0 (p0 + 1 + 3 * (M - K))) (fun _ _ k _ => (intOf k).toNat)
  case atStart => exact ⟨K0, _, _, [], 0, rfl, rfl, rfl, by simpa using hK0, HO.out, HD.out.more (by omega)⟩
  case round =>
    obtain ⟨K, A', c', o, bb, rfl, rfl, rfl, hl, hown, hD⟩ := hrel
    replace HD := Lib.hid hD
    replace HO := Lib.hid hown
    clear hD hown
    by_cases hlt : 0 < K
    · have q1 : (K : Int) > 0 := by omega
      go_wp2_with fail
      refine (pick_d HD.out 3 (by omega) (by omega) (by omega)).mono ?_
      rintro e W' ⟨v, rfl, ⟨z, rfl, z0, z1⟩, hD, hgr⟩
      replace HD := Lib.hid hD
      clear hD
      replace HO := Lib.hid (own_rd HO.out hgr hgl)
      clear hgr
      by_cases hz : z = 0
      · subst hz
        clear z0 z1
        go_wp2_with fail
        refine (pick_d HD.out 256 (by omega) (by omega) (by omega)).mono ?_
        rintro e W' ⟨v, rfl, ⟨y, rfl, y0, y1⟩, hD, hgr⟩
        replace HD := Lib.hid hD
        clear hD
        replace HO := Lib.hid (own_rd HO.out hgr hgl)
        clear hgr
        have hs8 := HD.out.size
        go_wp2_with fail
        refine (pick_d (HD.out.alloc _) 4 (by omega) (by omega) (by omega)).mono ?_
        rintro e W8 ⟨v, rfl, ⟨q, rfl, q0, q9⟩, hD, hgr⟩
        replace HD := Lib.hid hD
        replace HO := Lib.hid (own_rd (HO.out.alloc _) hgr hgl)
        obtain ⟨Q, rfl⟩ := Int.eq_ofNat_of_zero_le q0
        have q2 : (Q : Int) < 4 := by omega
        have q3 : Q < 4 := by omega
        obtain ⟨Y, hY, -⟩ := lits_at [0, 1, 2, y] (K := Q) hgr (by omega) (by simpa using q3)
        clear hgr hD
        obtain ⟨W9, hW9⟩ : ∃ W9, W9 = W8 := ⟨_, rfl⟩
        have hs := HD.out.size.2
        go_wp2_with (at_builtin; refine push_own_g _ rfl _ _ rfl w.heap.size o.length c' W8.heap.size 1 A' o Y rfl rfl (HO.out.alloc _) (by exact cell_new W8 _ _ 0) (by omega) (by simp; omega) ?_; intro A3 c3 w3 hown3 hg3; have hD3 := (HD.out.alloc _).push hg3 (fun k hk => (HO.out.lt k hk).1); replace hown3 := Lib.hid hown3; replace hD3 := Lib.hid hD3; clear hg3)
        go_roundw
        case rel => exact ⟨K - 1, A3, c3, o ++ [Y], Y, by simp, rfl, by rw [show (K : Int) - 1 = ((K - 1 : Nat) : Int) by omega], by simp; omega, by rw [List.length_append]; exact hown3.out, hD3.out.more (by omega)⟩
        case measure => simp [intOf]; omega
      · have hz1 : (z == 0) = false := by simp; omega
        have hs := HD.out.size.2
        go_wp2_with (at_builtin; refine push_own_g _ rfl _ _ rfl w.heap.size o.length c' W'.heap.size 1 A' o bb rfl rfl (HO.out.alloc _) (by exact cell_new W' _ _ 0) (by omega) (by simp; omega) ?_; intro A3 c3 w3 hown3 hg3; have hD3 := (HD.out.alloc _).push hg3 (fun k hk => (HO.out.lt k hk).1); replace hown3 := Lib.hid hown3; replace hD3 := Lib.hid hD3; clear hg3)
        go_roundw
        case rel => exact ⟨K - 1, A3, c3, o ++ [bb], bb, by simp, rfl, by rw [show (K : Int) - 1 = ((K - 1 : Nat) : Int) by omega], by simp; omega, by rw [List.length_append]; exact hown3.out, hD3.out.more (by omega)⟩
        case measure => simp [intOf]; omega
    · obtain rfl : K = 0 := by omega
      go_wp2_with fail
      refine (odd_d HD.out n (by omega) n0 n1).mono ?_
      rintro e W' ⟨v, rfl, ⟨b, rfl, hb⟩, hD, hgr⟩
      replace HD := Lib.hid hD
      clear hD
      replace HO := Lib.hid (own_rd HO.out hgr hgl)
      clear hgr hb
      cases b
      · go_wp2_with fail
        go_ret
        exact draws_of HD.out (by omega) ⟨A', c', o, rfl, HO.out, by unfold LenP; omega⟩
      · go_wp2_with fail
        refine (pick_d HD.out 2 (by omega) (by omega) (by omega)).mono ?_
        rintro e W' ⟨v, rfl, ⟨x, rfl, x0, x1⟩, hD, hgr⟩
        replace HD := Lib.hid hD
        clear hD
        replace HO := Lib.hid (own_rd HO.out hgr hgl)
        clear hgr
        by_cases hx : x = 0
        · subst hx
          go_wp2_with fail
          refine (l20Byte_d HD.out 1 (by omega) (by omega) (by omega)).mono ?_
          rintro e W' ⟨v, rfl, ⟨x, rfl, y0, y1, y2⟩, hD, hgr⟩
          replace HD := Lib.hid hD
          clear hD
          replace HO := Lib.hid (own_rd HO.out hgr hgl)
          clear hgr y2
          have hs := HD.out.size.2
          go_wp2_with (at_builtin; refine push_own_g _ rfl _ _ rfl w.heap.size o.length c' W'.heap.size 1 A' o x rfl rfl (HO.out.alloc _) (by exact cell_new W' _ _ 0) (by omega) (by simp; omega) ?_; intro A3 c3 w3 hown3 hg3; have hD3 := (HD.out.alloc _).push hg3 (fun k hk => (HO.out.lt k hk).1); replace hown3 := Lib.hid hown3; replace hD3 := Lib.hid hD3; clear hg3)
          go_ret
          exact draws_of hD3.out (by omega) ⟨A3, c3, o ++ [x], by simp, by rw [List.length_append]; exact hown3.out, by unfold LenP; simp; omega⟩
        · have hx1 : x = 1 := by omega
          subst hx1
          go_wp2_with fail
          refine (pick_d HD.out 2 (by omega) (by omega) (by omega)).mono ?_
          rintro e W' ⟨v, rfl, ⟨y, rfl, y0, y1⟩, hD, hgr⟩
          replace HD := Lib.hid hD
          clear hD
          clear hgr HO
          obtain ⟨Y, rfl⟩ := Int.eq_ofNat_of_zero_le y0
          have hs := HD.out.size.2
          have e1 := Lib.hid (show (300 : Int) + (Y : Int) = ((300 + Y : Nat) : Int) by omega)
          have y2 : (Y : Int) ≤ 1 := by omega
          go_wp2_with (at_make; refine make_full _ rfl _ _ rfl (300 + Y) (by exact congrArg (Value.int .i64) e1.out) (by exact congrArg (Value.int .i64) e1.out) (by omega) w.heap.size hs ?_; intro w1 ho1 hb1; replace ho1 := Lib.hid ho1; replace hb1 := Lib.hid hb1)
          go_ret
          exact draws_of (HD.out.below hb1.out) (by omega) ⟨some ⟨W'.heap.size, 0, none⟩, 300 + Y, List.replicate (300 + Y) 0, by simp, by rw [List.length_replicate]; exact ho1.out, by unfold LenP; simp; omega⟩
theorem l20Buttons_d {w W : World} {g len cap p0 q : Nat} {A : Option Addr} (h : Drs w W g A len cap p0 q) (M : Nat) (n : Int) (hq : q ≤ 800000000) (hM : M ≤ 300) (h0 : 0 ≤ n) (h1 : n ≤ 1000000000) :
    Calls Try.prog 51 #[.pointer (some ⟨g, 0, none⟩), .int .i64 M, .int .i64 n] W (Dr w W g A len cap p0 (q + 1000) (LRow W.heap.size (LenP 301))) :=
  dr_of h 800000000 hq fun p hp hR => l20Buttons_any g A len cap p M n W hR hp hM h0 h1
/-- A list of parts in a block from base on. -/
def HRow (base m : Nat) (w : World) (v : Value) : Prop := ∃ A c ts, v = .slice A ts.length c ∧ w.ownsRow base 42 2 (.slice A ts.length c) ts.length (iv (flHold ts)) ∧ ts.length ≤ m
theorem flHold_set0 : ∀ (ts : List THold) (k : Nat) (y : Int), k < ts.length → (iv (flHold ts)).set (k * 2) (.int .i64 y) = iv (flHold (ts.set k (y, (ts.getD k (0, 0)).2)))
  | [], k, y, h => by simp at h
  | t :: ts, 0, y, h => by simp [flHold, iv]
  | t :: ts, k + 1, y, h => by
    have ih := flHold_set0 ts k y (by simpa using h)
    rw [show (k + 1) * 2 = k * 2 + 1 + 1 by omega]
    simp only [flHold, iv, List.map_cons, List.set_cons_succ, List.getD_cons_succ] at ih ⊢
    rw [ih]
theorem hold_setf {w : World} {g c n base E k : Nat} {ts : List THold} (h : w.ownsRow base E 2 (.slice (some ⟨g, 0, none⟩) n c) n (iv (flHold ts))) (hl : ts.length = n) (hk : k < n) (y : Int) :
    ((∃ v, w.cell? ⟨g, k * 2, none⟩ = some v) ∧ w.frozen? ⟨g, k * 2, none⟩ = false ∧ (w.setCell ⟨g, k * 2, none⟩ (.int .i64 y)).ownsRow base E 2 (.slice (some ⟨g, 0, none⟩) n c) n (iv (flHold (ts.set k (y, (ts.getD k (0, 0)).2)))) ∧ w.grownBy (w.setCell ⟨g, k * 2, none⟩ (.int .i64 y)) (some g)) ∧
    (∃ v, w.cell? ⟨g, k * 2 + 1, none⟩ = some v) ∧ w.frozen? ⟨g, k * 2 + 1, none⟩ = false ∧ (w.setCell ⟨g, k * 2 + 1, none⟩ (.int .i64 y)).ownsRow base E 2 (.slice (some ⟨g, 0, none⟩) n c) n (iv (flHold (ts.set k ((ts.getD k (0, 0)).1, y)))) ∧ w.grownBy (w.setCell ⟨g, k * 2 + 1, none⟩ (.int .i64 y)) (some g) := by
  obtain ⟨⟨c0, c1⟩, ⟨f0, f1⟩, -⟩ := hold_store h hk
  obtain ⟨a0, b0⟩ := h.stored (k * 2) (.int .i64 y)
  obtain ⟨a1, b1⟩ := h.stored (k * 2 + 1) (.int .i64 y)
  rw [flHold_set0 ts k y (by omega)] at a0
  rw [flHold_set1 ts k y (by omega)] at a1
  exact ⟨⟨⟨_, c0⟩, f0, a0, b0⟩, ⟨_, c1⟩, f1, a1, b1⟩
set_option maxHeartbeats 2000000 in
theorem l20Holds_any (g : Nat) (A : Option Addr) (len cap p0 M : Nat) (n : Int) (w : World) (h : Rd w g A len cap p0) (hp0 : p0 ≤ 700000000) (hM : M ≤ 300) (n0 : 0 ≤ n) (n1 : n ≤ 1000000000) :
    Calls Try.prog 54 #[.pointer (some ⟨g, 0, none⟩), .int .i64 M, .int .i64 n] w (Draws g A len cap p0 1100 w (HRow w.heap.size 301)) := by
  have hgl := h.lt
  have HD := Lib.hid (Drs.start h)
  clear h
  go_enter Try.func54, Try.ntmps54
  go_wp2_with fail
  refine (l20Buttons_d HD.out M 0 (by omega) hM (by omega) (by omega)).mono ?_
  rintro e W' ⟨v, rfl, hv, hD, hgr⟩
  replace HD := Lib.hid hD
  clear hD
  obtain ⟨B, cB, xs, rfl, hO, hL⟩ := hv
  unfold LenP at hL
  have HX := Lib.hid hO
  have hs1 := HD.out.size.2
  clear hO hgr
  go_wp2_with fail
  refine (recordFrames_spec B xs.length cB xs _ (own_ints HX.out) (by omega)).mono ?_
  rintro e W2 ⟨A', c', rfl, o2, b2⟩
  replace HD := Lib.hid (HD.out.below b2)
  have HO := Lib.hid (own_base (b := w.heap.size) o2 hs1)
  have hl := recR_len xs
  generalize recR xs = o at HO hl
  clear o2 b2 HX hs1
  by_cases h0 : o.length = 0
  · obtain rfl : o = [] := List.length_eq_zero_iff.1 h0
    go_wp2_with fail
    go_ret
    exact draws_of HD.out (by omega) ⟨A', c', [], rfl, HO.out, by simp⟩
  have q1 : (o.length : Int) > 0 := by omega
  have q2 : 0 < o.length := by omega
  clear h0
  go_wp2_with fail
  refine (odd_d HD.out n (by omega) n0 n1).mono ?_
  rintro e W' ⟨v, rfl, ⟨b, rfl, hb⟩, hD, hgr⟩
  replace HD := Lib.hid hD
  clear hD
  replace HO := Lib.hid (own_rd HO.out hgr hgl)
  clear hgr hb
  cases b
  · go_wp2_with fail
    go_ret
    exact draws_of HD.out (by omega) ⟨A', c', o, rfl, HO.out, by omega⟩
  go_wp2_with fail
  refine (pick_d HD.out (o.length : Int) (by omega) (by omega) (by omega)).mono ?_
  rintro e W' ⟨v, rfl, ⟨x, rfl, x0, x1⟩, hD, hgr⟩
  replace HD := Lib.hid hD
  clear hD
  replace HO := Lib.hid (own_rd HO.out hgr hgl)
  clear hgr
  obtain ⟨K0, rfl⟩ := Int.eq_ofNat_of_zero_le x0
  have hK : K0 < o.length := by omega
  have hK1 : (K0 : Int) < (o.length : Int) := by omega
  clear x0 x1
  go_wp2_with fail
  refine (pick_d HD.out 4 (by omega) (by omega) (by omega)).mono ?_
  rintro e W' ⟨v, rfl, ⟨z, rfl, z0, z1⟩, hD, hgr⟩
  replace HD := Lib.hid hD
  clear hD
  replace HO := Lib.hid (own_rd HO.out hgr hgl)
  clear hgr
  obtain ⟨gb, cp, ev, gb0, gb1⟩ := HO.out.form (by omega)
  injection ev with ev _ ec
  subst ev ec
  by_cases e0 : z = 0
  · subst e0
    have hs8 := HD.out.size
    go_wp2_with fail
    refine (pick_d (HD.out.alloc _) 3 (by omega) (by omega) (by omega)).mono ?_
    rintro e W8 ⟨v, rfl, ⟨q, rfl, q0, q9⟩, hD, hgr⟩
    replace HD := Lib.hid hD
    replace HO := Lib.hid (own_rd (HO.out.alloc _) hgr hgl)
    obtain ⟨Q, rfl⟩ := Int.eq_ofNat_of_zero_le q0
    have q4 : (Q : Int) < 3 := by omega
    have q3 : Q < 3 := by omega
    obtain ⟨Y, hY, -⟩ := lits_at [0, -1, 300] (K := Q) hgr (by omega) (by simpa using q3)
    clear hgr hD
    obtain ⟨-, ⟨vf, cf⟩, ff, o', g'⟩ := hold_setf HO.out rfl hK Y
    replace o' := Lib.hid o'
    replace g' := Lib.hid g'
    go_wp2_with fail
    go_ret
    exact draws_of (HD.out.push g'.out (by intro k hk; injection hk with hk; omega)) (by omega) ⟨some ⟨gb, 0, none⟩, c', o.set K0 ((o.getD K0 (0, 0)).1, Y), by rw [List.length_set]; rfl, by rw [List.length_set]; exact o'.out, by rw [List.length_set]; omega⟩
  by_cases e1 : z = 1
  · subst e1
    go_wp2_with fail
    refine (l20Byte_d HD.out 1 (by omega) (by omega) (by omega)).mono ?_
    rintro e W' ⟨v, rfl, ⟨Y, rfl, y0, y1, -⟩, hD, hgr⟩
    replace HD := Lib.hid hD
    clear hD
    replace HO := Lib.hid (own_rd HO.out hgr hgl)
    clear hgr
    obtain ⟨⟨⟨vf, cf⟩, ff, o', g'⟩, -⟩ := hold_setf HO.out rfl hK Y
    replace o' := Lib.hid o'
    replace g' := Lib.hid g'
    go_wp2_with fail
    go_ret
    exact draws_of (HD.out.push g'.out (by intro k hk; injection hk with hk; omega)) (by omega) ⟨some ⟨gb, 0, none⟩, c', o.set K0 (Y, (o.getD K0 (0, 0)).2), by rw [List.length_set]; rfl, by rw [List.length_set]; exact o'.out, by rw [List.length_set]; omega⟩
  have f0 : (z == 0) = false := by simp; omega
  have f1 : (z == 1) = false := by simp; omega
  obtain ⟨⟨c0, c1⟩, -, -⟩ := hold_store HO.out (show o.length - 1 < o.length by omega)
  have w1 : IntKind.i64.wrap ((o.length : Int) - 1) = ((o.length - 1 : Nat) : Int) := by rw [IntWalk.i64_in _ (by omega)]; omega
  have w2 : (o.length : Int) - 1 = ((o.length - 1 : Nat) : Int) := by omega
  have w3 : ((o.length - 1 : Nat) : Int) < (o.length : Int) := by omega
  have w4 : (0 : Int) ≤ ((o.length - 1 : Nat) : Int) := by omega
  have w5 : IntKind.i64.wrap ((o.length - 1 : Nat) : Int) = ((o.length - 1 : Nat) : Int) := IntWalk.i64_in _ (by omega)
  generalize (o.getD (o.length - 1) (0, 0)).1 = t1 at c0
  generalize (o.getD (o.length - 1) (0, 0)).2 = t2 at c1
  have hs := HD.out.size.2
  go_wp2_with (at_builtin; refine push_hold _ rfl _ _ rfl w.heap.size o.length c' 1 1 _ (some ⟨gb, 0, none⟩) (some ⟨W'.heap.size, 0, none⟩) (flHold o) (flHold [(t1, t2)]) rfl rfl (HO.out.alloc _) (hold_lit [(t1, t2)] _ rfl (by simp)) (by intro h; cases h) (by omega) (Nat.le_trans hs (size_alloc_le _ _)) ?_; intro A3 c3 w9 hown3 hg3; rw [← flHold_app] at hown3; have hD3 := (HD.out.alloc _).push hg3 (fun k hk => (HO.out.lt k hk).1); replace hown3 := Lib.hid hown3; replace hD3 := Lib.hid hD3; clear hg3)
  go_ret
  exact draws_of hD3.out (by omega) ⟨A3, c3, o ++ [(t1, t2)], by simp, by rw [List.length_append]; exact hown3.out, by simp; omega⟩
theorem l20Holds_d {w W : World} {g len cap p0 q : Nat} {A : Option Addr} (h : Drs w W g A len cap p0 q) (M : Nat) (n : Int) (hq : q ≤ 700000000) (hM : M ≤ 300) (h0 : 0 ≤ n) (h1 : n ≤ 1000000000) :
    Calls Try.prog 54 #[.pointer (some ⟨g, 0, none⟩), .int .i64 M, .int .i64 n] W (Dr w W g A len cap p0 (q + 1100) (HRow W.heap.size 301)) :=
  dr_of h 700000000 hq fun p hp hR => l20Holds_any g A len cap p M n W hR hp hM h0 h1
/-- A drawn list of buttons. -/
def GivesXD (w : World) (e : Ending) (w' : World) : Prop := ∃ (A : Option Addr) (c : Nat) (xs : List Int), e = .returned (.slice A xs.length c) ∧ (xs.length ≤ c ∧ (A = none → c = 0)) ∧ Ints w' w'.heap.size A xs.length xs ∧ xs.length ≤ 301 ∧ Below w.heap.size w w'
theorem drawRecordFrames_any (A : Option Addr) (n c : Nat) (zs : List Int) (w : World) (h : IsRow .u8 w A n c zs) :
    Calls Try.prog 28 #[.slice A n c] w (GivesXD w) := by
  have HI := Lib.hid h
  clear h
  go_enter Try.func28, Try.ntmps28
  go_wp2_with fail
  refine (open_any A n c zs _ HI.out).mono ?_
  rintro e w1 ⟨len, cap, rfl, hR, hb1⟩
  obtain ⟨g, hg0⟩ : ∃ g, g = w.heap.size := ⟨_, rfl⟩
  rw [← hg0] at hR ⊢
  have HD := Lib.hid (Drs.start hR)
  replace hb1 := Lib.hid hb1
  have hgl := hR.lt
  replace hg0 := Lib.hid hg0
  clear hR
  go_wp2_with fail
  refine (l20Buttons_d HD.out 20 9 (by omega) (by omega) (by omega) (by omega)).mono ?_
  rintro e W' ⟨v, rfl, hv, hD, hgr⟩
  replace HD := Lib.hid hD
  clear hD
  obtain ⟨B, cB, xs, rfl, hO, hL⟩ := hv
  have HX := Lib.hid hO
  clear hO hgr
  go_wp2_with fail
  go_ret
  exact ⟨B, cB, xs, rfl, ⟨own_cap HX.out, own_nilc HX.out⟩, own_ints HX.out, hL, below_rd hb1.out (by rw [← hg0.out]; exact HD.out.hg)⟩
/-- A drawn list of parts. -/
def GivesHD (w : World) (e : Ending) (w' : World) : Prop := ∃ (A : Option Addr) (c : Nat) (ts : List THold), e = .returned (.slice A ts.length c) ∧ Reads w' w'.heap.size 2 A ts.length (iv (flHold ts)) ∧ ts.length ≤ 301 ∧ Below w.heap.size w w'
theorem drawPlayFrames_any (A : Option Addr) (n c : Nat) (zs : List Int) (w : World) (h : IsRow .u8 w A n c zs) :
    Calls Try.prog 33 #[.slice A n c] w (GivesHD w) := by
  have HI := Lib.hid h
  clear h
  go_enter Try.func33, Try.ntmps33
  go_wp2_with fail
  refine (open_any A n c zs _ HI.out).mono ?_
  rintro e w1 ⟨len, cap, rfl, hR, hb1⟩
  obtain ⟨g, hg0⟩ : ∃ g, g = w.heap.size := ⟨_, rfl⟩
  rw [← hg0] at hR ⊢
  have HD := Lib.hid (Drs.start hR)
  replace hb1 := Lib.hid hb1
  have hgl := hR.lt
  replace hg0 := Lib.hid hg0
  clear hR
  go_wp2_with fail
  refine (l20Holds_d HD.out 20 3 (by omega) (by omega) (by omega) (by omega)).mono ?_
  rintro e W' ⟨v, rfl, hv, hD, hgr⟩
  replace HD := Lib.hid hD
  clear hD
  obtain ⟨B, cB, ts, rfl, hO, hL⟩ := hv
  have HX := Lib.hid hO
  clear hO hgr
  go_wp2_with fail
  go_ret
  exact ⟨B, cB, ts, rfl, Reads.of_own HX.out, hL, below_rd hb1.out (by rw [← hg0.out]; exact HD.out.hg)⟩
def GivesHN (w : World) (e : Ending) (w' : World) : Prop := ∃ (A : Option Addr) (c : Nat) (ts : List THold) (n : Int), e = .returned (.tuple #[.slice A ts.length c, .int .i64 n]) ∧ Reads w' w'.heap.size 2 A ts.length (iv (flHold ts)) ∧ ts.length ≤ 301 ∧ (-1 ≤ n ∧ n ≤ 22) ∧ Below w.heap.size w w'
theorem drawButtonsAt_any (A : Option Addr) (n c : Nat) (zs : List Int) (w : World) (h : IsRow .u8 w A n c zs) :
    Calls Try.prog 31 #[.slice A n c] w (GivesHN w) := by
  have HI := Lib.hid h
  clear h
  go_enter Try.func31, Try.ntmps31
  go_wp2_with fail
  refine (open_any A n c zs _ HI.out).mono ?_
  rintro e w1 ⟨len, cap, rfl, hR, hb1⟩
  obtain ⟨g, hg0⟩ : ∃ g, g = w.heap.size := ⟨_, rfl⟩
  rw [← hg0] at hR ⊢
  have HD := Lib.hid (Drs.start hR)
  replace hb1 := Lib.hid hb1
  have hgl := hR.lt
  replace hg0 := Lib.hid hg0
  clear hR
  go_wp2_with fail
  refine (l20Holds_d HD.out 20 9 (by omega) (by omega) (by omega) (by omega)).mono ?_
  rintro e W' ⟨v, rfl, hv, hD, hgr⟩
  replace HD := Lib.hid hD
  clear hD
  obtain ⟨B, cB, ts, rfl, hO, hL⟩ := hv
  have HX := Lib.hid hO
  clear hO hgr
  go_wp2_with fail
  refine (pick_d HD.out 24 (by omega) (by omega) (by omega)).mono ?_
  rintro e W' ⟨v, rfl, ⟨x, rfl, x0, x1⟩, hD, hgr⟩
  replace HD := Lib.hid hD
  clear hD
  replace HX := Lib.hid (own_rd HX.out hgr hgl)
  clear hgr
  go_wp2_with fail
  refine bodyPost_ret (results_tmp2 (by rfl) _ _ _) rfl ?_
  exact ⟨B, cB, ts, x - 1, rfl, Reads.of_own HX.out, hL, ⟨by omega, by omega⟩, below_rd hb1.out (by rw [← hg0.out]; exact HD.out.hg)⟩
end Go.Proofs.Ytmdebahhlgfboaa
