/-
  What the statements on changes and stops draw: lists of structs of three numbers. No condition.
-/
import Derived.Test.YtgedfcccflobmaaDrw
import Derived.Test.YtgedfcccflobmaaTypedT
import Derived.Test.YtgedfcccflobmaaTriE
import Derived.Test.YtgedfcccflobmaaGrow
namespace Go.Proofs.Ytgedfcccflobmaa
open Go.RowKit
set_option linter.unusedVariables false
set_option linter.unusedSimpArgs false
theorem push_stop_inf : (Try.prog.info? 74).map (fun i => (i.zero, i.size, i.bytes)) = some (some (t3 (0, 0, 0)), 3, 24) := by kernel_rfl
set_option maxRecDepth 8000 in
/-- append of some structs that lie elsewhere. -/
theorem push_stop {ops : Array Oper} {rest : List Oper} {o : Oper} {a : Act} {Q : Exit → Act → World → Prop} (w : World) (hgd : o.guard = none) (s x : Operand)
    (ho : o.op = .call { callee := .builtin .append, args := #[s, x], argTypes := #[46, 46] })
    (base n c m d B : Nat) (A X : Option Addr) (xs ys : List Int) (hs : a.eval s = .slice A n c) (hx : a.eval x = .slice X m d)
    (hown : w.ownsRow base 74 3 (.slice A n c) n (iv xs)) (hy : Reads w B 3 X m (iv ys)) (hd : X = none → d = 0) (hn : n + m ≤ 10000000) (hb : base ≤ w.heap.size)
    (h : ∀ A' c' w', w'.ownsRow base 74 3 (.slice A' (n + m) c') (n + m) (iv (xs ++ ys)) → w.grownBy w' (Value.slice A n c).ownBlock → wpList Try.prog ops Q rest (a.put o.dst (.slice A' (n + m) c')) w') :
    wpList Try.prog ops Q (o :: rest) a w := by
  obtain ⟨i0, hi0, hz0, hz1, hz2⟩ := info_parts push_stop_inf
  cases X with
  | none =>
    have hm : m = 0 := by
      rcases Nat.eq_zero_or_pos m with h0 | h0
      · exact h0
      · obtain ⟨ad, e, _⟩ := hy.2 h0; cases e
    subst hm
    have hd := hd rfl
    subst hd
    have hl : ys = [] := by have := hy.1; simp [iv_len] at this; exact this
    subst hl
    refine wpList_append_own_none hgd s x 46 ho base 74 i0 3 Try.underlying46 hi0 _ n (iv xs) hs hown hx ?_
    have := h A c w (by simpa using hown) (World.grownBy.refl _ _)
    simpa using this
  | some ad =>
    refine wpList_append_own_at w hgd s x 46 ho base 74 i0 (t3 (0, 0, 0)) 3 24 Try.underlying46 hi0 hz0 hz1 hz2 rfl (by omega) _ n (iv xs) hs hown ad m d (iv ys) hx hy.1 ?_ ?_ (by simp only [maxLen]; omega) (by omega) hb ?_
    · intro j u hj
      have hm : 0 < m := by
        obtain ⟨hk, _⟩ := iv_get hj
        have := hy.1; rw [iv_len] at this
        rcases Nat.eq_zero_or_pos m with h0 | h0
        · subst h0; omega
        · exact h0
      obtain ⟨ad', e, _, hc⟩ := hy.2 hm
      injection e with e
      subst e
      exact hc j u hj
    · intro u hu
      simp only [iv, List.mem_map] at hu
      obtain ⟨z, _, rfl⟩ := hu
      rfl
    · intro v' w' ho' hg' _ hat
      obtain ⟨A', c', rfl⟩ := own_form ho'
      rw [← iv_append] at ho'
      exact h A' c' w' ho' hg'
theorem fl3_app : ∀ ts us : List Tri, fl3 (ts ++ us) = fl3 ts ++ fl3 us
  | [], us => rfl
  | t :: ts, us => by simp [fl3, fl3_app ts us]
/-- A list of structs of three numbers in a block from base on. -/
def TRow (E base m : Nat) (w : World) (v : Value) : Prop := ∃ A c ts, v = .slice A ts.length c ∧ w.ownsRow base E 3 (.slice A ts.length c) ts.length (iv (fl3 ts)) ∧ ts.length ≤ m
theorem st_trow (E base m g : Nat) (hb : g < base) : Stable (some g) (TRow E base m) := by
  rintro w w' v hg ⟨A, c, xs, rfl, o, h⟩
  exact ⟨A, c, xs, rfl, own_rd o hg hb, h⟩
/-- Three cells of a box of the call's own. -/
theorem reads_lit3 {w : World} {E : TypeId} (ts : List Tri) (cs : Array Value) (h : cs.toList = iv (fl3 ts)) (hm : ts.length ≤ 1000) : Reads (w.alloc (.cells cs E)) (w.heap.size + 1) 3 (some ⟨w.heap.size, 0, none⟩) ts.length (iv (fl3 ts)) := by
  have hs : cs.size = ts.length * 3 := by rw [← Array.length_toList, h, iv_len, fl3_len]
  have o : (w.alloc (.cells cs E)).ownsRow w.heap.size E 3 (.slice (some ⟨w.heap.size, 0, none⟩) ts.length ts.length) ts.length cs.toList := World.ownsRow_lit w cs ts.length (Nat.le_refl _) (by simp only [maxLen]; omega) hs
  rw [h] at o
  have := Reads.of_own o
  simpa using this
set_option maxRecDepth 100000 in
set_option maxHeartbeats 2000000 in
theorem l20Place_any (g : Nat) (A : Option Addr) (len cap p0 : Nat) (n : Int) (w : World) (h : Rd w g A len cap p0) (hp0 : p0 ≤ 900000000) (n0 : 0 ≤ n) (n1 : n ≤ 1000000000) :
    Calls Try.prog 70 #[.pointer (some ⟨g, 0, none⟩), .int .i64 n] w (Draws g A len cap p0 30 w (IntIn (-1) 1024)) := by
  have HD := Lib.hid (Drs.start h)
  clear h
  go_enter Try.func70, Try.ntmps70
  go_wp2_with fail
  refine (odd_d HD.out n (by omega) n0 n1).mono ?_
  rintro e W' ⟨v, rfl, ⟨b, rfl, hb⟩, hD, hgr⟩
  replace HD := Lib.hid hD
  clear hD
  clear hgr hb
  cases b
  · go_upto_region 3 with (fail)
    obtain ⟨p, hp1, hR⟩ := HD.out.rd
    have hp : p ≤ 900000001 := by omega
    refine region_list0 (some g) (IsPtr g :: IntIn (0) (255) :: IntIn (0) (1020) :: IsPtr g :: IntIn (0) (15) :: IsPtr g :: IntIn (0) (31) :: IntIn (240) (271) :: IsPtr g :: IntIn (0) (39) :: IntIn (500) (539) :: IsPtr g :: IntIn (0) (19) :: IntIn (760) (779) :: ArrIn g 5 (0) (1020) :: IsPtr g :: IntIn (0) (4) :: ElAt g (0) (1020) :: IntIn (0) (1020) :: IntIn (0) (1020) :: []) (fun n w' => World.grownBy W' w' (some g) ∧ ∃ p' : Nat, p' + 1 * n ≤ p + 20 ∧ Rd w' g A len cap p') ?_ ?_ ?_ ?_ ?_ ?_
    · exact ⟨st_ptr _ _, st_int _ _ _, st_int _ _ _, st_ptr _ _, st_int _ _ _, st_ptr _ _, st_int _ _ _, st_int _ _ _, st_ptr _ _, st_int _ _ _, st_int _ _ _, st_ptr _ _, st_int _ _ _, st_int _ _ _, st_arr _ _ _ _, st_ptr _ _, st_int _ _ _, st_el _ _ _, st_int _ _ _, st_int _ _ _, trivial⟩
    · exact of_decide_eq_true (by kernel_rfl)
    · kernel_rfl
    · exact ⟨World.grownBy.refl _ _, p, by simp, hR⟩
    · refine each_cons ?_ (each_cons ?_ (each_cons ?_ (each_cons ?_ (each_cons ?_ (each_cons ?_ (each_cons ?_ (each_cons ?_ (each_cons ?_ (each_cons ?_ (each_cons ?_ (each_cons ?_ (each_cons ?_ (each_cons ?_ (each_cons ?_ (each_cons ?_ (each_cons ?_ (each_cons ?_ (each_cons ?_ (each_cons ?_ ( trivial))))))))))))))))))))
      · intro n vs aa w' haa hJ hd K hK
        refine ob_plain rfl ?_
        refine ob_move _ (v := .pointer (some ⟨g, 0, none⟩)) rfl (ev_of haa (by kernel_rfl)) ?_
        refine hK _ _ ?_ (World.grownBy.refl _ _) ⟨hJ.1, by obtain ⟨p', h1, h2⟩ := hJ.2; exact ⟨p', by omega, h2⟩⟩
        show (IsPtr g) w' _
        exact rfl
      · intro n vs aa w' haa hJ hd K hK
        refine ob_plain rfl ?_
        have d0 : (IsPtr g) w' (vs 0) := hd.1 rfl
        have e0 := d0
        obtain ⟨hg', p', hp', hr'⟩ := hJ
        refine ob_call 53 _ _ #[.pointer (some ⟨g, 0, none⟩), .int .i64 (256)] rfl (Eq.trans (b := #[vs 0, .int .i64 (256)]) (evs_of haa (by kernel_rfl)) (by rw [e0])) (fun _ _ => by kernel_rfl) ?_
        refine (pick_any g A len cap p' (256) _ hr' (by omega) (by omega) (by omega)).mono ?_
        rintro e w2 ⟨x, rfl, x0, x1, hr2, hg2⟩
        refine ⟨_, rfl, ?_⟩
        refine hK _ _ ?_ hg2 ⟨hg'.trans hg2, p' + 1, by omega, hr2⟩
        show (IntIn (0) (255)) w' _
        exact ⟨x, rfl, x0, by omega⟩
      · intro n vs aa w' haa hJ hd K hK
        refine ob_plain rfl ?_
        have d1 : (IntIn (0) (255)) w' (vs 1) := hd.1 rfl
        obtain ⟨x1, e1, l1, u1⟩ := d1
        refine ob_mul _ _ (u := x1) (v := (4)) rfl (Eq.trans (b := vs 1) (ev_of haa (by kernel_rfl)) e1) (ev_of haa (by kernel_rfl)) (by omega) ?_
        refine hK _ _ ?_ (World.grownBy.refl _ _) ⟨hJ.1, by obtain ⟨p', h1, h2⟩ := hJ.2; exact ⟨p', by omega, h2⟩⟩
        show (IntIn (0) (1020)) w' _
        exact ⟨_, rfl, by omega, by omega⟩
      · intro n vs aa w' haa hJ hd K hK
        refine ob_plain rfl ?_
        refine ob_move _ (v := .pointer (some ⟨g, 0, none⟩)) rfl (ev_of haa (by kernel_rfl)) ?_
        refine hK _ _ ?_ (World.grownBy.refl _ _) ⟨hJ.1, by obtain ⟨p', h1, h2⟩ := hJ.2; exact ⟨p', by omega, h2⟩⟩
        show (IsPtr g) w' _
        exact rfl
      · intro n vs aa w' haa hJ hd K hK
        refine ob_plain rfl ?_
        have d3 : (IsPtr g) w' (vs 3) := hd.1 rfl
        have e3 := d3
        obtain ⟨hg', p', hp', hr'⟩ := hJ
        refine ob_call 53 _ _ #[.pointer (some ⟨g, 0, none⟩), .int .i64 (16)] rfl (Eq.trans (b := #[vs 3, .int .i64 (16)]) (evs_of haa (by kernel_rfl)) (by rw [e3])) (fun _ _ => by kernel_rfl) ?_
        refine (pick_any g A len cap p' (16) _ hr' (by omega) (by omega) (by omega)).mono ?_
        rintro e w2 ⟨x, rfl, x0, x1, hr2, hg2⟩
        refine ⟨_, rfl, ?_⟩
        refine hK _ _ ?_ hg2 ⟨hg'.trans hg2, p' + 1, by omega, hr2⟩
        show (IntIn (0) (15)) w' _
        exact ⟨x, rfl, x0, by omega⟩
      · intro n vs aa w' haa hJ hd K hK
        refine ob_plain rfl ?_
        refine ob_move _ (v := .pointer (some ⟨g, 0, none⟩)) rfl (ev_of haa (by kernel_rfl)) ?_
        refine hK _ _ ?_ (World.grownBy.refl _ _) ⟨hJ.1, by obtain ⟨p', h1, h2⟩ := hJ.2; exact ⟨p', by omega, h2⟩⟩
        show (IsPtr g) w' _
        exact rfl
      · intro n vs aa w' haa hJ hd K hK
        refine ob_plain rfl ?_
        have d5 : (IsPtr g) w' (vs 5) := hd.1 rfl
        have e5 := d5
        obtain ⟨hg', p', hp', hr'⟩ := hJ
        refine ob_call 53 _ _ #[.pointer (some ⟨g, 0, none⟩), .int .i64 (32)] rfl (Eq.trans (b := #[vs 5, .int .i64 (32)]) (evs_of haa (by kernel_rfl)) (by rw [e5])) (fun _ _ => by kernel_rfl) ?_
        refine (pick_any g A len cap p' (32) _ hr' (by omega) (by omega) (by omega)).mono ?_
        rintro e w2 ⟨x, rfl, x0, x1, hr2, hg2⟩
        refine ⟨_, rfl, ?_⟩
        refine hK _ _ ?_ hg2 ⟨hg'.trans hg2, p' + 1, by omega, hr2⟩
        show (IntIn (0) (31)) w' _
        exact ⟨x, rfl, x0, by omega⟩
      · intro n vs aa w' haa hJ hd K hK
        refine ob_plain rfl ?_
        have d6 : (IntIn (0) (31)) w' (vs 6) := hd.1 rfl
        obtain ⟨x6, e6, l6, u6⟩ := d6
        refine ob_add _ _ (u := (240)) (v := x6) rfl (ev_of haa (by kernel_rfl)) (Eq.trans (b := vs 6) (ev_of haa (by kernel_rfl)) e6) (by omega) ?_
        refine hK _ _ ?_ (World.grownBy.refl _ _) ⟨hJ.1, by obtain ⟨p', h1, h2⟩ := hJ.2; exact ⟨p', by omega, h2⟩⟩
        show (IntIn (240) (271)) w' _
        exact ⟨_, rfl, by omega, by omega⟩
      · intro n vs aa w' haa hJ hd K hK
        refine ob_plain rfl ?_
        refine ob_move _ (v := .pointer (some ⟨g, 0, none⟩)) rfl (ev_of haa (by kernel_rfl)) ?_
        refine hK _ _ ?_ (World.grownBy.refl _ _) ⟨hJ.1, by obtain ⟨p', h1, h2⟩ := hJ.2; exact ⟨p', by omega, h2⟩⟩
        show (IsPtr g) w' _
        exact rfl
      · intro n vs aa w' haa hJ hd K hK
        refine ob_plain rfl ?_
        have d8 : (IsPtr g) w' (vs 8) := hd.1 rfl
        have e8 := d8
        obtain ⟨hg', p', hp', hr'⟩ := hJ
        refine ob_call 53 _ _ #[.pointer (some ⟨g, 0, none⟩), .int .i64 (40)] rfl (Eq.trans (b := #[vs 8, .int .i64 (40)]) (evs_of haa (by kernel_rfl)) (by rw [e8])) (fun _ _ => by kernel_rfl) ?_
        refine (pick_any g A len cap p' (40) _ hr' (by omega) (by omega) (by omega)).mono ?_
        rintro e w2 ⟨x, rfl, x0, x1, hr2, hg2⟩
        refine ⟨_, rfl, ?_⟩
        refine hK _ _ ?_ hg2 ⟨hg'.trans hg2, p' + 1, by omega, hr2⟩
        show (IntIn (0) (39)) w' _
        exact ⟨x, rfl, x0, by omega⟩
      · intro n vs aa w' haa hJ hd K hK
        refine ob_plain rfl ?_
        have d9 : (IntIn (0) (39)) w' (vs 9) := hd.1 rfl
        obtain ⟨x9, e9, l9, u9⟩ := d9
        refine ob_add _ _ (u := (500)) (v := x9) rfl (ev_of haa (by kernel_rfl)) (Eq.trans (b := vs 9) (ev_of haa (by kernel_rfl)) e9) (by omega) ?_
        refine hK _ _ ?_ (World.grownBy.refl _ _) ⟨hJ.1, by obtain ⟨p', h1, h2⟩ := hJ.2; exact ⟨p', by omega, h2⟩⟩
        show (IntIn (500) (539)) w' _
        exact ⟨_, rfl, by omega, by omega⟩
      · intro n vs aa w' haa hJ hd K hK
        refine ob_plain rfl ?_
        refine ob_move _ (v := .pointer (some ⟨g, 0, none⟩)) rfl (ev_of haa (by kernel_rfl)) ?_
        refine hK _ _ ?_ (World.grownBy.refl _ _) ⟨hJ.1, by obtain ⟨p', h1, h2⟩ := hJ.2; exact ⟨p', by omega, h2⟩⟩
        show (IsPtr g) w' _
        exact rfl
      · intro n vs aa w' haa hJ hd K hK
        refine ob_plain rfl ?_
        have d11 : (IsPtr g) w' (vs 11) := hd.1 rfl
        have e11 := d11
        obtain ⟨hg', p', hp', hr'⟩ := hJ
        refine ob_call 53 _ _ #[.pointer (some ⟨g, 0, none⟩), .int .i64 (20)] rfl (Eq.trans (b := #[vs 11, .int .i64 (20)]) (evs_of haa (by kernel_rfl)) (by rw [e11])) (fun _ _ => by kernel_rfl) ?_
        refine (pick_any g A len cap p' (20) _ hr' (by omega) (by omega) (by omega)).mono ?_
        rintro e w2 ⟨x, rfl, x0, x1, hr2, hg2⟩
        refine ⟨_, rfl, ?_⟩
        refine hK _ _ ?_ hg2 ⟨hg'.trans hg2, p' + 1, by omega, hr2⟩
        show (IntIn (0) (19)) w' _
        exact ⟨x, rfl, x0, by omega⟩
      · intro n vs aa w' haa hJ hd K hK
        refine ob_plain rfl ?_
        have d12 : (IntIn (0) (19)) w' (vs 12) := hd.1 rfl
        obtain ⟨x12, e12, l12, u12⟩ := d12
        refine ob_add _ _ (u := (760)) (v := x12) rfl (ev_of haa (by kernel_rfl)) (Eq.trans (b := vs 12) (ev_of haa (by kernel_rfl)) e12) (by omega) ?_
        refine hK _ _ ?_ (World.grownBy.refl _ _) ⟨hJ.1, by obtain ⟨p', h1, h2⟩ := hJ.2; exact ⟨p', by omega, h2⟩⟩
        show (IntIn (760) (779)) w' _
        exact ⟨_, rfl, by omega, by omega⟩
      · intro n vs aa w' haa hJ hd K hK
        refine ob_plain rfl ?_
        have d2 : (IntIn (0) (1020)) w' (vs 2) := hd.1 rfl
        obtain ⟨x2, e2, l2, u2⟩ := d2
        have d4 : (IntIn (0) (15)) w' (vs 4) := hd.2.1 rfl
        obtain ⟨x4, e4, l4, u4⟩ := d4
        have d7 : (IntIn (240) (271)) w' (vs 7) := hd.2.2.1 rfl
        obtain ⟨x7, e7, l7, u7⟩ := d7
        have d10 : (IntIn (500) (539)) w' (vs 10) := hd.2.2.2.1 rfl
        obtain ⟨x10, e10, l10, u10⟩ := d10
        have d13 : (IntIn (760) (779)) w' (vs 13) := hd.2.2.2.2.1 rfl
        obtain ⟨x13, e13, l13, u13⟩ := d13
        refine ob_build5 _ _ _ _ _ (u0 := x2) (u1 := x4) (u2 := x7) (u3 := x10) (u4 := x13) rfl (Eq.trans (b := vs 2) (ev_of haa (by kernel_rfl)) e2) (Eq.trans (b := vs 4) (ev_of haa (by kernel_rfl)) e4) (Eq.trans (b := vs 7) (ev_of haa (by kernel_rfl)) e7) (Eq.trans (b := vs 10) (ev_of haa (by kernel_rfl)) e10) (Eq.trans (b := vs 13) (ev_of haa (by kernel_rfl)) e13) ?_
        refine hK _ _ ⟨_, rfl, Nat.ne_of_gt hJ.2.choose_spec.2.lt, by simp, fun k hk => ?_⟩ (World.grownBy_alloc _ _ _) ⟨hJ.1.trans (World.grownBy_alloc _ _ _), by obtain ⟨p', h1, h2⟩ := hJ.2; exact ⟨p', by omega, h2.alloc _⟩⟩
        match k, hk with
        | 0, _ => exact ⟨x2, by simp [go_sem], by omega, by omega⟩
        | 1, _ => exact ⟨x4, by simp [go_sem], by omega, by omega⟩
        | 2, _ => exact ⟨x7, by simp [go_sem], by omega, by omega⟩
        | 3, _ => exact ⟨x10, by simp [go_sem], by omega, by omega⟩
        | 4, _ => exact ⟨x13, by simp [go_sem], by omega, by omega⟩
      · intro n vs aa w' haa hJ hd K hK
        refine ob_plain rfl ?_
        refine ob_move _ (v := .pointer (some ⟨g, 0, none⟩)) rfl (ev_of haa (by kernel_rfl)) ?_
        refine hK _ _ ?_ (World.grownBy.refl _ _) ⟨hJ.1, by obtain ⟨p', h1, h2⟩ := hJ.2; exact ⟨p', by omega, h2⟩⟩
        show (IsPtr g) w' _
        exact rfl
      · intro n vs aa w' haa hJ hd K hK
        refine ob_plain rfl ?_
        have d15 : (IsPtr g) w' (vs 15) := hd.1 rfl
        have e15 := d15
        obtain ⟨hg', p', hp', hr'⟩ := hJ
        refine ob_call 53 _ _ #[.pointer (some ⟨g, 0, none⟩), .int .i64 (5)] rfl (Eq.trans (b := #[vs 15, .int .i64 (5)]) (evs_of haa (by kernel_rfl)) (by rw [e15])) (fun _ _ => by kernel_rfl) ?_
        refine (pick_any g A len cap p' (5) _ hr' (by omega) (by omega) (by omega)).mono ?_
        rintro e w2 ⟨x, rfl, x0, x1, hr2, hg2⟩
        refine ⟨_, rfl, ?_⟩
        refine hK _ _ ?_ hg2 ⟨hg'.trans hg2, p' + 1, by omega, hr2⟩
        show (IntIn (0) (4)) w' _
        exact ⟨x, rfl, x0, by omega⟩
      · intro n vs aa w' haa hJ hd K hK
        refine ob_plain rfl ?_
        have d14 : (ArrIn g 5 (0) (1020)) w' (vs 14) := hd.1 rfl
        obtain ⟨b14, e14, n14, z14, c14⟩ := d14
        have d16 : (IntIn (0) (4)) w' (vs 16) := hd.2.1 rfl
        obtain ⟨x16, e16, l16, u16⟩ := d16
        refine ob_index _ _ _ (by simp) (u := x16) rfl (Eq.trans (b := vs 14) (ev_of haa (by kernel_rfl)) e14) (Eq.trans (b := vs 16) (ev_of haa (by kernel_rfl)) e16) (by omega) (by omega) ?_
        obtain ⟨y, hy, y0, y1⟩ := c14 x16.toNat (by omega)
        refine hK _ _ ?_ (World.grownBy.refl _ _) ⟨hJ.1, by obtain ⟨p', h1, h2⟩ := hJ.2; exact ⟨p', by omega, h2⟩⟩
        show (ElAt g (0) (1020)) w' _
        exact ⟨b14, _, rfl, n14, z14, y, by rw [Nat.zero_add]; exact hy, y0, y1⟩
      · intro n vs aa w' haa hJ hd K hK
        refine ob_plain rfl ?_
        have d17 : (ElAt g (0) (1020)) w' (vs 17) := hd.1 rfl
        obtain ⟨b17, j17, e17, n17, z17, x17, c17, l17, u17⟩ := d17
        refine ob_load _ _ (by simp) rfl (Eq.trans (b := vs 17) (ev_of haa (by kernel_rfl)) e17) c17 ?_
        refine hK _ _ ?_ (World.grownBy.refl _ _) ⟨hJ.1, by obtain ⟨p', h1, h2⟩ := hJ.2; exact ⟨p', by omega, h2⟩⟩
        show (IntIn (0) (1020)) w' _
        exact ⟨_, rfl, l17, u17⟩
      · intro n vs aa w' haa hJ hd K hK
        refine ob_plain rfl ?_
        have d18 : (IntIn (0) (1020)) w' (vs 18) := hd.1 rfl
        refine ob_assign _ (v := vs 18) rfl (ev_of haa (by kernel_rfl)) ?_
        refine hK _ _ ?_ (World.grownBy.refl _ _) ⟨hJ.1, by obtain ⟨p', h1, h2⟩ := hJ.2; exact ⟨p', by omega, h2⟩⟩
        show (IntIn (0) (1020)) w' _
        exact d18
    intro vs w' hJ hall
    obtain ⟨x, hx, x0, x1⟩ : IntIn 0 1020 w' (vs 19) := hall 19 (by decide)
    clear hall
    obtain ⟨hg, p', hp', hr'⟩ := hJ
    have HD2 := Lib.hid (HD.out.step hg ⟨p', hp', hr'⟩)
    clear hr' hg hR HD
    simp only [fill, Act.put, List.toList_toArray, List.setIfInBounds_toArray, List.set_cons_zero, List.set_cons_succ, Nat.zero_add, Nat.reduceAdd, hx]
    go_wp2_with fail
    go_ret
    exact draws_of HD2.out (by omega) ⟨x, rfl, by omega, by omega⟩
  · go_upto_region 2 with (fail)
    obtain ⟨p, hp1, hR⟩ := HD.out.rd
    have hp : p ≤ 900000001 := by omega
    refine region_list0 (some g) (ArrIn g 2 (-1) (1024) :: IsPtr g :: IntIn (0) (1) :: ElAt g (-1) (1024) :: IntIn (-1) (1024) :: IntIn (-1) (1024) :: []) (fun n w' => World.grownBy W' w' (some g) ∧ ∃ p' : Nat, p' + 1 * n ≤ p + 6 ∧ Rd w' g A len cap p') ?_ ?_ ?_ ?_ ?_ ?_
    · exact ⟨st_arr _ _ _ _, st_ptr _ _, st_int _ _ _, st_el _ _ _, st_int _ _ _, st_int _ _ _, trivial⟩
    · exact of_decide_eq_true (by kernel_rfl)
    · kernel_rfl
    · exact ⟨World.grownBy.refl _ _, p, by simp, hR⟩
    · refine each_cons ?_ (each_cons ?_ (each_cons ?_ (each_cons ?_ (each_cons ?_ (each_cons ?_ ( trivial))))))
      · intro n vs aa w' haa hJ hd K hK
        refine ob_plain rfl ?_
        refine ob_build2 _ _ (u0 := (-1)) (u1 := (1024)) rfl (ev_of haa (by kernel_rfl)) (ev_of haa (by kernel_rfl)) ?_
        refine hK _ _ ⟨_, rfl, Nat.ne_of_gt hJ.2.choose_spec.2.lt, by simp, fun k hk => ?_⟩ (World.grownBy_alloc _ _ _) ⟨hJ.1.trans (World.grownBy_alloc _ _ _), by obtain ⟨p', h1, h2⟩ := hJ.2; exact ⟨p', by omega, h2.alloc _⟩⟩
        match k, hk with
        | 0, _ => exact ⟨(-1), by simp [go_sem], by omega, by omega⟩
        | 1, _ => exact ⟨(1024), by simp [go_sem], by omega, by omega⟩
      · intro n vs aa w' haa hJ hd K hK
        refine ob_plain rfl ?_
        refine ob_move _ (v := .pointer (some ⟨g, 0, none⟩)) rfl (ev_of haa (by kernel_rfl)) ?_
        refine hK _ _ ?_ (World.grownBy.refl _ _) ⟨hJ.1, by obtain ⟨p', h1, h2⟩ := hJ.2; exact ⟨p', by omega, h2⟩⟩
        show (IsPtr g) w' _
        exact rfl
      · intro n vs aa w' haa hJ hd K hK
        refine ob_plain rfl ?_
        have d1 : (IsPtr g) w' (vs 1) := hd.1 rfl
        have e1 := d1
        obtain ⟨hg', p', hp', hr'⟩ := hJ
        refine ob_call 53 _ _ #[.pointer (some ⟨g, 0, none⟩), .int .i64 (2)] rfl (Eq.trans (b := #[vs 1, .int .i64 (2)]) (evs_of haa (by kernel_rfl)) (by rw [e1])) (fun _ _ => by kernel_rfl) ?_
        refine (pick_any g A len cap p' (2) _ hr' (by omega) (by omega) (by omega)).mono ?_
        rintro e w2 ⟨x, rfl, x0, x1, hr2, hg2⟩
        refine ⟨_, rfl, ?_⟩
        refine hK _ _ ?_ hg2 ⟨hg'.trans hg2, p' + 1, by omega, hr2⟩
        show (IntIn (0) (1)) w' _
        exact ⟨x, rfl, x0, by omega⟩
      · intro n vs aa w' haa hJ hd K hK
        refine ob_plain rfl ?_
        have d0 : (ArrIn g 2 (-1) (1024)) w' (vs 0) := hd.1 rfl
        obtain ⟨b0, e0, n0, z0, c0⟩ := d0
        have d2 : (IntIn (0) (1)) w' (vs 2) := hd.2.1 rfl
        obtain ⟨x2, e2, l2, u2⟩ := d2
        refine ob_index _ _ _ (by simp) (u := x2) rfl (Eq.trans (b := vs 0) (ev_of haa (by kernel_rfl)) e0) (Eq.trans (b := vs 2) (ev_of haa (by kernel_rfl)) e2) (by omega) (by omega) ?_
        obtain ⟨y, hy, y0, y1⟩ := c0 x2.toNat (by omega)
        refine hK _ _ ?_ (World.grownBy.refl _ _) ⟨hJ.1, by obtain ⟨p', h1, h2⟩ := hJ.2; exact ⟨p', by omega, h2⟩⟩
        show (ElAt g (-1) (1024)) w' _
        exact ⟨b0, _, rfl, n0, z0, y, by rw [Nat.zero_add]; exact hy, y0, y1⟩
      · intro n vs aa w' haa hJ hd K hK
        refine ob_plain rfl ?_
        have d3 : (ElAt g (-1) (1024)) w' (vs 3) := hd.1 rfl
        obtain ⟨b3, j3, e3, n3, z3, x3, c3, l3, u3⟩ := d3
        refine ob_load _ _ (by simp) rfl (Eq.trans (b := vs 3) (ev_of haa (by kernel_rfl)) e3) c3 ?_
        refine hK _ _ ?_ (World.grownBy.refl _ _) ⟨hJ.1, by obtain ⟨p', h1, h2⟩ := hJ.2; exact ⟨p', by omega, h2⟩⟩
        show (IntIn (-1) (1024)) w' _
        exact ⟨_, rfl, l3, u3⟩
      · intro n vs aa w' haa hJ hd K hK
        refine ob_plain rfl ?_
        have d4 : (IntIn (-1) (1024)) w' (vs 4) := hd.1 rfl
        refine ob_assign _ (v := vs 4) rfl (ev_of haa (by kernel_rfl)) ?_
        refine hK _ _ ?_ (World.grownBy.refl _ _) ⟨hJ.1, by obtain ⟨p', h1, h2⟩ := hJ.2; exact ⟨p', by omega, h2⟩⟩
        show (IntIn (-1) (1024)) w' _
        exact d4
    intro vs w' hJ hall
    obtain ⟨x, hx, x0, x1⟩ : IntIn (-1) 1024 w' (vs 5) := hall 5 (by decide)
    clear hall
    obtain ⟨hg, p', hp', hr'⟩ := hJ
    have HD2 := Lib.hid (HD.out.step hg ⟨p', hp', hr'⟩)
    clear hr' hg hR HD
    simp only [fill, Act.put, List.toList_toArray, List.setIfInBounds_toArray, List.set_cons_zero, List.set_cons_succ, Nat.zero_add, Nat.reduceAdd, hx]
    go_wp2_with fail
    go_ret
    exact draws_of HD2.out (by omega) ⟨x, rfl, by omega, by omega⟩
theorem l20Place_d {w W : World} {g len cap p0 q : Nat} {A : Option Addr} (h : Drs w W g A len cap p0 q) (n : Int) (hq : q ≤ 900000000) (h0 : 0 ≤ n) (h1 : n ≤ 1000000000) :
    Calls Try.prog 70 #[.pointer (some ⟨g, 0, none⟩), .int .i64 n] W (Dr w W g A len cap p0 (q + 30) (IntIn (-1) 1024)) :=
  dr_of h 900000000 hq fun p hp hR => l20Place_any g A len cap p n W hR hp h0 h1
theorem own3_set {w : World} {g c n base E : Nat} {ts : List Tri} (h : w.ownsRow base E 3 (.slice (some ⟨g, 0, none⟩) n c) n (iv (fl3 ts))) (hl : ts.length = n) (hn : 0 < n) (f : Nat) (hf : f < 3) (y : Int) :
    (∃ v, w.cell? ⟨g, f, none⟩ = some v) ∧ w.frozen? ⟨g, f, none⟩ = false ∧ ∃ ts' : List Tri, ts'.length = n ∧ (w.setCell ⟨g, f, none⟩ (.int .i64 y)).ownsRow base E 3 (.slice (some ⟨g, 0, none⟩) n c) n (iv (fl3 ts')) ∧ w.grownBy (w.setCell ⟨g, f, none⟩ (.int .i64 y)) (some g) := by
  have hm : (iv (fl3 ts)).length = n * 3 := h.1
  refine ⟨⟨(iv (fl3 ts))[f]'(by omega), (h.cellAt f (by omega)).trans (List.getElem?_eq_getElem (by omega))⟩, h.frozenAt f, ?_⟩
  obtain ⟨a1, b1⟩ := h.stored f (.int .i64 y)
  match ts, hl with
  | t :: r, hl =>
    have : f = 0 ∨ f = 1 ∨ f = 2 := by omega
    rcases this with rfl | rfl | rfl
    · exact ⟨(y, t.2.1, t.2.2) :: r, by simpa using hl, by simpa [fl3, iv] using a1, b1⟩
    · exact ⟨(t.1, y, t.2.2) :: r, by simpa using hl, by simpa [fl3, iv] using a1, b1⟩
    · exact ⟨(t.1, t.2.1, y) :: r, by simpa using hl, by simpa [fl3, iv] using a1, b1⟩
  | [], hl => simp at hl; omega
def AggT (_ : World) (v : Value) : Prop := ∃ t : Tri, v = t3 t
theorem st_agg (g : Nat) : Stable (some g) AggT := fun _ _ _ _ h => h
def LitT (g : Nat) (w : World) (v : Value) : Prop := ∃ (b : Nat) (t : Tri), v = .slice (some ⟨b, 0, none⟩) 1 1 ∧ b ≠ g ∧ b < w.heap.size ∧ w.cell? ⟨b, 0, none⟩ = some (.int .i64 t.1) ∧ w.cell? ⟨b, 1, none⟩ = some (.int .i64 t.2.1) ∧ w.cell? ⟨b, 2, none⟩ = some (.int .i64 t.2.2)
theorem st_lit (g : Nat) : Stable (some g) (LitT g) := by
  rintro w w' v hg ⟨b, t, rfl, hne, hb, h0, h1, h2⟩
  have hc : ∀ o, w'.cell? ⟨b, o, none⟩ = w.cell? ⟨b, o, none⟩ := fun o => World.cell?_of_block (hg.block b hb (by intro e; injection e with e; exact hne e))
  exact ⟨b, t, rfl, hne, Nat.lt_of_lt_of_le hb hg.size, (hc 0).trans h0, (hc 1).trans h1, (hc 2).trans h2⟩
theorem LitT.reads {g : Nat} {w : World} {b : Nat} {t : Tri} (hb : b < w.heap.size) (h0 : w.cell? ⟨b, 0, none⟩ = some (.int .i64 t.1)) (h1 : w.cell? ⟨b, 1, none⟩ = some (.int .i64 t.2.1)) (h2 : w.cell? ⟨b, 2, none⟩ = some (.int .i64 t.2.2)) : Reads w w.heap.size 3 (some ⟨b, 0, none⟩) 1 (iv (fl3 [t])) := by
  refine ⟨by simp [fl3, iv], fun _ => ⟨_, rfl, hb, fun j u hu => ?_⟩⟩
  match j, hu with
  | 0, hu => simp [fl3, iv] at hu; subst hu; simpa [Addr.add] using h0
  | 1, hu => simp [fl3, iv] at hu; subst hu; simpa [Addr.add] using h1
  | 2, hu => simp [fl3, iv] at hu; subst hu; simpa [Addr.add] using h2
theorem lit_new {g : Nat} {E : TypeId} (t : Tri) (w : World) (hg : w.heap.size ≠ g) : LitT g (w.alloc (.cells #[.int .i64 t.1, .int .i64 t.2.1, .int .i64 t.2.2] E)) (.slice (some ⟨w.heap.size, 0, none⟩) 1 1) :=
  ⟨_, t, rfl, hg, by simp, cell_new _ _ _ 0, cell_new _ _ _ 1, cell_new _ _ _ 2⟩
section
variable {o : Oper} {a : Act} {w : World} {K : Act → World → Prop} {Q : Exit → Act → World → Prop}
theorem ob_agg_stop {x0 x1 x2 : Operand} {u0 u1 u2 : Int} (ho : o.op = .build 74 #[(0, x0), (1, x1), (2, x2)]) (h0 : a.eval x0 = .int .i64 u0) (h1 : a.eval x1 = .int .i64 u1) (h2 : a.eval x2 = .int .i64 u2)
    (h : K (a.put o.dst (t3 (u0, u1, u2))) w) : o.wp Try.prog a w K Q := by
  have hr : (Instr.build 74 #[(0, .int .i64 u0), (1, .int .i64 u1), (2, .int .i64 u2)]).run Try.prog w = .ok (t3 (u0, u1, u2)) w := by simp [go_sem, t3]
  unfold Oper.wp execOp
  simp only [ho, Sem.run_bind, Sem.run_pure, Result.andThen_ok, List.map_toArray, List.map_cons, List.map_nil, h0, h1, h2, hr]
  exact h
theorem ob_lit_stop {x : Operand} {t : Tri} (ho : o.op = .buildSlice 46 1 #[(0, x)]) (hx : a.eval x = t3 t)
    (h : K (a.put o.dst (.slice (some ⟨w.heap.size, 0, none⟩) 1 1)) (w.alloc (.cells #[.int .i64 t.1, .int .i64 t.2.1, .int .i64 t.2.2] 74))) : o.wp Try.prog a w K Q := by
  have hr : (Instr.buildSlice 46 1 #[(0, t3 t)]).run Try.prog w = .ok (.slice (some ⟨w.heap.size, 0, none⟩) 1 1) (w.alloc (.cells #[.int .i64 t.1, .int .i64 t.2.1, .int .i64 t.2.2] 74)) := by simp [go_sem, t3]
  unfold Oper.wp execOp
  simp only [ho, Sem.run_bind, Sem.run_pure, Result.andThen_ok, List.map_toArray, List.map_cons, List.map_nil, hx, hr]
  exact h
end
set_option maxRecDepth 100000 in
set_option maxHeartbeats 4000000 in
theorem l20Stops_any (g : Nat) (A : Option Addr) (len cap p0 : Nat) (n : Int) (w : World) (h : Rd w g A len cap p0) (hp0 : p0 ≤ 800000000) (n0 : 0 ≤ n) (n1 : n ≤ 1000000000) :
    Calls Try.prog 47 #[.pointer (some ⟨g, 0, none⟩), .int .i64 n] w (Draws g A len cap p0 400 w (TRow 74 w.heap.size 9)) := by
  have hown0 : (w.alloc (.cells #[] 74)).ownsRow w.heap.size 74 3 (.slice (some ⟨w.heap.size, 0, none⟩) 0 0) 0 (iv (fl3 [])) := World.ownsRow_lit w #[] 0 (Nat.le_refl _) (by simp [maxLen]) rfl
  have HO := Lib.hid hown0
  have hgl := h.lt
  have HD := Lib.hid ((Drs.start h).alloc (.cells #[] 74))
  clear h hown0
  go_enter Try.func47, Try.ntmps47
  go_wp2_with fail
  refine (pick_d HD.out 4 (by omega) (by omega) (by omega)).mono ?_
  rintro e W' ⟨v, rfl, ⟨x, rfl, x0, x1⟩, hD, hgr⟩
  replace HD := Lib.hid hD
  clear hD
  replace HO := Lib.hid (own_rd HO.out hgr hgl)
  clear hgr
  obtain ⟨K0, rfl⟩ := Int.eq_ofNat_of_zero_le x0
  have hK0 : K0 ≤ 3 := by omega
  clear x0 x1
  go_wp2_with fail
  go_loopw [5, 6] (fun out k wr => ∃ (K : Nat) (A' : Option Addr) (c' : Nat) (o : List Tri), out = .slice A' o.length c' ∧ k = .int .i64 K ∧ o.length + K ≤ 3 ∧ wr.ownsRow w.heap.size 74 3 (.slice A' o.length c') o.length (iv (fl3 o)) ∧ Drs w wr g A len cap p0 (p0 + 1 + 30 * (3 - K))) (fun _ k _ => (intOf k).toNat)
  case atStart => exact ⟨K0, _, _, [], rfl, rfl, by simpa using hK0, HO.out, HD.out.more (by omega)⟩
  case round =>
    obtain ⟨K, A', c', o, rfl, rfl, hl, hown, hD⟩ := hrel
    replace HD := Lib.hid hD
    replace HO := Lib.hid hown
    clear hD hown
    by_cases hlt : 0 < K
    · have q1 : (K : Int) > 0 := by omega
      go_upto_region 5 with (fail)
      obtain ⟨p, hp1, hR⟩ := HD.out.rd
      have hp : p ≤ 900000000 := by omega
      refine region_tail 26 (some g) (IsVal (.slice A' o.length c') :: IsPtr g :: IntIn (0) (2) :: IntIn (1) (3) :: IsPtr g :: IntIn (0) (29) :: IntIn (512) (541) :: IsPtr g :: IntIn (0) (15) :: IsPtr g :: IntIn (0) (15) :: IntIn (240) (255) :: ArrIn g 3 (0) (541) :: IsPtr g :: IntIn (0) (2) :: ElAt g (0) (541) :: IntIn (0) (541) :: IsPtr g :: IntIn (0) (255) :: ArrIn g 3 (0) (255) :: IsPtr g :: IntIn (0) (2) :: ElAt g (0) (255) :: IntIn (0) (255) :: AggT :: LitT g :: []) (fun n w' => World.grownBy wr w' (some g) ∧ ∃ p' : Nat, p' + 1 * n ≤ p + 26 ∧ Rd w' g A len cap p') ?_ ?_ ?_ ?_ ?_ ?_ ?_ ?_ ?_ ?_ ?_
      · kernel_rfl
      · exact ⟨st_val _ _, st_ptr _ _, st_int _ _ _, st_int _ _ _, st_ptr _ _, st_int _ _ _, st_int _ _ _, st_ptr _ _, st_int _ _ _, st_ptr _ _, st_int _ _ _, st_int _ _ _, st_arr _ _ _ _, st_ptr _ _, st_int _ _ _, st_el _ _ _, st_int _ _ _, st_ptr _ _, st_int _ _ _, st_arr _ _ _ _, st_ptr _ _, st_int _ _ _, st_el _ _ _, st_int _ _ _, st_agg _, st_lit _, trivial⟩
      · simp
      · exact of_decide_eq_true (by kernel_rfl)
      · kernel_rfl
      · kernel_rfl
      · kernel_rfl
      · kernel_rfl
      · exact ⟨grown_drew _ _, p, by simp, hR⟩
      · refine each_cons ?_ (each_cons ?_ (each_cons ?_ (each_cons ?_ (each_cons ?_ (each_cons ?_ (each_cons ?_ (each_cons ?_ (each_cons ?_ (each_cons ?_ (each_cons ?_ (each_cons ?_ (each_cons ?_ (each_cons ?_ (each_cons ?_ (each_cons ?_ (each_cons ?_ (each_cons ?_ (each_cons ?_ (each_cons ?_ (each_cons ?_ (each_cons ?_ (each_cons ?_ (each_cons ?_ (each_cons ?_ (each_cons ?_ ( trivial))))))))))))))))))))))))))
        · intro n vs aa w' haa hJ hd K hK
          refine ob_plain rfl ?_
          refine ob_move _ (v := .slice A' o.length c') rfl (ev_of haa (by kernel_rfl)) ?_
          refine hK _ _ ?_ (World.grownBy.refl _ _) ⟨hJ.1, by obtain ⟨p', h1, h2⟩ := hJ.2; exact ⟨p', by omega, h2⟩⟩
          show (IsVal (.slice A' o.length c')) w' _
          exact rfl
        · intro n vs aa w' haa hJ hd K hK
          refine ob_plain rfl ?_
          refine ob_move _ (v := .pointer (some ⟨g, 0, none⟩)) rfl (ev_of haa (by kernel_rfl)) ?_
          refine hK _ _ ?_ (World.grownBy.refl _ _) ⟨hJ.1, by obtain ⟨p', h1, h2⟩ := hJ.2; exact ⟨p', by omega, h2⟩⟩
          show (IsPtr g) w' _
          exact rfl
        · intro n vs aa w' haa hJ hd K hK
          refine ob_plain rfl ?_
          have d1 : (IsPtr g) w' (vs 1) := hd.1 rfl
          have e1 := d1
          obtain ⟨hg', p', hp', hr'⟩ := hJ
          refine ob_call 53 _ _ #[.pointer (some ⟨g, 0, none⟩), .int .i64 (3)] rfl (Eq.trans (b := #[vs 1, .int .i64 (3)]) (evs_of haa (by kernel_rfl)) (by rw [e1])) (fun _ _ => by kernel_rfl) ?_
          refine (pick_any g A len cap p' (3) _ hr' (by omega) (by omega) (by omega)).mono ?_
          rintro e w2 ⟨x, rfl, x0, x1, hr2, hg2⟩
          refine ⟨_, rfl, ?_⟩
          refine hK _ _ ?_ hg2 ⟨hg'.trans hg2, p' + 1, by omega, hr2⟩
          show (IntIn (0) (2)) w' _
          exact ⟨x, rfl, x0, by omega⟩
        · intro n vs aa w' haa hJ hd K hK
          refine ob_plain rfl ?_
          have d2 : (IntIn (0) (2)) w' (vs 2) := hd.1 rfl
          obtain ⟨x2, e2, l2, u2⟩ := d2
          refine ob_add _ _ (u := (1)) (v := x2) rfl (ev_of haa (by kernel_rfl)) (Eq.trans (b := vs 2) (ev_of haa (by kernel_rfl)) e2) (by omega) ?_
          refine hK _ _ ?_ (World.grownBy.refl _ _) ⟨hJ.1, by obtain ⟨p', h1, h2⟩ := hJ.2; exact ⟨p', by omega, h2⟩⟩
          show (IntIn (1) (3)) w' _
          exact ⟨_, rfl, by omega, by omega⟩
        · intro n vs aa w' haa hJ hd K hK
          refine ob_plain rfl ?_
          refine ob_move _ (v := .pointer (some ⟨g, 0, none⟩)) rfl (ev_of haa (by kernel_rfl)) ?_
          refine hK _ _ ?_ (World.grownBy.refl _ _) ⟨hJ.1, by obtain ⟨p', h1, h2⟩ := hJ.2; exact ⟨p', by omega, h2⟩⟩
          show (IsPtr g) w' _
          exact rfl
        · intro n vs aa w' haa hJ hd K hK
          refine ob_plain rfl ?_
          have d4 : (IsPtr g) w' (vs 4) := hd.1 rfl
          have e4 := d4
          obtain ⟨hg', p', hp', hr'⟩ := hJ
          refine ob_call 53 _ _ #[.pointer (some ⟨g, 0, none⟩), .int .i64 (30)] rfl (Eq.trans (b := #[vs 4, .int .i64 (30)]) (evs_of haa (by kernel_rfl)) (by rw [e4])) (fun _ _ => by kernel_rfl) ?_
          refine (pick_any g A len cap p' (30) _ hr' (by omega) (by omega) (by omega)).mono ?_
          rintro e w2 ⟨x, rfl, x0, x1, hr2, hg2⟩
          refine ⟨_, rfl, ?_⟩
          refine hK _ _ ?_ hg2 ⟨hg'.trans hg2, p' + 1, by omega, hr2⟩
          show (IntIn (0) (29)) w' _
          exact ⟨x, rfl, x0, by omega⟩
        · intro n vs aa w' haa hJ hd K hK
          refine ob_plain rfl ?_
          have d5 : (IntIn (0) (29)) w' (vs 5) := hd.1 rfl
          obtain ⟨x5, e5, l5, u5⟩ := d5
          refine ob_add _ _ (u := (512)) (v := x5) rfl (ev_of haa (by kernel_rfl)) (Eq.trans (b := vs 5) (ev_of haa (by kernel_rfl)) e5) (by omega) ?_
          refine hK _ _ ?_ (World.grownBy.refl _ _) ⟨hJ.1, by obtain ⟨p', h1, h2⟩ := hJ.2; exact ⟨p', by omega, h2⟩⟩
          show (IntIn (512) (541)) w' _
          exact ⟨_, rfl, by omega, by omega⟩
        · intro n vs aa w' haa hJ hd K hK
          refine ob_plain rfl ?_
          refine ob_move _ (v := .pointer (some ⟨g, 0, none⟩)) rfl (ev_of haa (by kernel_rfl)) ?_
          refine hK _ _ ?_ (World.grownBy.refl _ _) ⟨hJ.1, by obtain ⟨p', h1, h2⟩ := hJ.2; exact ⟨p', by omega, h2⟩⟩
          show (IsPtr g) w' _
          exact rfl
        · intro n vs aa w' haa hJ hd K hK
          refine ob_plain rfl ?_
          have d7 : (IsPtr g) w' (vs 7) := hd.1 rfl
          have e7 := d7
          obtain ⟨hg', p', hp', hr'⟩ := hJ
          refine ob_call 53 _ _ #[.pointer (some ⟨g, 0, none⟩), .int .i64 (16)] rfl (Eq.trans (b := #[vs 7, .int .i64 (16)]) (evs_of haa (by kernel_rfl)) (by rw [e7])) (fun _ _ => by kernel_rfl) ?_
          refine (pick_any g A len cap p' (16) _ hr' (by omega) (by omega) (by omega)).mono ?_
          rintro e w2 ⟨x, rfl, x0, x1, hr2, hg2⟩
          refine ⟨_, rfl, ?_⟩
          refine hK _ _ ?_ hg2 ⟨hg'.trans hg2, p' + 1, by omega, hr2⟩
          show (IntIn (0) (15)) w' _
          exact ⟨x, rfl, x0, by omega⟩
        · intro n vs aa w' haa hJ hd K hK
          refine ob_plain rfl ?_
          refine ob_move _ (v := .pointer (some ⟨g, 0, none⟩)) rfl (ev_of haa (by kernel_rfl)) ?_
          refine hK _ _ ?_ (World.grownBy.refl _ _) ⟨hJ.1, by obtain ⟨p', h1, h2⟩ := hJ.2; exact ⟨p', by omega, h2⟩⟩
          show (IsPtr g) w' _
          exact rfl
        · intro n vs aa w' haa hJ hd K hK
          refine ob_plain rfl ?_
          have d9 : (IsPtr g) w' (vs 9) := hd.1 rfl
          have e9 := d9
          obtain ⟨hg', p', hp', hr'⟩ := hJ
          refine ob_call 53 _ _ #[.pointer (some ⟨g, 0, none⟩), .int .i64 (16)] rfl (Eq.trans (b := #[vs 9, .int .i64 (16)]) (evs_of haa (by kernel_rfl)) (by rw [e9])) (fun _ _ => by kernel_rfl) ?_
          refine (pick_any g A len cap p' (16) _ hr' (by omega) (by omega) (by omega)).mono ?_
          rintro e w2 ⟨x, rfl, x0, x1, hr2, hg2⟩
          refine ⟨_, rfl, ?_⟩
          refine hK _ _ ?_ hg2 ⟨hg'.trans hg2, p' + 1, by omega, hr2⟩
          show (IntIn (0) (15)) w' _
          exact ⟨x, rfl, x0, by omega⟩
        · intro n vs aa w' haa hJ hd K hK
          refine ob_plain rfl ?_
          have d10 : (IntIn (0) (15)) w' (vs 10) := hd.1 rfl
          obtain ⟨x10, e10, l10, u10⟩ := d10
          refine ob_add _ _ (u := (240)) (v := x10) rfl (ev_of haa (by kernel_rfl)) (Eq.trans (b := vs 10) (ev_of haa (by kernel_rfl)) e10) (by omega) ?_
          refine hK _ _ ?_ (World.grownBy.refl _ _) ⟨hJ.1, by obtain ⟨p', h1, h2⟩ := hJ.2; exact ⟨p', by omega, h2⟩⟩
          show (IntIn (240) (255)) w' _
          exact ⟨_, rfl, by omega, by omega⟩
        · intro n vs aa w' haa hJ hd K hK
          refine ob_plain rfl ?_
          have d6 : (IntIn (512) (541)) w' (vs 6) := hd.1 rfl
          obtain ⟨x6, e6, l6, u6⟩ := d6
          have d8 : (IntIn (0) (15)) w' (vs 8) := hd.2.1 rfl
          obtain ⟨x8, e8, l8, u8⟩ := d8
          have d11 : (IntIn (240) (255)) w' (vs 11) := hd.2.2.1 rfl
          obtain ⟨x11, e11, l11, u11⟩ := d11
          refine ob_build3 _ _ _ (u0 := x6) (u1 := x8) (u2 := x11) rfl (Eq.trans (b := vs 6) (ev_of haa (by kernel_rfl)) e6) (Eq.trans (b := vs 8) (ev_of haa (by kernel_rfl)) e8) (Eq.trans (b := vs 11) (ev_of haa (by kernel_rfl)) e11) ?_
          refine hK _ _ ⟨_, rfl, Nat.ne_of_gt hJ.2.choose_spec.2.lt, by simp, fun k hk => ?_⟩ (World.grownBy_alloc _ _ _) ⟨hJ.1.trans (World.grownBy_alloc _ _ _), by obtain ⟨p', h1, h2⟩ := hJ.2; exact ⟨p', by omega, h2.alloc _⟩⟩
          match k, hk with
          | 0, _ => exact ⟨x6, by simp [go_sem], by omega, by omega⟩
          | 1, _ => exact ⟨x8, by simp [go_sem], by omega, by omega⟩
          | 2, _ => exact ⟨x11, by simp [go_sem], by omega, by omega⟩
        · intro n vs aa w' haa hJ hd K hK
          refine ob_plain rfl ?_
          refine ob_move _ (v := .pointer (some ⟨g, 0, none⟩)) rfl (ev_of haa (by kernel_rfl)) ?_
          refine hK _ _ ?_ (World.grownBy.refl _ _) ⟨hJ.1, by obtain ⟨p', h1, h2⟩ := hJ.2; exact ⟨p', by omega, h2⟩⟩
          show (IsPtr g) w' _
          exact rfl
        · intro n vs aa w' haa hJ hd K hK
          refine ob_plain rfl ?_
          have d13 : (IsPtr g) w' (vs 13) := hd.1 rfl
          have e13 := d13
          obtain ⟨hg', p', hp', hr'⟩ := hJ
          refine ob_call 53 _ _ #[.pointer (some ⟨g, 0, none⟩), .int .i64 (3)] rfl (Eq.trans (b := #[vs 13, .int .i64 (3)]) (evs_of haa (by kernel_rfl)) (by rw [e13])) (fun _ _ => by kernel_rfl) ?_
          refine (pick_any g A len cap p' (3) _ hr' (by omega) (by omega) (by omega)).mono ?_
          rintro e w2 ⟨x, rfl, x0, x1, hr2, hg2⟩
          refine ⟨_, rfl, ?_⟩
          refine hK _ _ ?_ hg2 ⟨hg'.trans hg2, p' + 1, by omega, hr2⟩
          show (IntIn (0) (2)) w' _
          exact ⟨x, rfl, x0, by omega⟩
        · intro n vs aa w' haa hJ hd K hK
          refine ob_plain rfl ?_
          have d12 : (ArrIn g 3 (0) (541)) w' (vs 12) := hd.1 rfl
          obtain ⟨b12, e12, n12, z12, c12⟩ := d12
          have d14 : (IntIn (0) (2)) w' (vs 14) := hd.2.1 rfl
          obtain ⟨x14, e14, l14, u14⟩ := d14
          refine ob_index _ _ _ (by simp) (u := x14) rfl (Eq.trans (b := vs 12) (ev_of haa (by kernel_rfl)) e12) (Eq.trans (b := vs 14) (ev_of haa (by kernel_rfl)) e14) (by omega) (by omega) ?_
          obtain ⟨y, hy, y0, y1⟩ := c12 x14.toNat (by omega)
          refine hK _ _ ?_ (World.grownBy.refl _ _) ⟨hJ.1, by obtain ⟨p', h1, h2⟩ := hJ.2; exact ⟨p', by omega, h2⟩⟩
          show (ElAt g (0) (541)) w' _
          exact ⟨b12, _, rfl, n12, z12, y, by rw [Nat.zero_add]; exact hy, y0, y1⟩
        · intro n vs aa w' haa hJ hd K hK
          refine ob_plain rfl ?_
          have d15 : (ElAt g (0) (541)) w' (vs 15) := hd.1 rfl
          obtain ⟨b15, j15, e15, n15, z15, x15, c15, l15, u15⟩ := d15
          refine ob_load _ _ (by simp) rfl (Eq.trans (b := vs 15) (ev_of haa (by kernel_rfl)) e15) c15 ?_
          refine hK _ _ ?_ (World.grownBy.refl _ _) ⟨hJ.1, by obtain ⟨p', h1, h2⟩ := hJ.2; exact ⟨p', by omega, h2⟩⟩
          show (IntIn (0) (541)) w' _
          exact ⟨_, rfl, l15, u15⟩
        · intro n vs aa w' haa hJ hd K hK
          refine ob_plain rfl ?_
          refine ob_move _ (v := .pointer (some ⟨g, 0, none⟩)) rfl (ev_of haa (by kernel_rfl)) ?_
          refine hK _ _ ?_ (World.grownBy.refl _ _) ⟨hJ.1, by obtain ⟨p', h1, h2⟩ := hJ.2; exact ⟨p', by omega, h2⟩⟩
          show (IsPtr g) w' _
          exact rfl
        · intro n vs aa w' haa hJ hd K hK
          refine ob_plain rfl ?_
          have d17 : (IsPtr g) w' (vs 17) := hd.1 rfl
          have e17 := d17
          obtain ⟨hg', p', hp', hr'⟩ := hJ
          refine ob_call 53 _ _ #[.pointer (some ⟨g, 0, none⟩), .int .i64 (256)] rfl (Eq.trans (b := #[vs 17, .int .i64 (256)]) (evs_of haa (by kernel_rfl)) (by rw [e17])) (fun _ _ => by kernel_rfl) ?_
          refine (pick_any g A len cap p' (256) _ hr' (by omega) (by omega) (by omega)).mono ?_
          rintro e w2 ⟨x, rfl, x0, x1, hr2, hg2⟩
          refine ⟨_, rfl, ?_⟩
          refine hK _ _ ?_ hg2 ⟨hg'.trans hg2, p' + 1, by omega, hr2⟩
          show (IntIn (0) (255)) w' _
          exact ⟨x, rfl, x0, by omega⟩
        · intro n vs aa w' haa hJ hd K hK
          refine ob_plain rfl ?_
          have d18 : (IntIn (0) (255)) w' (vs 18) := hd.1 rfl
          obtain ⟨x18, e18, l18, u18⟩ := d18
          refine ob_build3 _ _ _ (u0 := (0)) (u1 := x18) (u2 := (1)) rfl (ev_of haa (by kernel_rfl)) (Eq.trans (b := vs 18) (ev_of haa (by kernel_rfl)) e18) (ev_of haa (by kernel_rfl)) ?_
          refine hK _ _ ⟨_, rfl, Nat.ne_of_gt hJ.2.choose_spec.2.lt, by simp, fun k hk => ?_⟩ (World.grownBy_alloc _ _ _) ⟨hJ.1.trans (World.grownBy_alloc _ _ _), by obtain ⟨p', h1, h2⟩ := hJ.2; exact ⟨p', by omega, h2.alloc _⟩⟩
          match k, hk with
          | 0, _ => exact ⟨(0), by simp [go_sem], by omega, by omega⟩
          | 1, _ => exact ⟨x18, by simp [go_sem], by omega, by omega⟩
          | 2, _ => exact ⟨(1), by simp [go_sem], by omega, by omega⟩
        · intro n vs aa w' haa hJ hd K hK
          refine ob_plain rfl ?_
          refine ob_move _ (v := .pointer (some ⟨g, 0, none⟩)) rfl (ev_of haa (by kernel_rfl)) ?_
          refine hK _ _ ?_ (World.grownBy.refl _ _) ⟨hJ.1, by obtain ⟨p', h1, h2⟩ := hJ.2; exact ⟨p', by omega, h2⟩⟩
          show (IsPtr g) w' _
          exact rfl
        · intro n vs aa w' haa hJ hd K hK
          refine ob_plain rfl ?_
          have d20 : (IsPtr g) w' (vs 20) := hd.1 rfl
          have e20 := d20
          obtain ⟨hg', p', hp', hr'⟩ := hJ
          refine ob_call 53 _ _ #[.pointer (some ⟨g, 0, none⟩), .int .i64 (3)] rfl (Eq.trans (b := #[vs 20, .int .i64 (3)]) (evs_of haa (by kernel_rfl)) (by rw [e20])) (fun _ _ => by kernel_rfl) ?_
          refine (pick_any g A len cap p' (3) _ hr' (by omega) (by omega) (by omega)).mono ?_
          rintro e w2 ⟨x, rfl, x0, x1, hr2, hg2⟩
          refine ⟨_, rfl, ?_⟩
          refine hK _ _ ?_ hg2 ⟨hg'.trans hg2, p' + 1, by omega, hr2⟩
          show (IntIn (0) (2)) w' _
          exact ⟨x, rfl, x0, by omega⟩
        · intro n vs aa w' haa hJ hd K hK
          refine ob_plain rfl ?_
          have d19 : (ArrIn g 3 (0) (255)) w' (vs 19) := hd.1 rfl
          obtain ⟨b19, e19, n19, z19, c19⟩ := d19
          have d21 : (IntIn (0) (2)) w' (vs 21) := hd.2.1 rfl
          obtain ⟨x21, e21, l21, u21⟩ := d21
          refine ob_index _ _ _ (by simp) (u := x21) rfl (Eq.trans (b := vs 19) (ev_of haa (by kernel_rfl)) e19) (Eq.trans (b := vs 21) (ev_of haa (by kernel_rfl)) e21) (by omega) (by omega) ?_
          obtain ⟨y, hy, y0, y1⟩ := c19 x21.toNat (by omega)
          refine hK _ _ ?_ (World.grownBy.refl _ _) ⟨hJ.1, by obtain ⟨p', h1, h2⟩ := hJ.2; exact ⟨p', by omega, h2⟩⟩
          show (ElAt g (0) (255)) w' _
          exact ⟨b19, _, rfl, n19, z19, y, by rw [Nat.zero_add]; exact hy, y0, y1⟩
        · intro n vs aa w' haa hJ hd K hK
          refine ob_plain rfl ?_
          have d22 : (ElAt g (0) (255)) w' (vs 22) := hd.1 rfl
          obtain ⟨b22, j22, e22, n22, z22, x22, c22, l22, u22⟩ := d22
          refine ob_load _ _ (by simp) rfl (Eq.trans (b := vs 22) (ev_of haa (by kernel_rfl)) e22) c22 ?_
          refine hK _ _ ?_ (World.grownBy.refl _ _) ⟨hJ.1, by obtain ⟨p', h1, h2⟩ := hJ.2; exact ⟨p', by omega, h2⟩⟩
          show (IntIn (0) (255)) w' _
          exact ⟨_, rfl, l22, u22⟩
        · intro n vs aa w' haa hJ hd K hK
          refine ob_plain rfl ?_
          have d3 : (IntIn (1) (3)) w' (vs 3) := hd.1 rfl
          obtain ⟨x3, e3, l3, u3⟩ := d3
          have d16 : (IntIn (0) (541)) w' (vs 16) := hd.2.1 rfl
          obtain ⟨x16, e16, l16, u16⟩ := d16
          have d23 : (IntIn (0) (255)) w' (vs 23) := hd.2.2.1 rfl
          obtain ⟨x23, e23, l23, u23⟩ := d23
          refine ob_agg_stop (u0 := x3) (u1 := x16) (u2 := x23) rfl (Eq.trans (b := vs 3) (ev_of haa (by kernel_rfl)) e3) (Eq.trans (b := vs 16) (ev_of haa (by kernel_rfl)) e16) (Eq.trans (b := vs 23) (ev_of haa (by kernel_rfl)) e23) ?_
          refine hK _ _ ?_ (World.grownBy.refl _ _) ⟨hJ.1, by obtain ⟨p', h1, h2⟩ := hJ.2; exact ⟨p', by omega, h2⟩⟩
          show (AggT) w' _
          exact ⟨(x3, x16, x23), rfl⟩
        · intro n vs aa w' haa hJ hd K hK
          refine ob_plain rfl ?_
          have d24 : (AggT) w' (vs 24) := hd.1 rfl
          obtain ⟨t24, e24⟩ := d24
          refine ob_lit_stop (t := t24) rfl (Eq.trans (b := vs 24) (ev_of haa (by kernel_rfl)) e24) ?_
          refine hK _ _ ?_ (World.grownBy_alloc _ _ _) ⟨hJ.1.trans (World.grownBy_alloc _ _ _), by obtain ⟨p', h1, h2⟩ := hJ.2; exact ⟨p', by omega, h2.alloc _⟩⟩
          show (LitT g) _ _
          exact lit_new t24 _ (Nat.ne_of_gt hJ.2.choose_spec.2.lt)
      intro vs w' hJ hall
      obtain ⟨b, t, hx, hne, hb, h0, h1, h2⟩ : LitT g w' (vs 25) := hall 25 (by decide)
      have hz : vs 0 = .slice A' o.length c' := hall 0 (by decide)
      clear hall
      obtain ⟨hg, p', hp', hr'⟩ := hJ
      replace HO := Lib.hid (own_rd HO.out hg hgl)
      replace HD := Lib.hid (HD.out.step hg ⟨p', hp', hr'⟩)
      have HRL := Lib.hid (LitT.reads (g := g) hb h0 h1 h2)
      have hs := HD.out.size.2
      clear hr' hg hR h0 h1 h2
      simp only [List.take_succ_cons, List.take_zero, List.drop_succ_cons, List.drop_zero, fill, Act.put, List.toList_toArray, List.setIfInBounds_toArray, List.set_cons_zero, List.set_cons_succ, Nat.zero_add, Nat.reduceAdd, hx, hz]
      refine push_stop _ rfl _ _ rfl w.heap.size o.length c' 1 1 _ A' (some ⟨b, 0, none⟩) (fl3 o) (fl3 [t]) (by rfl) (by rfl) HO.out HRL.out (by intro h; cases h) (by omega) hs ?_
      intro A3 c3 w3 hown3 hg3
      rw [← fl3_app] at hown3
      have hD3 := HD.out.push hg3 (fun k hk => (HO.out.lt k hk).1)
      replace hown3 := Lib.hid hown3
      replace hD3 := Lib.hid hD3
      clear hg3
      go_wp2_with fail
      go_roundw
      case rel => exact ⟨K - 1, A3, c3, o ++ [t], by simp, by rw [show (K : Int) - 1 = ((K - 1 : Nat) : Int) by omega], by simp; omega, by rw [List.length_append]; exact hown3.out, hD3.out.more (by omega)⟩
      case measure => simp [intOf]; omega
    · obtain rfl : K = 0 := by omega
      by_cases ho : o.length = 0
      · have q1 : ¬ (o.length : Int) > 0 := by omega
        clear ho
        go_wp2_with fail
        go_ret
        exact draws_of HD.out (by omega) ⟨A', c', o, rfl, HO.out, by omega⟩
      have q1 : (o.length : Int) > 0 := by omega
      go_wp2_with fail
      refine (odd_d HD.out n (by omega) n0 n1).mono ?_
      rintro e W' ⟨v, rfl, ⟨b, rfl, hb⟩, hD, hgr⟩
      replace HD := Lib.hid hD
      clear hD
      replace HO := Lib.hid (own_rd HO.out hgr hgl)
      clear hgr hb
      cases b
      · go_wp2_with fail
        go_ret
        exact draws_of HD.out (by omega) ⟨A', c', o, rfl, HO.out, by omega⟩
      go_wp2_with fail
      refine (pick_d HD.out 4 (by omega) (by omega) (by omega)).mono ?_
      rintro e W' ⟨v, rfl, ⟨z, rfl, z0, z1⟩, hD, hgr⟩
      replace HD := Lib.hid hD
      clear hD
      replace HO := Lib.hid (own_rd HO.out hgr hgl)
      clear hgr
      obtain ⟨gb, cp, ev, gb0, gb1⟩ := HO.out.form (by omega)
      injection ev with ev _ ec
      subst ev ec
      have ho2 : 0 < o.length := by omega
      have ho3 : (0 : Int) < (o.length : Int) := by omega
      by_cases e0 : z = 0
      · subst e0
        clear z0 z1
        go_wp2_with fail
        refine (pick_d (HD.out.alloc _) 2 (by omega) (by omega) (by omega)).mono ?_
        rintro e W3 ⟨v, rfl, ⟨y, rfl, y0, y1⟩, hD, hgr⟩
        have hne := HD.out.size
        have k0 : W3.cell? ⟨W'.heap.size, 0, none⟩ = some (.int .i64 (0)) := grown_cell hgr (by simp) (by intro e; injection e with e; omega) (cell_new _ _ _ 0)
        have k1 : W3.cell? ⟨W'.heap.size, 1, none⟩ = some (.int .i64 (4)) := grown_cell hgr (by simp) (by intro e; injection e with e; omega) (cell_new _ _ _ 1)
        replace HO := Lib.hid (own_rd (HO.out.alloc _) hgr hgl)
        replace HD := Lib.hid hD
        clear hD hgr
        by_cases ey : y = 0
        · subst ey
          obtain ⟨⟨vf, cf⟩, ff, ts', hl', o', g'⟩ := own3_set HO.out rfl ho2 0 (by omega) (0)
          replace o' := Lib.hid o'
          replace g' := Lib.hid g'
          replace hl' := Lib.hid hl'
          go_wp2_with fail
          go_ret
          exact draws_of (HD.out.push g'.out (by intro k hk; injection hk with hk; omega)) (by omega) ⟨some ⟨gb, 0, none⟩, c', ts', by simp [hl'.out], by rw [hl'.out]; exact o'.out, by rw [hl'.out]; omega⟩
        · obtain rfl : y = 1 := by omega
          obtain ⟨⟨vf, cf⟩, ff, ts', hl', o', g'⟩ := own3_set HO.out rfl ho2 0 (by omega) (4)
          replace o' := Lib.hid o'
          replace g' := Lib.hid g'
          replace hl' := Lib.hid hl'
          go_wp2_with fail
          go_ret
          exact draws_of (HD.out.push g'.out (by intro k hk; injection hk with hk; omega)) (by omega) ⟨some ⟨gb, 0, none⟩, c', ts', by simp [hl'.out], by rw [hl'.out]; exact o'.out, by rw [hl'.out]; omega⟩
      by_cases e1 : z = 1
      · subst e1
        clear z0 z1 e0
        go_wp2_with fail
        refine (l20Place_d HD.out 1 (by omega) (by omega) (by omega)).mono ?_
        rintro e W' ⟨v, rfl, ⟨y, rfl, y0, y1⟩, hD, hgr⟩
        replace HD := Lib.hid hD
        clear hD
        replace HO := Lib.hid (own_rd HO.out hgr hgl)
        clear hgr
        obtain ⟨⟨vf, cf⟩, ff, ts', hl', o', g'⟩ := own3_set HO.out rfl ho2 1 (by omega) (y)
        replace o' := Lib.hid o'
        replace g' := Lib.hid g'
        replace hl' := Lib.hid hl'
        go_wp2_with fail
        go_ret
        exact draws_of (HD.out.push g'.out (by intro k hk; injection hk with hk; omega)) (by omega) ⟨some ⟨gb, 0, none⟩, c', ts', by simp [hl'.out], by rw [hl'.out]; exact o'.out, by rw [hl'.out]; omega⟩
      by_cases e2 : z = 2
      · subst e2
        clear z0 z1 e0 e1
        go_wp2_with fail
        refine (l20Byte_d HD.out 1 (by omega) (by omega) (by omega)).mono ?_
        rintro e W' ⟨v, rfl, ⟨y, rfl, y0, y1, -⟩, hD, hgr⟩
        replace HD := Lib.hid hD
        clear hD
        replace HO := Lib.hid (own_rd HO.out hgr hgl)
        clear hgr
        obtain ⟨⟨vf, cf⟩, ff, ts', hl', o', g'⟩ := own3_set HO.out rfl ho2 2 (by omega) (y)
        replace o' := Lib.hid o'
        replace g' := Lib.hid g'
        replace hl' := Lib.hid hl'
        go_wp2_with fail
        go_ret
        exact draws_of (HD.out.push g'.out (by intro k hk; injection hk with hk; omega)) (by omega) ⟨some ⟨gb, 0, none⟩, c', ts', by simp [hl'.out], by rw [hl'.out]; exact o'.out, by rw [hl'.out]; omega⟩
      · have f0 : (z == 0) = false := by simp; omega
        have f1 : (z == 1) = false := by simp; omega
        have f2 : (z == 2) = false := by simp; omega
        have hs := HD.out.size.2
        go_wp2_with (at_make; refine make_stop _ rfl _ _ rfl 9 rfl rfl (by omega) w.heap.size hs ?_; intro w1 ho1 hb1; replace ho1 := Lib.hid ho1; replace hb1 := Lib.hid hb1)
        go_ret
        exact draws_of (HD.out.below hb1.out) (by omega) ⟨some ⟨W'.heap.size, 0, none⟩, 9, List.replicate 9 (0, 0, 0), by simp, by rw [List.length_replicate]; exact ho1.out, by simp⟩
theorem l20Stops_d {w W : World} {g len cap p0 q : Nat} {A : Option Addr} (h : Drs w W g A len cap p0 q) (n : Int) (hq : q ≤ 800000000) (h0 : 0 ≤ n) (h1 : n ≤ 1000000000) :
    Calls Try.prog 47 #[.pointer (some ⟨g, 0, none⟩), .int .i64 n] W (Dr w W g A len cap p0 (q + 400) (TRow 74 W.heap.size 9)) :=
  dr_of h 800000000 hq fun p hp hR => l20Stops_any g A len cap p n W hR hp h0 h1
end Go.Proofs.Ytgedfcccflobmaa
