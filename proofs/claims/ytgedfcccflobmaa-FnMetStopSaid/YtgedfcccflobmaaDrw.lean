/-
  What the statements draw for saves: lists of numbers. No condition.
-/
import Derived.Test.YtgedfcccflobmaaPick
import Derived.Test.YtgedfcccflobmaaGrow
import Derived.Deep.Cut
namespace Go.Proofs.Ytgedfcccflobmaa
open Go.RowKit
set_option linter.unusedVariables false
set_option linter.unusedSimpArgs false
/-- What a drawing function comes to: its value meets Pr; the reader has moved by at most c. -/
def Draws (g : Nat) (A : Option Addr) (len cap p c : Nat) (w : World) (Pr : World → Value → Prop) (e : Ending) (w' : World) : Prop :=
  ∃ v, e = .returned v ∧ Pr w' v ∧ w.grownBy w' (some g) ∧ ∃ p', p' ≤ p + c ∧ Rd w' g A len cap p'
theorem below_rd {w w1 w2 : World} (hb : Below w.heap.size w w1) (hg : w1.grownBy w2 (some w.heap.size)) : Below w.heap.size w w2 :=
  hb.trans (below_of_grown hg hb.size (by intro k hk; injection hk with hk; omega))
/-- A list of numbers in a block from base on, that meets Pr. -/
def LRow (base : Nat) (Pr : List Int → Prop) (w : World) (v : Value) : Prop := ∃ A c xs, v = .slice A xs.length c ∧ w.ownsRow base 3 1 (.slice A xs.length c) xs.length (iv xs) ∧ Pr xs
theorem own_rd {w w' : World} {base e size n g : Nat} {v : Value} {xs : List Value} (h : w.ownsRow base e size v n xs) (hg : w.grownBy w' (some g)) (hb : g < base) : w'.ownsRow base e size v n xs := by
  refine h.kept hg ?_
  rcases hu : v.ownBlock with _ | k
  · exact .inl rfl
  · refine .inr fun e => ?_
    injection e with e
    have := (h.lt k hu).1
    omega
theorem st_lrow (base g : Nat) (Pr : List Int → Prop) (hb : g < base) : Stable (some g) (LRow base Pr) := by
  rintro w w' v hg ⟨A, c, xs, rfl, o, h⟩
  exact ⟨A, c, xs, rfl, own_rd o hg hb, h⟩
theorem grown_push {w W W' : World} {g : Nat} {row : Option Nat} (h : w.grownBy W (some g)) (h' : W.grownBy W' row) (hr : ∀ k, row = some k → w.heap.size ≤ k) : w.grownBy W' (some g) :=
  ⟨h'.os.trans h.os, h'.tape.trans h.tape, h'.output.trans h.output, Nat.le_trans h.size h'.size, fun k hk hne =>
    (h'.block k (Nat.lt_of_lt_of_le hk h.size) (fun e => by have := hr k e.symm; omega)).trans (h.block k hk hne)⟩
theorem Rd.push {w W W' : World} {g len cap p p0 : Nat} {A : Option Addr} {row : Option Nat} (h0 : Rd w g A len cap p0) (h : Rd W g A len cap p) (hg : w.grownBy W' (some g)) (h' : W.grownBy W' row) (hr : some g ≠ row) : Rd W' g A len cap p :=
  ⟨h.1.grown h' hr, h0.2.1.grown hg, h.2.2⟩
/-- The world of a drawing function's walk: the reader and what has grown since its start. -/
structure Drs (w W : World) (g : Nat) (A : Option Addr) (len cap p0 q : Nat) : Prop where
  r0 : Rd w g A len cap p0
  hg : w.grownBy W (some g)
  rd : ∃ p, p ≤ q ∧ Rd W g A len cap p
section
variable {w W W' : World} {g len cap p0 q : Nat} {A : Option Addr}
theorem Drs.start (h : Rd w g A len cap p0) : Drs w w g A len cap p0 p0 := ⟨h, World.grownBy.refl _ _, p0, Nat.le_refl _, h⟩
theorem Drs.step {q' : Nat} (h : Drs w W g A len cap p0 q) (hg : W.grownBy W' (some g)) (hr : ∃ p, p ≤ q' ∧ Rd W' g A len cap p) : Drs w W' g A len cap p0 q' := ⟨h.r0, h.hg.trans hg, hr⟩
theorem Drs.push {row : Option Nat} (h : Drs w W g A len cap p0 q) (hg : W.grownBy W' row) (hr : ∀ k, row = some k → w.heap.size ≤ k) : Drs w W' g A len cap p0 q := by
  obtain ⟨p, hp, hR⟩ := h.rd
  have hG := grown_push h.hg hg hr
  exact ⟨h.r0, hG, p, hp, h.r0.push hR hG hg (by intro e; have := hr g e.symm; have := h.r0.lt; omega)⟩
theorem Drs.alloc (h : Drs w W g A len cap p0 q) (o : Obj) : Drs w (W.alloc o) g A len cap p0 q := h.push (World.grownBy_alloc W o none) (by intro k hk; cases hk)
theorem Drs.drewN (h : Drs w W g A len cap p0 q) (n : Nat) : Drs w (W.drewN n) g A len cap p0 q := h.push (grown_of_below (below_drewN (Below.refl _ _) n) none) (by intro k hk; cases hk)
theorem Drs.below (h : Drs w W g A len cap p0 q) (hb : Below W.heap.size W W') : Drs w W' g A len cap p0 q := h.push (grown_of_below hb none) (by intro k hk; cases hk)
theorem Drs.more {q' : Nat} (h : Drs w W g A len cap p0 q) (hq : q ≤ q') : Drs w W g A len cap p0 q' := by
  obtain ⟨p, hp, hR⟩ := h.rd
  exact ⟨h.r0, h.hg, p, Nat.le_trans hp hq, hR⟩
theorem Drs.size (h : Drs w W g A len cap p0 q) : g < w.heap.size ∧ w.heap.size ≤ W.heap.size := ⟨h.r0.lt, h.hg.size⟩
theorem Drs.own {base e size n : Nat} {v : Value} {xs : List Value} (h : Drs w W g A len cap p0 q) (o : W.ownsRow base e size v n xs) (hg : W.grownBy W' (some g)) (hb : w.heap.size ≤ base) : W'.ownsRow base e size v n xs :=
  own_rd o hg (Nat.lt_of_lt_of_le h.r0.lt hb)
end
/-- What a drawing callee gives in such a walk. -/
def Dr (w W : World) (g : Nat) (A : Option Addr) (len cap p0 q : Nat) (Pr : World → Value → Prop) (e : Ending) (W' : World) : Prop :=
  ∃ v, e = .returned v ∧ Pr W' v ∧ Drs w W' g A len cap p0 q ∧ W.grownBy W' (some g)
theorem dr_of {f : FuncId} {args : Array Value} {w W : World} {g len cap p0 q c : Nat} {A : Option Addr} {Pr : World → Value → Prop} (h : Drs w W g A len cap p0 q) (M : Nat) (hq : q ≤ M)
    (hc : ∀ p, p ≤ M → Rd W g A len cap p → Calls Try.prog f args W (Draws g A len cap p c W Pr)) : Calls Try.prog f args W (Dr w W g A len cap p0 (q + c) Pr) := by
  obtain ⟨p, hp, hR⟩ := h.rd
  refine (hc p (by omega) hR).mono ?_
  rintro e W' ⟨v, rfl, hv, hg, p', hp', hr'⟩
  exact ⟨v, rfl, hv, h.step hg ⟨p', by omega, hr'⟩, hg⟩
theorem draws_of {w W : World} {g len cap p0 q c : Nat} {A : Option Addr} {Pr : World → Value → Prop} {v : Value} (h : Drs w W g A len cap p0 q) (hq : q ≤ p0 + c) (hv : Pr W v) : Draws g A len cap p0 c w Pr (.returned v) W := by
  obtain ⟨p, hp, hR⟩ := h.rd
  exact ⟨v, rfl, hv, h.hg, p, by omega, hR⟩
def LenP (m : Nat) (xs : List Int) : Prop := xs.length ≤ m
def BoolV (P : Bool → Prop) (_ : World) (v : Value) : Prop := ∃ b : Bool, v = .bool b ∧ P b
theorem pick_d {w W : World} {g len cap p0 q : Nat} {A : Option Addr} (h : Drs w W g A len cap p0 q) (n : Int) (hq : q ≤ 1000000000) (h0 : 1 ≤ n) (h1 : n ≤ 1000000000) :
    Calls Try.prog 53 #[.pointer (some ⟨g, 0, none⟩), .int .i64 n] W (Dr w W g A len cap p0 (q + 1) (IntIn 0 (n - 1))) :=
  dr_of h 1000000000 hq fun p hp hR => (pick_any g A len cap p n W hR hp h0 h1).mono fun e w' ⟨x, he, x0, x1, hr, hg⟩ => ⟨_, he, ⟨x, rfl, x0, x1⟩, hg, p + 1, Nat.le_refl _, hr⟩
theorem odd_d {w W : World} {g len cap p0 q : Nat} {A : Option Addr} (h : Drs w W g A len cap p0 q) (n : Int) (hq : q ≤ 1000000000) (h0 : 0 ≤ n) (h1 : n ≤ 1000000000) :
    Calls Try.prog 69 #[.pointer (some ⟨g, 0, none⟩), .int .i64 n] W (Dr w W g A len cap p0 (q + 1) (BoolV fun b => n = 0 → b = false)) := by
  by_cases hz : n = 0
  · subst hz
    have H := Lib.hid h
    clear h
    go_enter Try.func69, Try.ntmps69
    go_wp2_with fail
    go_ret
    exact ⟨_, rfl, ⟨false, rfl, fun _ => rfl⟩, H.out.more (by omega), World.grownBy.refl _ _⟩
  · exact dr_of h 1000000000 hq fun p hp hR => (odd_any g A len cap p n W hR hp h0 h1).mono fun e w' ⟨x, p', he, hp', hr, hg⟩ => ⟨_, he, ⟨x, rfl, fun h => absurd h hz⟩, hg, p', hp', hr⟩
/-- What l20Byte draws. -/
def ByteV (n : Int) (_ : World) (v : Value) : Prop := ∃ x : Int, v = .int .i64 x ∧ -1 ≤ x ∧ x ≤ 256 ∧ (n = 0 → 0 ≤ x ∧ x ≤ 255)
set_option maxRecDepth 100000 in
set_option maxHeartbeats 2000000 in
theorem l20Byte_any (g : Nat) (A : Option Addr) (len cap p0 : Nat) (n : Int) (w : World) (h : Rd w g A len cap p0) (hp0 : p0 ≤ 900000000) (n0 : 0 ≤ n) (n1 : n ≤ 1000000000) :
    Calls Try.prog 71 #[.pointer (some ⟨g, 0, none⟩), .int .i64 n] w (Draws g A len cap p0 14 w (ByteV n)) := by
  have HD := Lib.hid (Drs.start h)
  clear h
  go_enter Try.func71, Try.ntmps71
  go_wp2_with fail
  refine (odd_d HD.out n (by omega) n0 n1).mono ?_
  rintro e W' ⟨v, rfl, ⟨b, rfl, hb⟩, hD, hgr⟩
  replace HD := Lib.hid hD
  clear hD
  clear hgr
  cases b
  · go_upto_region 3 with (fail)
    obtain ⟨p, hp1, hR⟩ := HD.out.rd
    have hp : p ≤ 900000001 := by omega
    refine region_list0 (some g) (IsPtr g :: IntIn (0) (255) :: IsPtr g :: IntIn (0) (255) :: IsPtr g :: IntIn (0) (255) :: ArrIn g 8 (0) (255) :: IsPtr g :: IntIn (0) (7) :: ElAt g (0) (255) :: IntIn (0) (255) :: IntIn (0) (255) :: []) (fun n w' => World.grownBy W' w' (some g) ∧ ∃ p' : Nat, p' + 1 * n ≤ p + 12 ∧ Rd w' g A len cap p') ?_ ?_ ?_ ?_ ?_ ?_
    · exact ⟨st_ptr _ _, st_int _ _ _, st_ptr _ _, st_int _ _ _, st_ptr _ _, st_int _ _ _, st_arr _ _ _ _, st_ptr _ _, st_int _ _ _, st_el _ _ _, st_int _ _ _, st_int _ _ _, trivial⟩
    · exact of_decide_eq_true (by kernel_rfl)
    · kernel_rfl
    · exact ⟨World.grownBy.refl _ _, p, by simp, hR⟩
    · refine each_cons ?_ (each_cons ?_ (each_cons ?_ (each_cons ?_ (each_cons ?_ (each_cons ?_ (each_cons ?_ (each_cons ?_ (each_cons ?_ (each_cons ?_ (each_cons ?_ (each_cons ?_ ( trivial))))))))))))
      · intro n vs aa w' haa hJ hd K hK
        refine ob_plain rfl ?_
        refine ob_move _ (v := .pointer (some ⟨g, 0, none⟩)) rfl (ev_of haa (by kernel_rfl)) ?_
        refine hK _ _ ?_ (World.grownBy.refl _ _) ⟨hJ.1, by obtain ⟨p', h1, h2⟩ := hJ.2; exact ⟨p', by omega, h2⟩⟩
        show (IsPtr g) w' _
        exact rfl
      · intro n vs aa w' haa hJ hd K hK
        refine ob_plain rfl ?_
        have d0 : (IsPtr g) w' (vs 0) := hd.1 rfl
        have e0 := d0
        obtain ⟨hg', p', hp', hr'⟩ := hJ
        refine ob_call 53 _ _ #[.pointer (some ⟨g, 0, none⟩), .int .i64 (256)] rfl (Eq.trans (b := #[vs 0, .int .i64 (256)]) (evs_of haa (by kernel_rfl)) (by rw [e0])) (fun _ _ => by kernel_rfl) ?_
        refine (pick_any g A len cap p' (256) _ hr' (by omega) (by omega) (by omega)).mono ?_
        rintro e w2 ⟨x, rfl, x0, x1, hr2, hg2⟩
        refine ⟨_, rfl, ?_⟩
        refine hK _ _ ?_ hg2 ⟨hg'.trans hg2, p' + 1, by omega, hr2⟩
        show (IntIn (0) (255)) w' _
        exact ⟨x, rfl, x0, by omega⟩
      · intro n vs aa w' haa hJ hd K hK
        refine ob_plain rfl ?_
        refine ob_move _ (v := .pointer (some ⟨g, 0, none⟩)) rfl (ev_of haa (by kernel_rfl)) ?_
        refine hK _ _ ?_ (World.grownBy.refl _ _) ⟨hJ.1, by obtain ⟨p', h1, h2⟩ := hJ.2; exact ⟨p', by omega, h2⟩⟩
        show (IsPtr g) w' _
        exact rfl
      · intro n vs aa w' haa hJ hd K hK
        refine ob_plain rfl ?_
        have d2 : (IsPtr g) w' (vs 2) := hd.1 rfl
        have e2 := d2
        obtain ⟨hg', p', hp', hr'⟩ := hJ
        refine ob_call 53 _ _ #[.pointer (some ⟨g, 0, none⟩), .int .i64 (256)] rfl (Eq.trans (b := #[vs 2, .int .i64 (256)]) (evs_of haa (by kernel_rfl)) (by rw [e2])) (fun _ _ => by kernel_rfl) ?_
        refine (pick_any g A len cap p' (256) _ hr' (by omega) (by omega) (by omega)).mono ?_
        rintro e w2 ⟨x, rfl, x0, x1, hr2, hg2⟩
        refine ⟨_, rfl, ?_⟩
        refine hK _ _ ?_ hg2 ⟨hg'.trans hg2, p' + 1, by omega, hr2⟩
        show (IntIn (0) (255)) w' _
        exact ⟨x, rfl, x0, by omega⟩
      · intro n vs aa w' haa hJ hd K hK
        refine ob_plain rfl ?_
        refine ob_move _ (v := .pointer (some ⟨g, 0, none⟩)) rfl (ev_of haa (by kernel_rfl)) ?_
        refine hK _ _ ?_ (World.grownBy.refl _ _) ⟨hJ.1, by obtain ⟨p', h1, h2⟩ := hJ.2; exact ⟨p', by omega, h2⟩⟩
        show (IsPtr g) w' _
        exact rfl
      · intro n vs aa w' haa hJ hd K hK
        refine ob_plain rfl ?_
        have d4 : (IsPtr g) w' (vs 4) := hd.1 rfl
        have e4 := d4
        obtain ⟨hg', p', hp', hr'⟩ := hJ
        refine ob_call 53 _ _ #[.pointer (some ⟨g, 0, none⟩), .int .i64 (256)] rfl (Eq.trans (b := #[vs 4, .int .i64 (256)]) (evs_of haa (by kernel_rfl)) (by rw [e4])) (fun _ _ => by kernel_rfl) ?_
        refine (pick_any g A len cap p' (256) _ hr' (by omega) (by omega) (by omega)).mono ?_
        rintro e w2 ⟨x, rfl, x0, x1, hr2, hg2⟩
        refine ⟨_, rfl, ?_⟩
        refine hK _ _ ?_ hg2 ⟨hg'.trans hg2, p' + 1, by omega, hr2⟩
        show (IntIn (0) (255)) w' _
        exact ⟨x, rfl, x0, by omega⟩
      · intro n vs aa w' haa hJ hd K hK
        refine ob_plain rfl ?_
        have d1 : (IntIn (0) (255)) w' (vs 1) := hd.1 rfl
        obtain ⟨x1, e1, l1, u1⟩ := d1
        have d3 : (IntIn (0) (255)) w' (vs 3) := hd.2.1 rfl
        obtain ⟨x3, e3, l3, u3⟩ := d3
        have d5 : (IntIn (0) (255)) w' (vs 5) := hd.2.2.1 rfl
        obtain ⟨x5, e5, l5, u5⟩ := d5
        refine ob_build8 _ _ _ _ _ _ _ _ (u0 := (0)) (u1 := (1)) (u2 := (127)) (u3 := (128)) (u4 := (255)) (u5 := x1) (u6 := x3) (u7 := x5) rfl (ev_of haa (by kernel_rfl)) (ev_of haa (by kernel_rfl)) (ev_of haa (by kernel_rfl)) (ev_of haa (by kernel_rfl)) (ev_of haa (by kernel_rfl)) (Eq.trans (b := vs 1) (ev_of haa (by kernel_rfl)) e1) (Eq.trans (b := vs 3) (ev_of haa (by kernel_rfl)) e3) (Eq.trans (b := vs 5) (ev_of haa (by kernel_rfl)) e5) ?_
        refine hK _ _ ⟨_, rfl, Nat.ne_of_gt hJ.2.choose_spec.2.lt, by simp, fun k hk => ?_⟩ (World.grownBy_alloc _ _ _) ⟨hJ.1.trans (World.grownBy_alloc _ _ _), by obtain ⟨p', h1, h2⟩ := hJ.2; exact ⟨p', by omega, h2.alloc _⟩⟩
        match k, hk with
        | 0, _ => exact ⟨(0), by simp [go_sem], by omega, by omega⟩
        | 1, _ => exact ⟨(1), by simp [go_sem], by omega, by omega⟩
        | 2, _ => exact ⟨(127), by simp [go_sem], by omega, by omega⟩
        | 3, _ => exact ⟨(128), by simp [go_sem], by omega, by omega⟩
        | 4, _ => exact ⟨(255), by simp [go_sem], by omega, by omega⟩
        | 5, _ => exact ⟨x1, by simp [go_sem], by omega, by omega⟩
        | 6, _ => exact ⟨x3, by simp [go_sem], by omega, by omega⟩
        | 7, _ => exact ⟨x5, by simp [go_sem], by omega, by omega⟩
      · intro n vs aa w' haa hJ hd K hK
        refine ob_plain rfl ?_
        refine ob_move _ (v := .pointer (some ⟨g, 0, none⟩)) rfl (ev_of haa (by kernel_rfl)) ?_
        refine hK _ _ ?_ (World.grownBy.refl _ _) ⟨hJ.1, by obtain ⟨p', h1, h2⟩ := hJ.2; exact ⟨p', by omega, h2⟩⟩
        show (IsPtr g) w' _
        exact rfl
      · intro n vs aa w' haa hJ hd K hK
        refine ob_plain rfl ?_
        have d7 : (IsPtr g) w' (vs 7) := hd.1 rfl
        have e7 := d7
        obtain ⟨hg', p', hp', hr'⟩ := hJ
        refine ob_call 53 _ _ #[.pointer (some ⟨g, 0, none⟩), .int .i64 (8)] rfl (Eq.trans (b := #[vs 7, .int .i64 (8)]) (evs_of haa (by kernel_rfl)) (by rw [e7])) (fun _ _ => by kernel_rfl) ?_
        refine (pick_any g A len cap p' (8) _ hr' (by omega) (by omega) (by omega)).mono ?_
        rintro e w2 ⟨x, rfl, x0, x1, hr2, hg2⟩
        refine ⟨_, rfl, ?_⟩
        refine hK _ _ ?_ hg2 ⟨hg'.trans hg2, p' + 1, by omega, hr2⟩
        show (IntIn (0) (7)) w' _
        exact ⟨x, rfl, x0, by omega⟩
      · intro n vs aa w' haa hJ hd K hK
        refine ob_plain rfl ?_
        have d6 : (ArrIn g 8 (0) (255)) w' (vs 6) := hd.1 rfl
        obtain ⟨b6, e6, n6, z6, c6⟩ := d6
        have d8 : (IntIn (0) (7)) w' (vs 8) := hd.2.1 rfl
        obtain ⟨x8, e8, l8, u8⟩ := d8
        refine ob_index _ _ _ (by simp) (u := x8) rfl (Eq.trans (b := vs 6) (ev_of haa (by kernel_rfl)) e6) (Eq.trans (b := vs 8) (ev_of haa (by kernel_rfl)) e8) (by omega) (by omega) ?_
        obtain ⟨y, hy, y0, y1⟩ := c6 x8.toNat (by omega)
        refine hK _ _ ?_ (World.grownBy.refl _ _) ⟨hJ.1, by obtain ⟨p', h1, h2⟩ := hJ.2; exact ⟨p', by omega, h2⟩⟩
        show (ElAt g (0) (255)) w' _
        exact ⟨b6, _, rfl, n6, z6, y, by rw [Nat.zero_add]; exact hy, y0, y1⟩
      · intro n vs aa w' haa hJ hd K hK
        refine ob_plain rfl ?_
        have d9 : (ElAt g (0) (255)) w' (vs 9) := hd.1 rfl
        obtain ⟨b9, j9, e9, n9, z9, x9, c9, l9, u9⟩ := d9
        refine ob_load _ _ (by simp) rfl (Eq.trans (b := vs 9) (ev_of haa (by kernel_rfl)) e9) c9 ?_
        refine hK _ _ ?_ (World.grownBy.refl _ _) ⟨hJ.1, by obtain ⟨p', h1, h2⟩ := hJ.2; exact ⟨p', by omega, h2⟩⟩
        show (IntIn (0) (255)) w' _
        exact ⟨_, rfl, l9, u9⟩
      · intro n vs aa w' haa hJ hd K hK
        refine ob_plain rfl ?_
        have d10 : (IntIn (0) (255)) w' (vs 10) := hd.1 rfl
        refine ob_assign _ (v := vs 10) rfl (ev_of haa (by kernel_rfl)) ?_
        refine hK _ _ ?_ (World.grownBy.refl _ _) ⟨hJ.1, by obtain ⟨p', h1, h2⟩ := hJ.2; exact ⟨p', by omega, h2⟩⟩
        show (IntIn (0) (255)) w' _
        exact d10
    intro vs w' hJ hall
    obtain ⟨x, hx, x0, x1⟩ : IntIn 0 255 w' (vs 11) := hall 11 (by decide)
    clear hall
    obtain ⟨hg, p', hp', hr'⟩ := hJ
    have HD2 := Lib.hid (HD.out.step hg ⟨p', hp', hr'⟩)
    clear hr' hg hR HD
    simp only [fill, Act.put, List.toList_toArray, List.setIfInBounds_toArray, List.set_cons_zero, List.set_cons_succ, Nat.zero_add, Nat.reduceAdd, hx]
    go_wp2_with fail
    go_ret
    exact draws_of HD2.out (by omega) ⟨x, rfl, by omega, by omega, fun _ => ⟨x0, x1⟩⟩
  · go_upto_region 2 with (fail)
    obtain ⟨p, hp1, hR⟩ := HD.out.rd
    have hp : p ≤ 900000001 := by omega
    refine region_list0 (some g) (ArrIn g 2 (-1) (256) :: IsPtr g :: IntIn (0) (1) :: ElAt g (-1) (256) :: IntIn (-1) (256) :: IntIn (-1) (256) :: []) (fun n w' => World.grownBy W' w' (some g) ∧ ∃ p' : Nat, p' + 1 * n ≤ p + 6 ∧ Rd w' g A len cap p') ?_ ?_ ?_ ?_ ?_ ?_
    · exact ⟨st_arr _ _ _ _, st_ptr _ _, st_int _ _ _, st_el _ _ _, st_int _ _ _, st_int _ _ _, trivial⟩
    · exact of_decide_eq_true (by kernel_rfl)
    · kernel_rfl
    · exact ⟨World.grownBy.refl _ _, p, by simp, hR⟩
    · refine each_cons ?_ (each_cons ?_ (each_cons ?_ (each_cons ?_ (each_cons ?_ (each_cons ?_ ( trivial))))))
      · intro n vs aa w' haa hJ hd K hK
        refine ob_plain rfl ?_
        refine ob_build2 _ _ (u0 := (-1)) (u1 := (256)) rfl (ev_of haa (by kernel_rfl)) (ev_of haa (by kernel_rfl)) ?_
        refine hK _ _ ⟨_, rfl, Nat.ne_of_gt hJ.2.choose_spec.2.lt, by simp, fun k hk => ?_⟩ (World.grownBy_alloc _ _ _) ⟨hJ.1.trans (World.grownBy_alloc _ _ _), by obtain ⟨p', h1, h2⟩ := hJ.2; exact ⟨p', by omega, h2.alloc _⟩⟩
        match k, hk with
        | 0, _ => exact ⟨(-1), by simp [go_sem], by omega, by omega⟩
        | 1, _ => exact ⟨(256), by simp [go_sem], by omega, by omega⟩
      · intro n vs aa w' haa hJ hd K hK
        refine ob_plain rfl ?_
        refine ob_move _ (v := .pointer (some ⟨g, 0, none⟩)) rfl (ev_of haa (by kernel_rfl)) ?_
        refine hK _ _ ?_ (World.grownBy.refl _ _) ⟨hJ.1, by obtain ⟨p', h1, h2⟩ := hJ.2; exact ⟨p', by omega, h2⟩⟩
        show (IsPtr g) w' _
        exact rfl
      · intro n vs aa w' haa hJ hd K hK
        refine ob_plain rfl ?_
        have d1 : (IsPtr g) w' (vs 1) := hd.1 rfl
        have e1 := d1
        obtain ⟨hg', p', hp', hr'⟩ := hJ
        refine ob_call 53 _ _ #[.pointer (some ⟨g, 0, none⟩), .int .i64 (2)] rfl (Eq.trans (b := #[vs 1, .int .i64 (2)]) (evs_of haa (by kernel_rfl)) (by rw [e1])) (fun _ _ => by kernel_rfl) ?_
        refine (pick_any g A len cap p' (2) _ hr' (by omega) (by omega) (by omega)).mono ?_
        rintro e w2 ⟨x, rfl, x0, x1, hr2, hg2⟩
        refine ⟨_, rfl, ?_⟩
        refine hK _ _ ?_ hg2 ⟨hg'.trans hg2, p' + 1, by omega, hr2⟩
        show (IntIn (0) (1)) w' _
        exact ⟨x, rfl, x0, by omega⟩
      · intro n vs aa w' haa hJ hd K hK
        refine ob_plain rfl ?_
        have d0 : (ArrIn g 2 (-1) (256)) w' (vs 0) := hd.1 rfl
        obtain ⟨b0, e0, n0, z0, c0⟩ := d0
        have d2 : (IntIn (0) (1)) w' (vs 2) := hd.2.1 rfl
        obtain ⟨x2, e2, l2, u2⟩ := d2
        refine ob_index _ _ _ (by simp) (u := x2) rfl (Eq.trans (b := vs 0) (ev_of haa (by kernel_rfl)) e0) (Eq.trans (b := vs 2) (ev_of haa (by kernel_rfl)) e2) (by omega) (by omega) ?_
        obtain ⟨y, hy, y0, y1⟩ := c0 x2.toNat (by omega)
        refine hK _ _ ?_ (World.grownBy.refl _ _) ⟨hJ.1, by obtain ⟨p', h1, h2⟩ := hJ.2; exact ⟨p', by omega, h2⟩⟩
        show (ElAt g (-1) (256)) w' _
        exact ⟨b0, _, rfl, n0, z0, y, by rw [Nat.zero_add]; exact hy, y0, y1⟩
      · intro n vs aa w' haa hJ hd K hK
        refine ob_plain rfl ?_
        have d3 : (ElAt g (-1) (256)) w' (vs 3) := hd.1 rfl
        obtain ⟨b3, j3, e3, n3, z3, x3, c3, l3, u3⟩ := d3
        refine ob_load _ _ (by simp) rfl (Eq.trans (b := vs 3) (ev_of haa (by kernel_rfl)) e3) c3 ?_
        refine hK _ _ ?_ (World.grownBy.refl _ _) ⟨hJ.1, by obtain ⟨p', h1, h2⟩ := hJ.2; exact ⟨p', by omega, h2⟩⟩
        show (IntIn (-1) (256)) w' _
        exact ⟨_, rfl, l3, u3⟩
      · intro n vs aa w' haa hJ hd K hK
        refine ob_plain rfl ?_
        have d4 : (IntIn (-1) (256)) w' (vs 4) := hd.1 rfl
        refine ob_assign _ (v := vs 4) rfl (ev_of haa (by kernel_rfl)) ?_
        refine hK _ _ ?_ (World.grownBy.refl _ _) ⟨hJ.1, by obtain ⟨p', h1, h2⟩ := hJ.2; exact ⟨p', by omega, h2⟩⟩
        show (IntIn (-1) (256)) w' _
        exact d4
    intro vs w' hJ hall
    obtain ⟨x, hx, x0, x1⟩ : IntIn (-1) 256 w' (vs 5) := hall 5 (by decide)
    clear hall
    obtain ⟨hg, p', hp', hr'⟩ := hJ
    have HD2 := Lib.hid (HD.out.step hg ⟨p', hp', hr'⟩)
    clear hr' hg hR HD
    simp only [fill, Act.put, List.toList_toArray, List.setIfInBounds_toArray, List.set_cons_zero, List.set_cons_succ, Nat.zero_add, Nat.reduceAdd, hx]
    go_wp2_with fail
    go_ret
    exact draws_of HD2.out (by omega) ⟨x, rfl, by omega, by omega, fun h => absurd (hb h) (by simp)⟩
theorem l20Byte_d {w W : World} {g len cap p0 q : Nat} {A : Option Addr} (h : Drs w W g A len cap p0 q) (n : Int) (hq : q ≤ 900000000) (h0 : 0 ≤ n) (h1 : n ≤ 1000000000) :
    Calls Try.prog 71 #[.pointer (some ⟨g, 0, none⟩), .int .i64 n] W (Dr w W g A len cap p0 (q + 14) (ByteV n)) :=
  dr_of h 900000000 hq fun p hp hR => l20Byte_any g A len cap p n W hR hp h0 h1
end Go.Proofs.Ytgedfcccflobmaa
