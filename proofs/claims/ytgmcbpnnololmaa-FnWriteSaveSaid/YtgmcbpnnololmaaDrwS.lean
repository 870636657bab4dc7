/-
  What the statements on saves draw: numbers, data, slots. No condition.
-/
import Derived.Test.YtgmcbpnnololmaaDrw
import Derived.Test.YtgmcbpnnololmaaSaveB
import Derived.Test.YtgmcbpnnololmaaSaveR
namespace Go.Proofs.Ytgmcbpnnololmaa
open Go.RowKit
set_option linter.unusedVariables false
set_option linter.unusedSimpArgs false
theorem cell_new (w : World) (cs : Array Value) (t : TypeId) (i : Nat) : (w.alloc (.cells cs t)).cell? ⟨w.heap.size, i, none⟩ = cs[i]? := (Blk.new w t cs).cell i
/-- A list of numbers that lies in blocks from base on, to be read. -/
def LRd (base : Nat) (Pr : List Int → Prop) (w : World) (v : Value) : Prop :=
  ∃ A c xs, v = .slice A xs.length c ∧ xs.length ≤ c ∧ (A = none → c = 0) ∧ Ints w w.heap.size A xs.length xs ∧ (∀ ad : Addr, A = some ad → base ≤ ad.block) ∧ Pr xs
theorem LRow.reads {base : Nat} {Pr : List Int → Prop} {w : World} {v : Value} (h : LRow base Pr w v) : LRd base Pr w v := by
  obtain ⟨A, c, xs, rfl, o, hp⟩ := h
  refine ⟨A, c, xs, rfl, own_cap o, ?_, own_ints o, ?_, hp⟩
  · rintro rfl
    rcases own_block o with ⟨_, _, h⟩ | ⟨g, e, _⟩
    · exact h
    · cases e
  · rintro ad rfl
    rcases own_block o with ⟨h, _⟩ | ⟨g, e, hb, _⟩
    · cases h
    · injection e with e
      subst e
      exact hb
theorem Ints.grown {w w' : World} {n g : Nat} {A : Option Addr} {xs : List Int} (h : Ints w w.heap.size A n xs) (hg : w.grownBy w' (some g)) (hA : ∀ ad : Addr, A = some ad → ad.block ≠ g) : Ints w' w'.heap.size A n xs := by
  refine ⟨h.1, fun hn => ?_⟩
  obtain ⟨ad, e, hb, hc⟩ := h.2 hn
  refine ⟨ad, e, Nat.lt_of_lt_of_le hb hg.size, fun j u hu => ?_⟩
  rw [World.cell?_of_block (hg.block _ (by rw [block_of_add]; exact hb) (by rw [block_of_add]; intro e2; injection e2 with e2; exact hA ad e e2))]
  exact hc j u hu
theorem st_lrd (base g : Nat) (Pr : List Int → Prop) (hb : g < base) : Stable (some g) (LRd base Pr) := by
  rintro w w' v hg ⟨A, c, xs, rfl, h1, h2, h3, h4, h5⟩
  exact ⟨A, c, xs, rfl, h1, h2, h3.grown hg (fun ad e => by have := h4 ad e; omega), h4, h5⟩
theorem LRd.below {base : Nat} {Pr : List Int → Prop} {w w' : World} {v : Value} (h : LRd base Pr w v) (hb : Below w.heap.size w w') : LRd base Pr w' v := by
  obtain ⟨A, c, xs, rfl, h1, h2, h3, h4, h5⟩ := h
  exact ⟨A, c, xs, rfl, h1, h2, h3.step (Nat.le_refl _) hb, h4, h5⟩
theorem allB_snoc {xs : List Int} {x : Int} (h : allB xs = true) (h0 : 0 ≤ x) (h1 : x ≤ 255) : allB (xs ++ [x]) = true := by
  unfold allB at h ⊢
  rw [List.all_append, h]
  simp [inB_true (show 0 ≤ x ∧ x ≤ 255 from ⟨h0, h1⟩)]
/-- What l20Data draws. -/
def DataP (n : Int) (xs : List Int) : Prop := xs.length ≤ 33 ∧ (n = 0 → xs.length ≤ 11 ∧ allB xs = true)
set_option maxRecDepth 100000 in
set_option maxHeartbeats 2000000 in
theorem l20Data_any (g : Nat) (A : Option Addr) (len cap p0 : Nat) (n : Int) (w : World) (h : Rd w g A len cap p0) (hp0 : p0 ≤ 800000000) (n0 : 0 ≤ n) (n1 : n ≤ 1000000000) :
    Calls Try.prog 41 #[.pointer (some ⟨g, 0, none⟩), .int .i64 n] w (Draws g A len cap p0 200 w (LRow w.heap.size (DataP n))) := by
  have hown0 : (w.alloc (.cells #[] 3)).ownsRow w.heap.size 3 1 (.slice (some ⟨w.heap.size, 0, none⟩) 0 0) 0 (iv []) := World.ownsRow_lit w #[] 0 (Nat.le_refl _) (by simp [maxLen]) rfl
  have HO := Lib.hid hown0
  have hgl := h.lt
  have HD := Lib.hid ((Drs.start h).alloc (.cells #[] 3))
  clear h hown0
  go_enter Try.func41, Try.ntmps41
  go_wp2_with fail
  refine (pick_d HD.out 12 (by omega) (by omega) (by omega)).mono ?_
  rintro e W' ⟨v, rfl, ⟨x, rfl, x0, x1⟩, hD, hgr⟩
  replace HD := Lib.hid hD
  clear hD
  replace HO := Lib.hid (own_rd HO.out hgr hgl)
  clear hgr
  obtain ⟨K0, rfl⟩ := Int.eq_ofNat_of_zero_le x0
  have hK0 : K0 ≤ 11 := by omega
  clear x0 x1
  go_wp2_with fail
  go_loopw [5, 6] (fun out k wr => ∃ (K : Nat) (A' : Option Addr) (c' : Nat) (o : List Int), out = .slice A' o.length c' ∧ k = .int .i64 K ∧ o.length + K ≤ 11 ∧ allB o = true ∧ wr.ownsRow w.heap.size 3 1 (.slice A' o.length c') o.length (iv o) ∧ Drs w wr g A len cap p0 (p0 + 1 + 14 * (11 - K))) (fun _ k _ => (intOf k).toNat)
  case atStart => exact ⟨K0, _, _, [], rfl, rfl, by simpa using hK0, rfl, HO.out, HD.out.more (by omega)⟩
  case round =>
    obtain ⟨K, A', c', o, rfl, rfl, hl, hall, hown, hD⟩ := hrel
    replace HD := Lib.hid hD
    replace HO := Lib.hid hown
    clear hD hown
    by_cases hlt : 0 < K
    · have q1 : (K : Int) > 0 := by omega
      go_wp2_with fail
      refine (l20Byte_d HD.out 0 (by omega) (by omega) (by omega)).mono ?_
      rintro e W' ⟨v, rfl, ⟨x, rfl, x0, x1, x2⟩, hD, hgr⟩
      replace HD := Lib.hid hD
      clear hD
      replace HO := Lib.hid (own_rd HO.out hgr hgl)
      clear hgr
      have hs := HD.out.size.2
      have X := Lib.hid (x2 rfl)
      clear x2
      go_wp2_with (at_builtin; refine push_own_g _ rfl _ _ rfl w.heap.size o.length c' W'.heap.size 1 A' o x rfl rfl (HO.out.alloc _) (by exact cell_new W' _ _ 0) (by omega) (by simp; omega) ?_; intro A3 c3 w3 hown3 hg3; have hD3 := (HD.out.alloc _).push hg3 (fun k hk => (HO.out.lt k hk).1); replace hown3 := Lib.hid hown3; replace hD3 := Lib.hid hD3; clear hg3)
      go_roundw
      case rel => exact ⟨K - 1, A3, c3, o ++ [x], by simp, by rw [show (K : Int) - 1 = ((K - 1 : Nat) : Int) by omega], by simp; omega, allB_snoc hall X.out.1 X.out.2, by rw [List.length_append]; exact hown3.out, hD3.out.more (by omega)⟩
      case measure => simp [intOf]; omega
    · obtain rfl : K = 0 := by omega
      go_wp2_with fail
      refine (odd_d HD.out n (by omega) n0 n1).mono ?_
      rintro e W' ⟨v, rfl, ⟨b, rfl, hb⟩, hD, hgr⟩
      replace HD := Lib.hid hD
      clear hD
      replace HO := Lib.hid (own_rd HO.out hgr hgl)
      clear hgr
      cases b
      · go_wp2_with fail
        go_ret
        exact draws_of HD.out (by omega) ⟨A', c', o, rfl, HO.out, by omega, fun _ => ⟨by omega, hall⟩⟩
      · have hn : Hid (n ≠ 0) := Lib.hid (fun h => absurd (hb h) (by simp))
        clear hb
        go_wp2_with fail
        refine (pick_d HD.out 2 (by omega) (by omega) (by omega)).mono ?_
        rintro e W' ⟨v, rfl, ⟨x, rfl, x0, x1⟩, hD, hgr⟩
        replace HD := Lib.hid hD
        clear hD
        replace HO := Lib.hid (own_rd HO.out hgr hgl)
        clear hgr
        by_cases hx : x = 0
        · subst hx
          go_wp2_with fail
          refine (l20Byte_d HD.out 1 (by omega) (by omega) (by omega)).mono ?_
          rintro e W' ⟨v, rfl, ⟨x, rfl, y0, y1, y2⟩, hD, hgr⟩
          replace HD := Lib.hid hD
          clear hD
          replace HO := Lib.hid (own_rd HO.out hgr hgl)
          clear hgr y2
          have hs := HD.out.size.2
          go_wp2_with (at_builtin; refine push_own_g _ rfl _ _ rfl w.heap.size o.length c' W'.heap.size 1 A' o x rfl rfl (HO.out.alloc _) (by exact cell_new W' _ _ 0) (by omega) (by simp; omega) ?_; intro A3 c3 w3 hown3 hg3; have hD3 := (HD.out.alloc _).push hg3 (fun k hk => (HO.out.lt k hk).1); replace hown3 := Lib.hid hown3; replace hD3 := Lib.hid hD3; clear hg3)
          go_ret
          exact draws_of hD3.out (by omega) ⟨A3, c3, o ++ [x], by simp, by rw [List.length_append]; exact hown3.out, by simp; omega, fun h => absurd h hn.out⟩
        · have hx1 : x = 1 := by omega
          subst hx1
          go_wp2_with fail
          refine (pick_d HD.out 2 (by omega) (by omega) (by omega)).mono ?_
          rintro e W' ⟨v, rfl, ⟨y, rfl, y0, y1⟩, hD, hgr⟩
          replace HD := Lib.hid hD
          clear hD
          clear hgr HO
          obtain ⟨Y, rfl⟩ := Int.eq_ofNat_of_zero_le y0
          have hs := HD.out.size.2
          have e1 := Lib.hid (show (32 : Int) + (Y : Int) = ((32 + Y : Nat) : Int) by omega)
          have y2 : (Y : Int) ≤ 1 := by omega
          go_wp2_with (at_make; refine make_full _ rfl _ _ rfl (32 + Y) (by exact congrArg (Value.int .i64) e1.out) (by exact congrArg (Value.int .i64) e1.out) (by omega) w.heap.size hs ?_; intro w1 ho1 hb1; replace ho1 := Lib.hid ho1; replace hb1 := Lib.hid hb1)
          go_ret
          exact draws_of (HD.out.below hb1.out) (by omega) ⟨some ⟨W'.heap.size, 0, none⟩, 32 + Y, List.replicate (32 + Y) 0, by simp, by rw [List.length_replicate]; exact ho1.out, by simp; omega, fun h => absurd h hn.out⟩
theorem Drs.belowB {w W W' : World} {g len cap p0 q : Nat} {A : Option Addr} (h : Drs w W g A len cap p0 q) (hb : Below w.heap.size W W') : Drs w W' g A len cap p0 q := by
  obtain ⟨p, hp, hR⟩ := h.rd
  have hG : w.grownBy W' (some g) := ⟨hb.os.trans h.hg.os, hb.tape.trans h.hg.tape, hb.output.trans h.hg.output, Nat.le_trans h.hg.size hb.size, fun k hk hne => (hb.block k hk).trans (h.hg.block k hk hne)⟩
  exact ⟨h.r0, hG, p, hp, hR.1.below hb h.r0.lt, h.r0.2.1.grown hG, hR.2.2⟩
theorem iv_set (xs : List Int) (i : Nat) (y : Int) : (iv xs).set i (.int .i64 y) = iv (xs.set i y) := by simp [iv, List.map_set]
theorem LRow.base {b b' : Nat} {Pr Pr' : List Int → Prop} {w : World} {v : Value} (h : LRow b' Pr w v) (hb : b ≤ b') (hp : ∀ xs, Pr xs → Pr' xs) : LRow b Pr' w v := by
  obtain ⟨A, c, xs, rfl, o, h⟩ := h
  exact ⟨A, c, xs, rfl, own_base o hb, hp xs h⟩
theorem l20Data_z {B : Nat} {w : World} (hB : B ≤ w.heap.size) (g : Nat) (A : Option Addr) (len cap p0 : Nat) (h : Rd w g A len cap p0) (hp0 : p0 ≤ 800000000) :
    Calls Try.prog 41 #[.pointer (some ⟨g, 0, none⟩), .int .i64 0] w (Draws g A len cap p0 200 w (LRow B (DataP 0))) :=
  (l20Data_any g A len cap p0 0 w h hp0 (by omega) (by omega)).mono fun e w' ⟨v, he, hv, hg, hp⟩ => ⟨v, he, hv.base hB (fun _ h => h), hg, hp⟩
def SaveP (xs : List Int) : Prop := 4 ≤ xs.length ∧ xs.length ≤ 36
theorem saveBytes_d {B : Nat} {w : World} {u v : Value} (hB : B ≤ w.heap.size) (hu : IntIn 0 65535 w u) (hv : LRow B (DataP 0) w v) :
    Calls Try.prog 12 #[u, v] w fun e w' => ∃ x, e = .returned x ∧ LRow B SaveP w' x ∧ Below w.heap.size w w' := by
  obtain ⟨m, rfl, m0, m1⟩ := hu
  obtain ⟨A, c, xs, rfl, o, h33, hz⟩ := hv
  obtain ⟨h11, hb⟩ := hz rfl
  refine (saveBytes_spec m A xs.length c xs w (own_ints o) (by omega) ?_).mono ?_
  · rintro rfl
    rcases own_block o with ⟨_, _, h⟩ | ⟨g, e, _⟩
    · exact h
    · cases e
  · rintro e w' ⟨A', c', rfl, o', b'⟩
    refine ⟨_, rfl, ⟨A', c', saveR m xs, rfl, own_base o' hB, ?_⟩, b'⟩
    have hr : saveR m xs = saveL m xs ++ [chk (saveL m xs)] := by simp [saveR, inB_true (show 0 ≤ m ∧ m ≤ 65535 from ⟨m0, m1⟩), hb]; omega
    rw [hr]
    simp [SaveP, saveL_len]; omega
/-- What l20Slot draws. -/
def SlotP (xs : List Int) : Prop := xs.length ≤ 40
set_option maxRecDepth 100000 in
set_option maxHeartbeats 4000000 in
theorem l20Slot_any (g : Nat) (A : Option Addr) (len cap p0 : Nat) (w : World) (h : Rd w g A len cap p0) (hp0 : p0 ≤ 700000000) :
    Calls Try.prog 43 #[.pointer (some ⟨g, 0, none⟩)] w (Draws g A len cap p0 3000 w (LRd w.heap.size SlotP)) := by
  have HD := Lib.hid (Drs.start h)
  clear h
  go_enter Try.func43, Try.ntmps43
  go_upto_region 1 with (fail)
  have hgl : g < w.heap.size := HD.out.size.1
  obtain ⟨p, hp1, hR⟩ := HD.out.rd
  have hp : p ≤ 700000000 := by omega
  refine region_list (some g) (IsPtr g :: IntIn (0) (3) :: ArrIn g 4 (0) (65535) :: ArrIn g 7 (0) (3) :: IsPtr g :: IntIn (0) (6) :: ElAt g (0) (3) :: IntIn (0) (3) :: ElAt g (0) (65535) :: IntIn (0) (65535) :: IsPtr g :: LRow w.heap.size (DataP 0) :: LRow w.heap.size SaveP :: LRow w.heap.size SaveP :: []) (fun n w' => World.grownBy w w' (some g) ∧ ∃ p' : Nat, p' + 200 * n ≤ p + 2800 ∧ Rd w' g A len cap p') ?_ ?_ ?_ ?_ ?_ ?_ ?_
  · kernel_rfl
  · exact ⟨st_ptr _ _, st_int _ _ _, st_arr _ _ _ _, st_arr _ _ _ _, st_ptr _ _, st_int _ _ _, st_el _ _ _, st_int _ _ _, st_el _ _ _, st_int _ _ _, st_ptr _ _, st_lrow _ _ _ hgl, st_lrow _ _ _ hgl, st_lrow _ _ _ hgl, trivial⟩
  · exact of_decide_eq_true (by kernel_rfl)
  · kernel_rfl
  · exact ⟨grown_drew _ _, p, by simp, hR⟩
  · refine each_cons ?_ (each_cons ?_ (each_cons ?_ (each_cons ?_ (each_cons ?_ (each_cons ?_ (each_cons ?_ (each_cons ?_ (each_cons ?_ (each_cons ?_ (each_cons ?_ (each_cons ?_ (each_cons ?_ (each_cons ?_ ( trivial))))))))))))))
    · intro n vs aa w' haa hJ hd K hK
      refine ob_plain rfl ?_
      refine ob_move _ (v := .pointer (some ⟨g, 0, none⟩)) rfl (ev_of haa (by kernel_rfl)) ?_
      refine hK _ _ ?_ (World.grownBy.refl _ _) ⟨hJ.1, by obtain ⟨p', h1, h2⟩ := hJ.2; exact ⟨p', by omega, h2⟩⟩
      show (IsPtr g) w' _
      exact rfl
    · intro n vs aa w' haa hJ hd K hK
      refine ob_plain rfl ?_
      have d0 : (IsPtr g) w' (vs 0) := hd.1 rfl
      have e0 := d0
      obtain ⟨hg', p', hp', hr'⟩ := hJ
      refine ob_call 40 _ _ #[.pointer (some ⟨g, 0, none⟩), .int .i64 (4)] rfl (Eq.trans (b := #[vs 0, .int .i64 (4)]) (evs_of haa (by kernel_rfl)) (by rw [e0])) (fun _ _ => by kernel_rfl) ?_
      refine (pick_any g A len cap p' (4) _ hr' (by omega) (by omega) (by omega)).mono ?_
      rintro e w2 ⟨x, rfl, x0, x1, hr2, hg2⟩
      refine ⟨_, rfl, ?_⟩
      refine hK _ _ ?_ hg2 ⟨hg'.trans hg2, p' + 1, by omega, hr2⟩
      show (IntIn (0) (3)) w' _
      exact ⟨x, rfl, x0, by omega⟩
    · intro n vs aa w' haa hJ hd K hK
      refine ob_plain rfl ?_
      have d1 : (IntIn (0) (3)) w' (vs 1) := hd.1 rfl
      obtain ⟨x1, e1, l1, u1⟩ := d1
      refine ob_build4 _ _ _ _ (u0 := x1) (u1 := (255)) (u2 := (256)) (u3 := (65535)) rfl (Eq.trans (b := vs 1) (ev_of haa (by kernel_rfl)) e1) (ev_of haa (by kernel_rfl)) (ev_of haa (by kernel_rfl)) (ev_of haa (by kernel_rfl)) ?_
      refine hK _ _ ⟨_, rfl, Nat.ne_of_gt hJ.2.choose_spec.2.lt, by simp, fun k hk => ?_⟩ (World.grownBy_alloc _ _ _) ⟨hJ.1.trans (World.grownBy_alloc _ _ _), by obtain ⟨p', h1, h2⟩ := hJ.2; exact ⟨p', by omega, h2.alloc _⟩⟩
      match k, hk with
      | 0, _ => exact ⟨x1, by simp [go_sem], by omega, by omega⟩
      | 1, _ => exact ⟨(255), by simp [go_sem], by omega, by omega⟩
      | 2, _ => exact ⟨(256), by simp [go_sem], by omega, by omega⟩
      | 3, _ => exact ⟨(65535), by simp [go_sem], by omega, by omega⟩
    · intro n vs aa w' haa hJ hd K hK
      refine ob_plain rfl ?_
      refine ob_build7 _ _ _ _ _ _ _ (u0 := (0)) (u1 := (0)) (u2 := (0)) (u3 := (0)) (u4 := (1)) (u5 := (2)) (u6 := (3)) rfl (ev_of haa (by kernel_rfl)) (ev_of haa (by kernel_rfl)) (ev_of haa (by kernel_rfl)) (ev_of haa (by kernel_rfl)) (ev_of haa (by kernel_rfl)) (ev_of haa (by kernel_rfl)) (ev_of haa (by kernel_rfl)) ?_
      refine hK _ _ ⟨_, rfl, Nat.ne_of_gt hJ.2.choose_spec.2.lt, by simp, fun k hk => ?_⟩ (World.grownBy_alloc _ _ _) ⟨hJ.1.trans (World.grownBy_alloc _ _ _), by obtain ⟨p', h1, h2⟩ := hJ.2; exact ⟨p', by omega, h2.alloc _⟩⟩
      match k, hk with
      | 0, _ => exact ⟨(0), by simp [go_sem], by omega, by omega⟩
      | 1, _ => exact ⟨(0), by simp [go_sem], by omega, by omega⟩
      | 2, _ => exact ⟨(0), by simp [go_sem], by omega, by omega⟩
      | 3, _ => exact ⟨(0), by simp [go_sem], by omega, by omega⟩
      | 4, _ => exact ⟨(1), by simp [go_sem], by omega, by omega⟩
      | 5, _ => exact ⟨(2), by simp [go_sem], by omega, by omega⟩
      | 6, _ => exact ⟨(3), by simp [go_sem], by omega, by omega⟩
    · intro n vs aa w' haa hJ hd K hK
      refine ob_plain rfl ?_
      refine ob_move _ (v := .pointer (some ⟨g, 0, none⟩)) rfl (ev_of haa (by kernel_rfl)) ?_
      refine hK _ _ ?_ (World.grownBy.refl _ _) ⟨hJ.1, by obtain ⟨p', h1, h2⟩ := hJ.2; exact ⟨p', by omega, h2⟩⟩
      show (IsPtr g) w' _
      exact rfl
    · intro n vs aa w' haa hJ hd K hK
      refine ob_plain rfl ?_
      have d4 : (IsPtr g) w' (vs 4) := hd.1 rfl
      have e4 := d4
      obtain ⟨hg', p', hp', hr'⟩ := hJ
      refine ob_call 40 _ _ #[.pointer (some ⟨g, 0, none⟩), .int .i64 (7)] rfl (Eq.trans (b := #[vs 4, .int .i64 (7)]) (evs_of haa (by kernel_rfl)) (by rw [e4])) (fun _ _ => by kernel_rfl) ?_
      refine (pick_any g A len cap p' (7) _ hr' (by omega) (by omega) (by omega)).mono ?_
      rintro e w2 ⟨x, rfl, x0, x1, hr2, hg2⟩
      refine ⟨_, rfl, ?_⟩
      refine hK _ _ ?_ hg2 ⟨hg'.trans hg2, p' + 1, by omega, hr2⟩
      show (IntIn (0) (6)) w' _
      exact ⟨x, rfl, x0, by omega⟩
    · intro n vs aa w' haa hJ hd K hK
      refine ob_plain rfl ?_
      have d3 : (ArrIn g 7 (0) (3)) w' (vs 3) := hd.1 rfl
      obtain ⟨b3, e3, n3, z3, c3⟩ := d3
      have d5 : (IntIn (0) (6)) w' (vs 5) := hd.2.1 rfl
      obtain ⟨x5, e5, l5, u5⟩ := d5
      refine ob_index _ _ _ (by simp) (u := x5) rfl (Eq.trans (b := vs 3) (ev_of haa (by kernel_rfl)) e3) (Eq.trans (b := vs 5) (ev_of haa (by kernel_rfl)) e5) (by omega) (by omega) ?_
      obtain ⟨y, hy, y0, y1⟩ := c3 x5.toNat (by omega)
      refine hK _ _ ?_ (World.grownBy.refl _ _) ⟨hJ.1, by obtain ⟨p', h1, h2⟩ := hJ.2; exact ⟨p', by omega, h2⟩⟩
      show (ElAt g (0) (3)) w' _
      exact ⟨b3, _, rfl, n3, z3, y, by rw [Nat.zero_add]; exact hy, y0, y1⟩
    · intro n vs aa w' haa hJ hd K hK
      refine ob_plain rfl ?_
      have d6 : (ElAt g (0) (3)) w' (vs 6) := hd.1 rfl
      obtain ⟨b6, j6, e6, n6, z6, x6, c6, l6, u6⟩ := d6
      refine ob_load _ _ (by simp) rfl (Eq.trans (b := vs 6) (ev_of haa (by kernel_rfl)) e6) c6 ?_
      refine hK _ _ ?_ (World.grownBy.refl _ _) ⟨hJ.1, by obtain ⟨p', h1, h2⟩ := hJ.2; exact ⟨p', by omega, h2⟩⟩
      show (IntIn (0) (3)) w' _
      exact ⟨_, rfl, l6, u6⟩
    · intro n vs aa w' haa hJ hd K hK
      refine ob_plain rfl ?_
      have d2 : (ArrIn g 4 (0) (65535)) w' (vs 2) := hd.1 rfl
      obtain ⟨b2, e2, n2, z2, c2⟩ := d2
      have d7 : (IntIn (0) (3)) w' (vs 7) := hd.2.1 rfl
      obtain ⟨x7, e7, l7, u7⟩ := d7
      refine ob_index _ _ _ (by simp) (u := x7) rfl (Eq.trans (b := vs 2) (ev_of haa (by kernel_rfl)) e2) (Eq.trans (b := vs 7) (ev_of haa (by kernel_rfl)) e7) (by omega) (by omega) ?_
      obtain ⟨y, hy, y0, y1⟩ := c2 x7.toNat (by omega)
      refine hK _ _ ?_ (World.grownBy.refl _ _) ⟨hJ.1, by obtain ⟨p', h1, h2⟩ := hJ.2; exact ⟨p', by omega, h2⟩⟩
      show (ElAt g (0) (65535)) w' _
      exact ⟨b2, _, rfl, n2, z2, y, by rw [Nat.zero_add]; exact hy, y0, y1⟩
    · intro n vs aa w' haa hJ hd K hK
      refine ob_plain rfl ?_
      have d8 : (ElAt g (0) (65535)) w' (vs 8) := hd.1 rfl
      obtain ⟨b8, j8, e8, n8, z8, x8, c8, l8, u8⟩ := d8
      refine ob_load _ _ (by simp) rfl (Eq.trans (b := vs 8) (ev_of haa (by kernel_rfl)) e8) c8 ?_
      refine hK _ _ ?_ (World.grownBy.refl _ _) ⟨hJ.1, by obtain ⟨p', h1, h2⟩ := hJ.2; exact ⟨p', by omega, h2⟩⟩
      show (IntIn (0) (65535)) w' _
      exact ⟨_, rfl, l8, u8⟩
    · intro n vs aa w' haa hJ hd K hK
      refine ob_plain rfl ?_
      refine ob_move _ (v := .pointer (some ⟨g, 0, none⟩)) rfl (ev_of haa (by kernel_rfl)) ?_
      refine hK _ _ ?_ (World.grownBy.refl _ _) ⟨hJ.1, by obtain ⟨p', h1, h2⟩ := hJ.2; exact ⟨p', by omega, h2⟩⟩
      show (IsPtr g) w' _
      exact rfl
    · intro n vs aa w' haa hJ hd K hK
      refine ob_plain rfl ?_
      have d10 : (IsPtr g) w' (vs 10) := hd.1 rfl
      have e10 := d10
      obtain ⟨hg', p', hp', hr'⟩ := hJ
      refine ob_call 41 _ _ #[.pointer (some ⟨g, 0, none⟩), .int .i64 (0)] rfl (Eq.trans (b := #[vs 10, .int .i64 (0)]) (evs_of haa (by kernel_rfl)) (by rw [e10])) (fun _ _ => by kernel_rfl) ?_
      refine (l20Data_z hg'.size g A len cap p' hr' (by omega)).mono ?_
      rintro e w2 ⟨v, rfl, hv, hg2, p2, hp2, hr2⟩
      refine ⟨_, rfl, ?_⟩
      refine hK _ _ ?_ hg2 ⟨hg'.trans hg2, p2, by omega, hr2⟩
      show (LRow w.heap.size (DataP 0)) _ _
      exact hv
    · intro n vs aa w' haa hJ hd K hK
      refine ob_plain rfl ?_
      have d9 : (IntIn (0) (65535)) w' (vs 9) := hd.1 rfl
      have d11 : (LRow w.heap.size (DataP 0)) w' (vs 11) := hd.2.1 rfl
      obtain ⟨hg', p', hp', hr'⟩ := hJ
      refine ob_call 12 _ _ #[vs 9, vs 11] rfl (evs_of haa (by kernel_rfl)) (fun _ _ => by kernel_rfl) ?_
      refine (saveBytes_d hg'.size d9 d11).mono ?_
      rintro e w2 ⟨v, rfl, hv, hb2⟩
      refine ⟨_, rfl, ?_⟩
      refine hK _ _ ?_ (grown_of_below hb2 _) ⟨hg'.trans (grown_of_below hb2 _), p', by omega, hr'.below hb2⟩
      show (LRow w.heap.size SaveP) w2 _
      exact hv
    · intro n vs aa w' haa hJ hd K hK
      refine ob_plain rfl ?_
      have d12 : (LRow w.heap.size SaveP) w' (vs 12) := hd.1 rfl
      refine ob_assign _ (v := vs 12) rfl (ev_of haa (by kernel_rfl)) ?_
      refine hK _ _ ?_ (World.grownBy.refl _ _) ⟨hJ.1, by obtain ⟨p', h1, h2⟩ := hJ.2; exact ⟨p', by omega, h2⟩⟩
      show (LRow w.heap.size SaveP) _ _
      exact d12
  intro vs w' hJ hall
  have hv : LRow w.heap.size SaveP w' (vs 12) := hall 12 (by decide)
  obtain ⟨B, c, xs, hx, o, h4, h36⟩ : LRow w.heap.size SaveP w' (vs 13) := hall 13 (by decide)
  clear hall hv
  obtain ⟨hg, p', hp', hr'⟩ := hJ
  replace HD := Lib.hid (HD.out.step hg ⟨p', hp', hr'⟩)
  have HO := Lib.hid o
  clear hr' hg hR o
  simp only [fill, Act.put, List.toList_toArray, List.setIfInBounds_toArray, List.set_cons_zero, List.set_cons_succ, Nat.zero_add, Nat.reduceAdd, hx]
  go_wp2_with fail
  refine (pick_d HD.out 5 (by omega) (by omega) (by omega)).mono ?_
  rintro e W' ⟨v, rfl, ⟨z, rfl, z0, z1⟩, hD, hgr⟩
  replace HD := Lib.hid hD
  clear hD
  replace HO := Lib.hid (own_rd HO.out hgr hgl)
  clear hgr
  by_cases e0 : z = 0
  · subst e0
    clear z0 z1
    go_wp2_with fail
    refine (pick_d HD.out (xs.length : Int) (by omega) (by omega) (by omega)).mono ?_
    rintro e W' ⟨v, rfl, ⟨i, rfl, i0, i1⟩, hD, hgr⟩
    replace HD := Lib.hid hD
    clear hD
    replace HO := Lib.hid (own_rd HO.out hgr hgl)
    clear hgr
    go_wp2_with fail
    refine (l20Byte_d HD.out 9 (by omega) (by omega) (by omega)).mono ?_
    rintro e W' ⟨v, rfl, ⟨y, rfl, y0, y1, y2⟩, hD, hgr⟩
    replace HD := Lib.hid hD
    clear hD
    replace HO := Lib.hid (own_rd HO.out hgr hgl)
    clear hgr y2
    obtain ⟨I, rfl⟩ := Int.eq_ofNat_of_zero_le i0
    obtain ⟨gb, cp, ev, gb0, gb1⟩ := HO.out.form (by omega)
    injection ev with ev _ ec
    subst ev ec
    have hI : I < xs.length := by omega
    have hcell := (HO.out.cellAt I (by omega)).trans (iv_at hI)
    have hfz := HO.out.frozenAt I
    have hst := HO.out.stored I (.int .i64 y)
    rw [iv_set] at hst
    have HST := Lib.hid hst
    have q1 : (I : Int) < (xs.length : Int) := by omega
    clear hst
    go_wp2_with fail
    go_ret
    refine draws_of (HD.out.push HST.out.2 ?_) (by omega) (LRow.reads ⟨some ⟨gb, 0, none⟩, c, xs.set I y, by simp, by rw [List.length_set]; exact HST.out.1, by simp [SlotP]; omega⟩)
    intro k hk
    injection hk with hk
    omega
  by_cases e1 : z = 1
  · subst e1
    clear z0 z1 e0
    go_wp2_with fail
    refine (pick_d HD.out (xs.length : Int) (by omega) (by omega) (by omega)).mono ?_
    rintro e W' ⟨v, rfl, ⟨i, rfl, i0, i1⟩, hD, hgr⟩
    replace HD := Lib.hid hD
    clear hD
    replace HO := Lib.hid (own_rd HO.out hgr hgl)
    clear hgr
    obtain ⟨I, rfl⟩ := Int.eq_ofNat_of_zero_le i0
    have hI : I ≤ xs.length := by omega
    have hc := own_cap HO.out
    have q1 : (I : Int) ≤ (c : Int) := by omega
    go_wp2_with fail
    go_ret
    obtain ⟨A1, c1, xs1, e1, r1, r2, r3, r4, r5⟩ := LRow.reads (Pr := fun _ => True) ⟨_, _, xs, rfl, HO.out, trivial⟩
    injection e1 with e1 e2 e3
    subst e1 e3
    exact draws_of HD.out (by omega) ⟨_, _, xs.take I, by simp; omega, by simp; omega, r2, by rw [List.length_take_of_le hI]; exact (own_ints HO.out).take hI, r4, by simp [SlotP]; omega⟩
  by_cases e2 : z = 2
  · subst e2
    clear z0 z1 e0 e1
    have hs := HD.out.size.2
    have hlit : (W'.alloc (.cells #[.int .i64 5, .int .i64 6] 3)).ownsRow W'.heap.size 3 1 (.slice (some ⟨W'.heap.size, 0, none⟩) 2 2) 2 (iv [5, 6]) := World.ownsRow_lit W' #[.int .i64 5, .int .i64 6] 2 (Nat.le_refl _) (by simp [maxLen]) rfl
    have HL := Lib.hid (own_ints hlit)
    clear hlit
    go_wp2_with (at_builtin; refine push_list _ rfl _ _ rfl w.heap.size xs.length c 2 2 _ B _ xs [5, 6] rfl rfl (HO.out.alloc _) HL.out (by intro h; cases h) (by omega) (by simp; omega) ?_; intro A3 c3 w3 hown3 hb3; replace hown3 := Lib.hid hown3; replace hb3 := Lib.hid hb3)
    go_ret
    exact draws_of ((HD.out.alloc _).belowB hb3.out) (by omega) (LRow.reads ⟨A3, c3, xs ++ [5, 6], by simp, by rw [List.length_append]; exact hown3.out, by simp [SlotP]; omega⟩)
  · have f0 : (z == 0) = false := by simp; omega
    have f1 : (z == 1) = false := by simp; omega
    have f2 : (z == 2) = false := by simp; omega
    go_wp2_with fail
    go_ret
    exact draws_of HD.out (by omega) (LRow.reads ⟨_, _, xs, rfl, HO.out, by simp [SlotP]; omega⟩)
theorem LRd.grown {base base' g : Nat} {Pr : List Int → Prop} {w w' : World} {v : Value} (h : LRd base Pr w v) (hg : w.grownBy w' (some g)) (hb : g < base) (hbb : base' ≤ base) : LRd base' Pr w' v := by
  obtain ⟨A, c, xs, rfl, h1, h2, h3, h4, h5⟩ := h
  exact ⟨A, c, xs, rfl, h1, h2, h3.grown hg (fun ad e => by have := h4 ad e; omega), fun ad e => Nat.le_trans hbb (h4 ad e), h5⟩
/-- A drawn list, as the laws read it. -/
def DL (Pr : List Int → Prop) (w w' : World) (A : Option Addr) (c : Nat) (xs : List Int) : Prop := xs.length ≤ c ∧ (A = none → c = 0) ∧ Ints w' w'.heap.size A xs.length xs ∧ Pr xs
theorem l20Slot_d {w W : World} {g len cap p0 q : Nat} {A : Option Addr} (h : Drs w W g A len cap p0 q) (hq : q ≤ 700000000) :
    Calls Try.prog 43 #[.pointer (some ⟨g, 0, none⟩)] W (Dr w W g A len cap p0 (q + 3000) (LRd W.heap.size SlotP)) :=
  dr_of h 700000000 hq fun p hp hR => l20Slot_any g A len cap p W hR hp
theorem l20Data_d {w W : World} {g len cap p0 q : Nat} {A : Option Addr} (h : Drs w W g A len cap p0 q) (n : Int) (hq : q ≤ 700000000) (h0 : 0 ≤ n) (h1 : n ≤ 1000000000) :
    Calls Try.prog 41 #[.pointer (some ⟨g, 0, none⟩), .int .i64 n] W (Dr w W g A len cap p0 (q + 200) (LRd W.heap.size (DataP n))) :=
  (dr_of h 700000000 hq fun p hp hR => l20Data_any g A len cap p n W hR (by omega) h0 h1).mono fun e w' ⟨v, he, hv, hd, hg⟩ => ⟨v, he, hv.reads, hd, hg⟩
def GivesSB (w : World) (e : Ending) (w' : World) : Prop := ∃ (m : Int) (A : Option Addr) (c : Nat) (xs : List Int), e = .returned (.tuple #[.int .i64 m, .slice A xs.length c]) ∧ -1 ≤ m ∧ m ≤ 65536 ∧ DL (DataP 9) w w' A c xs ∧ Below w.heap.size w w'
set_option maxRecDepth 100000 in
set_option maxHeartbeats 2000000 in
theorem drawSaveBytes_any (A : Option Addr) (n c : Nat) (zs : List Int) (w : World) (h : IsRow .u8 w A n c zs) :
    Calls Try.prog 22 #[.slice A n c] w (GivesSB w) := by
  have HI := Lib.hid h
  clear h
  go_enter Try.func22, Try.ntmps22
  go_wp2_with fail
  refine (open_any A n c zs _ HI.out).mono ?_
  rintro e w1 ⟨len, cap, rfl, hR, hb1⟩
  obtain ⟨g, hg0⟩ : ∃ g, g = w.heap.size := ⟨_, rfl⟩
  rw [← hg0] at hR ⊢
  have HD := Lib.hid (Drs.start hR)
  replace hb1 := Lib.hid hb1
  have hgl := hR.lt
  replace hg0 := Lib.hid hg0
  clear hR
  go_upto_region 2 with (fail)
  obtain ⟨p, hp1, hR⟩ := HD.out.rd
  have hp : p ≤ 0 := by omega
  refine region_list0 (some g) (IsPtr g :: IntIn (0) (299) :: ArrIn g 4 (-1) (65536) :: ArrIn g 7 (0) (3) :: IsPtr g :: IntIn (0) (6) :: ElAt g (0) (3) :: IntIn (0) (3) :: ElAt g (-1) (65536) :: IntIn (-1) (65536) :: IntIn (-1) (65536) :: []) (fun n w' => World.grownBy w1 w' (some g) ∧ ∃ p' : Nat, p' + 1 * n ≤ p + 11 ∧ Rd w' g A len cap p') ?_ ?_ ?_ ?_ ?_ ?_
  · exact ⟨st_ptr _ _, st_int _ _ _, st_arr _ _ _ _, st_arr _ _ _ _, st_ptr _ _, st_int _ _ _, st_el _ _ _, st_int _ _ _, st_el _ _ _, st_int _ _ _, st_int _ _ _, trivial⟩
  · exact of_decide_eq_true (by kernel_rfl)
  · kernel_rfl
  · exact ⟨World.grownBy.refl _ _, p, by simp, hR⟩
  · refine each_cons ?_ (each_cons ?_ (each_cons ?_ (each_cons ?_ (each_cons ?_ (each_cons ?_ (each_cons ?_ (each_cons ?_ (each_cons ?_ (each_cons ?_ (each_cons ?_ ( trivial)))))))))))
    · intro n vs aa w' haa hJ hd K hK
      refine ob_plain rfl ?_
      refine ob_move _ (v := .pointer (some ⟨g, 0, none⟩)) rfl (ev_of haa (by kernel_rfl)) ?_
      refine hK _ _ ?_ (World.grownBy.refl _ _) ⟨hJ.1, by obtain ⟨p', h1, h2⟩ := hJ.2; exact ⟨p', by omega, h2⟩⟩
      show (IsPtr g) w' _
      exact rfl
    · intro n vs aa w' haa hJ hd K hK
      refine ob_plain rfl ?_
      have d0 : (IsPtr g) w' (vs 0) := hd.1 rfl
      have e0 := d0
      obtain ⟨hg', p', hp', hr'⟩ := hJ
      refine ob_call 40 _ _ #[.pointer (some ⟨g, 0, none⟩), .int .i64 (300)] rfl (Eq.trans (b := #[vs 0, .int .i64 (300)]) (evs_of haa (by kernel_rfl)) (by rw [e0])) (fun _ _ => by kernel_rfl) ?_
      refine (pick_any g A len cap p' (300) _ hr' (by omega) (by omega) (by omega)).mono ?_
      rintro e w2 ⟨x, rfl, x0, x1, hr2, hg2⟩
      refine ⟨_, rfl, ?_⟩
      refine hK _ _ ?_ hg2 ⟨hg'.trans hg2, p' + 1, by omega, hr2⟩
      show (IntIn (0) (299)) w' _
      exact ⟨x, rfl, x0, by omega⟩
    · intro n vs aa w' haa hJ hd K hK
      refine ob_plain rfl ?_
      have d1 : (IntIn (0) (299)) w' (vs 1) := hd.1 rfl
      obtain ⟨x1, e1, l1, u1⟩ := d1
      refine ob_build4 _ _ _ _ (u0 := x1) (u1 := (65535)) (u2 := (65536)) (u3 := (-1)) rfl (Eq.trans (b := vs 1) (ev_of haa (by kernel_rfl)) e1) (ev_of haa (by kernel_rfl)) (ev_of haa (by kernel_rfl)) (ev_of haa (by kernel_rfl)) ?_
      refine hK _ _ ⟨_, rfl, Nat.ne_of_gt hJ.2.choose_spec.2.lt, by simp, fun k hk => ?_⟩ (World.grownBy_alloc _ _ _) ⟨hJ.1.trans (World.grownBy_alloc _ _ _), by obtain ⟨p', h1, h2⟩ := hJ.2; exact ⟨p', by omega, h2.alloc _⟩⟩
      match k, hk with
      | 0, _ => exact ⟨x1, by simp [go_sem], by omega, by omega⟩
      | 1, _ => exact ⟨(65535), by simp [go_sem], by omega, by omega⟩
      | 2, _ => exact ⟨(65536), by simp [go_sem], by omega, by omega⟩
      | 3, _ => exact ⟨(-1), by simp [go_sem], by omega, by omega⟩
    · intro n vs aa w' haa hJ hd K hK
      refine ob_plain rfl ?_
      refine ob_build7 _ _ _ _ _ _ _ (u0 := (0)) (u1 := (0)) (u2 := (0)) (u3 := (0)) (u4 := (1)) (u5 := (2)) (u6 := (3)) rfl (ev_of haa (by kernel_rfl)) (ev_of haa (by kernel_rfl)) (ev_of haa (by kernel_rfl)) (ev_of haa (by kernel_rfl)) (ev_of haa (by kernel_rfl)) (ev_of haa (by kernel_rfl)) (ev_of haa (by kernel_rfl)) ?_
      refine hK _ _ ⟨_, rfl, Nat.ne_of_gt hJ.2.choose_spec.2.lt, by simp, fun k hk => ?_⟩ (World.grownBy_alloc _ _ _) ⟨hJ.1.trans (World.grownBy_alloc _ _ _), by obtain ⟨p', h1, h2⟩ := hJ.2; exact ⟨p', by omega, h2.alloc _⟩⟩
      match k, hk with
      | 0, _ => exact ⟨(0), by simp [go_sem], by omega, by omega⟩
      | 1, _ => exact ⟨(0), by simp [go_sem], by omega, by omega⟩
      | 2, _ => exact ⟨(0), by simp [go_sem], by omega, by omega⟩
      | 3, _ => exact ⟨(0), by simp [go_sem], by omega, by omega⟩
      | 4, _ => exact ⟨(1), by simp [go_sem], by omega, by omega⟩
      | 5, _ => exact ⟨(2), by simp [go_sem], by omega, by omega⟩
      | 6, _ => exact ⟨(3), by simp [go_sem], by omega, by omega⟩
    · intro n vs aa w' haa hJ hd K hK
      refine ob_plain rfl ?_
      refine ob_move _ (v := .pointer (some ⟨g, 0, none⟩)) rfl (ev_of haa (by kernel_rfl)) ?_
      refine hK _ _ ?_ (World.grownBy.refl _ _) ⟨hJ.1, by obtain ⟨p', h1, h2⟩ := hJ.2; exact ⟨p', by omega, h2⟩⟩
      show (IsPtr g) w' _
      exact rfl
    · intro n vs aa w' haa hJ hd K hK
      refine ob_plain rfl ?_
      have d4 : (IsPtr g) w' (vs 4) := hd.1 rfl
      have e4 := d4
      obtain ⟨hg', p', hp', hr'⟩ := hJ
      refine ob_call 40 _ _ #[.pointer (some ⟨g, 0, none⟩), .int .i64 (7)] rfl (Eq.trans (b := #[vs 4, .int .i64 (7)]) (evs_of haa (by kernel_rfl)) (by rw [e4])) (fun _ _ => by kernel_rfl) ?_
      refine (pick_any g A len cap p' (7) _ hr' (by omega) (by omega) (by omega)).mono ?_
      rintro e w2 ⟨x, rfl, x0, x1, hr2, hg2⟩
      refine ⟨_, rfl, ?_⟩
      refine hK _ _ ?_ hg2 ⟨hg'.trans hg2, p' + 1, by omega, hr2⟩
      show (IntIn (0) (6)) w' _
      exact ⟨x, rfl, x0, by omega⟩
    · intro n vs aa w' haa hJ hd K hK
      refine ob_plain rfl ?_
      have d3 : (ArrIn g 7 (0) (3)) w' (vs 3) := hd.1 rfl
      obtain ⟨b3, e3, n3, z3, c3⟩ := d3
      have d5 : (IntIn (0) (6)) w' (vs 5) := hd.2.1 rfl
      obtain ⟨x5, e5, l5, u5⟩ := d5
      refine ob_index _ _ _ (by simp) (u := x5) rfl (Eq.trans (b := vs 3) (ev_of haa (by kernel_rfl)) e3) (Eq.trans (b := vs 5) (ev_of haa (by kernel_rfl)) e5) (by omega) (by omega) ?_
      obtain ⟨y, hy, y0, y1⟩ := c3 x5.toNat (by omega)
      refine hK _ _ ?_ (World.grownBy.refl _ _) ⟨hJ.1, by obtain ⟨p', h1, h2⟩ := hJ.2; exact ⟨p', by omega, h2⟩⟩
      show (ElAt g (0) (3)) w' _
      exact ⟨b3, _, rfl, n3, z3, y, by rw [Nat.zero_add]; exact hy, y0, y1⟩
    · intro n vs aa w' haa hJ hd K hK
      refine ob_plain rfl ?_
      have d6 : (ElAt g (0) (3)) w' (vs 6) := hd.1 rfl
      obtain ⟨b6, j6, e6, n6, z6, x6, c6, l6, u6⟩ := d6
      refine ob_load _ _ (by simp) rfl (Eq.trans (b := vs 6) (ev_of haa (by kernel_rfl)) e6) c6 ?_
      refine hK _ _ ?_ (World.grownBy.refl _ _) ⟨hJ.1, by obtain ⟨p', h1, h2⟩ := hJ.2; exact ⟨p', by omega, h2⟩⟩
      show (IntIn (0) (3)) w' _
      exact ⟨_, rfl, l6, u6⟩
    · intro n vs aa w' haa hJ hd K hK
      refine ob_plain rfl ?_
      have d2 : (ArrIn g 4 (-1) (65536)) w' (vs 2) := hd.1 rfl
      obtain ⟨b2, e2, n2, z2, c2⟩ := d2
      have d7 : (IntIn (0) (3)) w' (vs 7) := hd.2.1 rfl
      obtain ⟨x7, e7, l7, u7⟩ := d7
      refine ob_index _ _ _ (by simp) (u := x7) rfl (Eq.trans (b := vs 2) (ev_of haa (by kernel_rfl)) e2) (Eq.trans (b := vs 7) (ev_of haa (by kernel_rfl)) e7) (by omega) (by omega) ?_
      obtain ⟨y, hy, y0, y1⟩ := c2 x7.toNat (by omega)
      refine hK _ _ ?_ (World.grownBy.refl _ _) ⟨hJ.1, by obtain ⟨p', h1, h2⟩ := hJ.2; exact ⟨p', by omega, h2⟩⟩
      show (ElAt g (-1) (65536)) w' _
      exact ⟨b2, _, rfl, n2, z2, y, by rw [Nat.zero_add]; exact hy, y0, y1⟩
    · intro n vs aa w' haa hJ hd K hK
      refine ob_plain rfl ?_
      have d8 : (ElAt g (-1) (65536)) w' (vs 8) := hd.1 rfl
      obtain ⟨b8, j8, e8, n8, z8, x8, c8, l8, u8⟩ := d8
      refine ob_load _ _ (by simp) rfl (Eq.trans (b := vs 8) (ev_of haa (by kernel_rfl)) e8) c8 ?_
      refine hK _ _ ?_ (World.grownBy.refl _ _) ⟨hJ.1, by obtain ⟨p', h1, h2⟩ := hJ.2; exact ⟨p', by omega, h2⟩⟩
      show (IntIn (-1) (65536)) w' _
      exact ⟨_, rfl, l8, u8⟩
    · intro n vs aa w' haa hJ hd K hK
      refine ob_plain rfl ?_
      have d9 : (IntIn (-1) (65536)) w' (vs 9) := hd.1 rfl
      refine ob_assign _ (v := vs 9) rfl (ev_of haa (by kernel_rfl)) ?_
      refine hK _ _ ?_ (World.grownBy.refl _ _) ⟨hJ.1, by obtain ⟨p', h1, h2⟩ := hJ.2; exact ⟨p', by omega, h2⟩⟩
      show (IntIn (-1) (65536)) w' _
      exact d9
  intro vs w' hJ hall
  obtain ⟨m, hm, m0, m1⟩ : IntIn (-1) 65536 w' (vs 10) := hall 10 (by decide)
  clear hall
  obtain ⟨hg, p', hp', hr'⟩ := hJ
  replace HD := Lib.hid (HD.out.step hg ⟨p', hp', hr'⟩)
  clear hr' hg hR
  simp only [fill, Act.put, List.toList_toArray, List.setIfInBounds_toArray, List.set_cons_zero, List.set_cons_succ, Nat.zero_add, Nat.reduceAdd, hm]
  go_wp2_with fail
  refine (l20Data_d HD.out 9 (by omega) (by omega) (by omega)).mono ?_
  rintro e W' ⟨v, rfl, ⟨B, c', xs, rfl, h1, h2, h3, h4, h5⟩, hD, hgr⟩
  replace HD := Lib.hid hD
  clear hD
  go_wp2_with fail
  refine bodyPost_ret (results_tmp2 (by rfl) _ _ _) rfl ?_
  exact ⟨m, B, c', xs, rfl, m0, m1, ⟨h1, h2, h3, h5⟩, below_rd hb1.out (by rw [← hg0.out]; exact HD.out.hg)⟩
def GivesRS (w : World) (e : Ending) (w' : World) : Prop := ∃ (A : Option Addr) (c : Nat) (xs : List Int), e = .returned (.slice A xs.length c) ∧ DL SlotP w w' A c xs ∧ Below w.heap.size w w'
set_option maxHeartbeats 2000000 in
theorem drawReadSave_any (A : Option Addr) (n c : Nat) (zs : List Int) (w : World) (h : IsRow .u8 w A n c zs) :
    Calls Try.prog 25 #[.slice A n c] w (GivesRS w) := by
  have HI := Lib.hid h
  clear h
  go_enter Try.func25, Try.ntmps25
  go_wp2_with fail
  refine (open_any A n c zs _ HI.out).mono ?_
  rintro e w1 ⟨len, cap, rfl, hR, hb1⟩
  obtain ⟨g, hg0⟩ : ∃ g, g = w.heap.size := ⟨_, rfl⟩
  rw [← hg0] at hR ⊢
  have HD := Lib.hid (Drs.start hR)
  replace hb1 := Lib.hid hb1
  have hgl := hR.lt
  replace hg0 := Lib.hid hg0
  clear hR
  go_wp2_with fail
  refine (l20Slot_d HD.out (by omega)).mono ?_
  rintro e W' ⟨v, rfl, ⟨B, c', xs, rfl, h1, h2, h3, h4, h5⟩, hD, hgr⟩
  replace HD := Lib.hid hD
  clear hD
  go_wp2_with fail
  go_ret
  exact ⟨B, c', xs, rfl, ⟨h1, h2, h3, h5⟩, below_rd hb1.out (by rw [← hg0.out]; exact HD.out.hg)⟩
def GivesBS (w : World) (e : Ending) (w' : World) : Prop := ∃ (A B : Option Addr) (c d : Nat) (xs ys : List Int), e = .returned (.tuple #[.slice A xs.length c, .slice B ys.length d]) ∧ DL SlotP w w' A c xs ∧ DL SlotP w w' B d ys ∧ Below w.heap.size w w'
set_option maxHeartbeats 2000000 in
theorem drawBestSave_any (A : Option Addr) (n c : Nat) (zs : List Int) (w : World) (h : IsRow .u8 w A n c zs) :
    Calls Try.prog 28 #[.slice A n c] w (GivesBS w) := by
  have HI := Lib.hid h
  clear h
  go_enter Try.func28, Try.ntmps28
  go_wp2_with fail
  refine (open_any A n c zs _ HI.out).mono ?_
  rintro e w1 ⟨len, cap, rfl, hR, hb1⟩
  obtain ⟨g, hg0⟩ : ∃ g, g = w.heap.size := ⟨_, rfl⟩
  rw [← hg0] at hR ⊢
  have HD := Lib.hid (Drs.start hR)
  replace hb1 := Lib.hid hb1
  have hgl := hR.lt
  replace hg0 := Lib.hid hg0
  clear hR
  go_wp2_with fail
  refine (l20Slot_d HD.out (by omega)).mono ?_
  rintro e W' ⟨v1, rfl, hv1, hD, hgr⟩
  replace HD := Lib.hid hD
  clear hD
  replace hv1 := Lib.hid hv1
  clear hgr
  go_wp2_with fail
  refine (l20Slot_d HD.out (by omega)).mono ?_
  rintro e W' ⟨v2, rfl, hv2, hD, hgr⟩
  replace HD := Lib.hid hD
  clear hD
  replace hv1 := Lib.hid (hv1.out.grown (base' := 0) hgr hgl (Nat.zero_le _))
  replace hv2 := Lib.hid hv2
  clear hgr
  go_wp2_with fail
  refine bodyPost_ret (results_tmp2 (by rfl) _ _ _) rfl ?_
  obtain ⟨B1, c1, xs, rfl, h1, h2, h3, h4, h5⟩ := hv1.out
  obtain ⟨B2, c2, ys, rfl, g1, g2, g3, g4, g5⟩ := hv2.out
  exact ⟨B1, B2, c1, c2, xs, ys, rfl, ⟨h1, h2, h3, h5⟩, ⟨g1, g2, g3, g5⟩, below_rd hb1.out (by rw [← hg0.out]; exact HD.out.hg)⟩
def GivesWS (w : World) (e : Ending) (w' : World) : Prop := ∃ (A B C : Option Addr) (c d k : Nat) (xs ys zs : List Int), e = .returned (.tuple #[.slice A xs.length c, .slice B ys.length d, .slice C zs.length k]) ∧ DL SlotP w w' A c xs ∧ DL SlotP w w' B d ys ∧ DL (DataP 9) w w' C k zs ∧ Below w.heap.size w w'
set_option maxHeartbeats 2000000 in
theorem drawWriteSave_any (A : Option Addr) (n c : Nat) (zs : List Int) (w : World) (h : IsRow .u8 w A n c zs) :
    Calls Try.prog 29 #[.slice A n c] w (GivesWS w) := by
  have HI := Lib.hid h
  clear h
  go_enter Try.func29, Try.ntmps29
  go_wp2_with fail
  refine (open_any A n c zs _ HI.out).mono ?_
  rintro e w1 ⟨len, cap, rfl, hR, hb1⟩
  obtain ⟨g, hg0⟩ : ∃ g, g = w.heap.size := ⟨_, rfl⟩
  rw [← hg0] at hR ⊢
  have HD := Lib.hid (Drs.start hR)
  replace hb1 := Lib.hid hb1
  have hgl := hR.lt
  replace hg0 := Lib.hid hg0
  clear hR
  go_wp2_with fail
  refine (l20Slot_d HD.out (by omega)).mono ?_
  rintro e W' ⟨v1, rfl, hv1, hD, hgr⟩
  replace HD := Lib.hid hD
  clear hD
  replace hv1 := Lib.hid hv1
  have s1 := HD.out.size.2
  clear hgr
  go_wp2_with fail
  refine (l20Slot_d HD.out (by omega)).mono ?_
  rintro e W' ⟨v2, rfl, hv2, hD, hgr⟩
  replace HD := Lib.hid hD
  clear hD
  replace hv1 := Lib.hid (hv1.out.grown (base' := g + 1) hgr hgl hgl)
  replace hv2 := Lib.hid hv2
  have s2 := HD.out.size.2
  clear hgr
  go_wp2_with fail
  refine (l20Data_d HD.out 9 (by omega) (by omega) (by omega)).mono ?_
  rintro e W' ⟨v3, rfl, hv3, hD, hgr⟩
  replace HD := Lib.hid hD
  clear hD
  replace hv1 := Lib.hid (hv1.out.grown (base' := 0) hgr (Nat.lt_succ_self g) (Nat.zero_le _))
  replace hv2 := Lib.hid (hv2.out.grown (base' := 0) hgr (Nat.lt_of_lt_of_le hgl s1) (Nat.zero_le _))
  replace hv3 := Lib.hid hv3
  clear hgr
  go_wp2_with fail
  refine bodyPost_ret (res3 (by rfl) _ _ _) rfl ?_
  obtain ⟨B1, c1, xs, rfl, h1, h2, h3, h4, h5⟩ := hv1.out
  obtain ⟨B2, c2, ys, rfl, g1, g2, g3, g4, g5⟩ := hv2.out
  obtain ⟨B3, c3, zs, rfl, k1, k2, k3, k4, k5⟩ := hv3.out
  exact ⟨B1, B2, B3, c1, c2, c3, xs, ys, zs, rfl, ⟨h1, h2, h3, h5⟩, ⟨g1, g2, g3, g5⟩, ⟨k1, k2, k3, k5⟩, below_rd hb1.out (by rw [← hg0.out]; exact HD.out.hg)⟩
end Go.Proofs.Ytgmcbpnnololmaa
