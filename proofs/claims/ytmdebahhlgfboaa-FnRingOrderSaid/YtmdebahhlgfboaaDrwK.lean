/-
  What the statements on kept states draw. No condition.
-/
import Derived.Test.YtmdebahhlgfboaaDrwP
import Derived.Test.YtmdebahhlgfboaaKee
namespace Go.Proofs.Ytmdebahhlgfboaa
open Go.RowKit
set_option linter.unusedVariables false
set_option linter.unusedSimpArgs false
theorem GOwn.rdr {w w' : World} {base hi c g : Nat} {A : Option Addr} {os : List (List Int)} {vs : List Value} (h : GOwn w base hi A c os vs) (hg : w.grownBy w' (some g)) (hb : g < base) : GOwn w' base hi A c os vs :=
  ⟨own_rd h.outer hg hb, h.vlen, fun i hi => own_rd (h.inner i hi) hg hb, h.olt, h.ilt, h.inc⟩
theorem rep_getD {α : Type _} (n i : Nat) (x : α) : (List.replicate n x).getD i x = x := by
  rw [List.getD_eq_getElem?_getD, List.getElem?_replicate]
  split <;> rfl
theorem gown_nils {w : World} {base n c : Nat} {A : Option Addr} (o : w.ownsRow base 29 1 (.slice A n c) n (List.replicate n nilV)) : GOwn w base w.heap.size A c (List.replicate n []) (List.replicate n nilV) := by
  have hn : (List.replicate n ([] : List Int)).length = n := by simp
  refine ⟨by rw [hn]; exact o, by simp, fun i hi => ?_, fun g hg => ?_, fun i hi g hg => ?_, fun i j hij hj g g' e1 e2 => ?_⟩
  · rw [rep_getD, rep_getD]
    exact World.ownsRow_nil _ _ _ _
  · rw [hn] at hg; exact (o.lt g hg).2
  · rw [rep_getD] at hg; cases hg
  · rw [rep_getD] at e1; cases e1
theorem res3K {fn : Func} {t u v : Tmp} (h : fn.results = #[.tmp t, .tmp u, .tmp v]) (tmps : Array Value) (P : Program) (w : World) :
    (results fn tmps).run P w = .ok (.tuple #[tmps.getD t undef, tmps.getD u undef, tmps.getD v undef]) w := by
  simp [results, h]
/-- Drawn states, a further one and a size. -/
def GivesKD (w : World) (e : Ending) (w' : World) : Prop := ∃ (A B : Option Addr) (c d : Nat) (os : List (List Int)) (st : List Int) (z : Int), e = .returned (.tuple #[.slice A os.length c, .slice B st.length d, .int .i64 z]) ∧
  (GRd w' A os.length os ∧ os.length ≤ 17 ∧ ∀ k, k < os.length → (os.getD k []).length ≤ 513) ∧ (Ints w' w'.heap.size B st.length st ∧ (B = none → d = 0) ∧ st.length ≤ 513) ∧ Below w.heap.size w w'
theorem keep_eachK {os : List (List Int)} {m : Nat} (h : ∀ x ∈ os, x.length ≤ m) : ∀ k, k < os.length → (os.getD k []).length ≤ m := fun k hk => by
  rw [List.getD_eq_getElem?_getD, List.getElem?_eq_getElem hk]
  exact h _ (List.getElem_mem hk)
set_option maxRecDepth 100000 in
set_option maxHeartbeats 4000000 in
theorem drawKeepState_any (A : Option Addr) (n c : Nat) (zs : List Int) (w : World) (h : IsRow .u8 w A n c zs) :
    Calls Try.prog 34 #[.slice A n c] w (GivesKD w) := by
  have HI := Lib.hid h
  clear h
  go_enter Try.func34, Try.ntmps34
  go_wp2_with fail
  refine (open_any A n c zs _ HI.out).mono ?_
  rintro e w1 ⟨len, cap, rfl, hR, hb1⟩
  obtain ⟨g, hg0⟩ : ∃ g, g = w.heap.size := ⟨_, rfl⟩
  rw [← hg0] at hR ⊢
  have HD := Lib.hid (Drs.start hR)
  replace hb1 := Lib.hid hb1
  have hgl := hR.lt
  replace hg0 := Lib.hid hg0
  clear hR
  have HD0 := Lib.hid (HD.out.alloc (.cells #[] 29))
  have HO0 := Lib.hid (gown_lit w1)
  clear HD
  go_wp2_with fail
  refine (pick_d HD0.out 6 (by omega) (by omega) (by omega)).mono ?_
  rintro e W' ⟨v, rfl, ⟨x, rfl, x0, x1⟩, hD, hgr⟩
  have HD := Lib.hid hD
  have HO := Lib.hid ((HO0.out.rdr hgr hgl).up hgr.size)
  clear hD hgr
  obtain ⟨K0, rfl⟩ := Int.eq_ofNat_of_zero_le x0
  have hK0 : K0 ≤ 5 := by omega
  clear x0 x1 HO0 HD0
  go_wp2_with fail
  go_loopw [6, 7] (fun out k wr => ∃ (K L : Nat) (A' : Option Addr) (c' : Nat) (os : List (List Int)) (vs : List Value), out = .slice A' L c' ∧ k = .int .i64 K ∧ os.length = L ∧ L + K ≤ 5 ∧ (∀ x ∈ os, x.length ≤ 513) ∧ GOwn wr w1.heap.size wr.heap.size A' c' os vs ∧ Drs w1 wr g A len cap 0 (1 + 61 * (5 - K))) (fun _ k _ => (intOf k).toNat)
  case atStart => exact ⟨K0, 0, _, 0, [], [], rfl, rfl, rfl, by omega, (fun x hx => by cases hx), HO.out, HD.out.more (by omega)⟩
  case round =>
    obtain ⟨K, L, A', c', os, vs, rfl, rfl, hL, hLK, hos, hown, hD⟩ := hrel
    replace HD := Lib.hid hD
    replace HO := Lib.hid hown
    have HL := Lib.hid hL
    have HOS := Lib.hid hos
    clear hD hown hL hos
    have hs0 := HD.out.size
    by_cases hlt : 0 < K
    · have q1 : (K : Int) > 0 := by omega
      go_wp2_with fail
      refine (l20State_d HD.out 60 (by omega) (by omega) (by omega)).mono ?_
      rintro e W' ⟨v, rfl, hv, hD, hgr⟩
      replace HD := Lib.hid hD
      clear hD
      obtain ⟨B, d, row, rfl, ob, hrl⟩ := hv
      unfold LenP at hrl
      replace HO := Lib.hid (HO.out.rdr hgr hgl)
      have HB := Lib.hid ob
      have hs2 := hgr.size
      clear ob hgr
      go_wp2_with (at_builtin; refine push_row _ rfl _ _ rfl w1.heap.size L c' W'.heap.size 1 A' B row.length d vs rfl rfl (by have := HO.out.outer.alloc (.cells #[.slice B row.length d] 29); rw [HL.out] at this; exact this) (cell_new _ _ _ 0) (by omega) (by simp; omega) ?_; intro A6 c6 w6 o6 g6; have hsn := Lib.hid (GOwn.snoc (HO.out.allocP (.cells #[.slice B row.length d] 29)) row (.slice B row.length d) (by rw [HL.out]; exact o6) (by rw [HL.out]; exact g6) (own_base (HB.out.alloc _) hs0.2) (fun g hg => (HB.out.lt g hg).1) (by simp; omega)); have hD6 := Lib.hid ((HD.out.alloc (.cells #[.slice B row.length d] 29)).push g6 (fun q hq => by have := HO.out.outer; rw [HL.out] at this; exact (this.lt q hq).1)); clear o6 g6)
      go_roundw
      case rel => exact ⟨K - 1, L + 1, A6, c6, os ++ [row], vs ++ [.slice B row.length d], rfl, by rw [show (K : Int) - 1 = ((K - 1 : Nat) : Int) by omega], by rw [List.length_append, HL.out]; rfl, by omega, (fun x hx => by rcases List.mem_append.1 hx with h | h; exact HOS.out x h; simp at h; subst h; exact hrl), hsn.out, hD6.out.more (by omega)⟩
      case measure => simp [intOf]; omega
    · obtain rfl : K = 0 := by omega
      go_wp2_with fail
      refine (odd_d HD.out 16 (by omega) (by omega) (by omega)).mono ?_
      rintro e W' ⟨v, rfl, ⟨b, rfl, hb⟩, hD, hgr⟩
      replace HD := Lib.hid hD
      clear hD
      replace HO := Lib.hid (HO.out.rdr hgr hgl)
      clear hgr hb
      cases b
      · have hgl9 := Nat.lt_of_lt_of_le hgl HD.out.size.2
        go_wp2_with fail
        refine (l20State_d HD.out 14 (by omega) (by omega) (by omega)).mono ?_
        rintro e W' ⟨v, rfl, hv, hD, hgr⟩
        replace HD := Lib.hid hD
        clear hD
        obtain ⟨B, d, st, rfl, ob, hL⟩ := hv
        unfold LenP at hL
        replace HO := Lib.hid (HO.out.rdr hgr hgl)
        have HS := Lib.hid ob
        have hgb := HD.out.size
        clear ob hgr
        go_upto_region 10 with (fail)
        obtain ⟨p, hp1, hR⟩ := HD.out.rd
        have hp : p ≤ 900000000 := by omega
        refine region_list (some g) (IsVal (.slice A' L c') :: IsVal (.slice B st.length d) :: IsPtr g :: IntIn (0) (5) :: IntIn (1) (6) :: ArrIn g 4 (0) (17) :: ArrIn g 7 (0) (3) :: IsPtr g :: IntIn (0) (6) :: ElAt g (0) (3) :: IntIn (0) (3) :: ElAt g (0) (17) :: IntIn (0) (17) :: IsVal (.slice A' L c') :: IsVal (.slice B st.length d) :: IntIn (0) (17) :: []) (fun n w' => World.grownBy W' w' (some g) ∧ ∃ p' : Nat, p' + 1 * n ≤ p + 16 ∧ Rd w' g A len cap p') ?_ ?_ ?_ ?_ ?_ ?_ ?_
        · kernel_rfl
        · exact ⟨st_val _ _, st_val _ _, st_ptr _ _, st_int _ _ _, st_int _ _ _, st_arr _ _ _ _, st_arr _ _ _ _, st_ptr _ _, st_int _ _ _, st_el _ _ _, st_int _ _ _, st_el _ _ _, st_int _ _ _, st_val _ _, st_val _ _, st_int _ _ _, trivial⟩
        · exact of_decide_eq_true (by kernel_rfl)
        · kernel_rfl
        · exact ⟨grown_drew _ _, p, by simp, hR⟩
        · refine each_cons ?_ (each_cons ?_ (each_cons ?_ (each_cons ?_ (each_cons ?_ (each_cons ?_ (each_cons ?_ (each_cons ?_ (each_cons ?_ (each_cons ?_ (each_cons ?_ (each_cons ?_ (each_cons ?_ (each_cons ?_ (each_cons ?_ (each_cons ?_ ( trivial))))))))))))))))
          · intro n vs aa w' haa hJ hd K hK
            refine ob_plain rfl ?_
            refine ob_move _ (v := .slice A' L c') rfl (ev_of haa (by kernel_rfl)) ?_
            refine hK _ _ ?_ (World.grownBy.refl _ _) ⟨hJ.1, by obtain ⟨p', h1, h2⟩ := hJ.2; exact ⟨p', by omega, h2⟩⟩
            show (IsVal (.slice A' L c')) w' _
            exact rfl
          · intro n vs aa w' haa hJ hd K hK
            refine ob_plain rfl ?_
            refine ob_move _ (v := .slice B st.length d) rfl (ev_of haa (by kernel_rfl)) ?_
            refine hK _ _ ?_ (World.grownBy.refl _ _) ⟨hJ.1, by obtain ⟨p', h1, h2⟩ := hJ.2; exact ⟨p', by omega, h2⟩⟩
            show (IsVal (.slice B st.length d)) w' _
            exact rfl
          · intro n vs aa w' haa hJ hd K hK
            refine ob_plain rfl ?_
            refine ob_move _ (v := .pointer (some ⟨g, 0, none⟩)) rfl (ev_of haa (by kernel_rfl)) ?_
            refine hK _ _ ?_ (World.grownBy.refl _ _) ⟨hJ.1, by obtain ⟨p', h1, h2⟩ := hJ.2; exact ⟨p', by omega, h2⟩⟩
            show (IsPtr g) w' _
            exact rfl
          · intro n vs aa w' haa hJ hd K hK
            refine ob_plain rfl ?_
            have d2 : (IsPtr g) w' (vs 2) := hd.1 rfl
            have e2 := d2
            obtain ⟨hg', p', hp', hr'⟩ := hJ
            refine ob_call 55 _ _ #[.pointer (some ⟨g, 0, none⟩), .int .i64 (6)] rfl (Eq.trans (b := #[vs 2, .int .i64 (6)]) (evs_of haa (by kernel_rfl)) (by rw [e2])) (fun _ _ => by kernel_rfl) ?_
            refine (pick_any g A len cap p' (6) _ hr' (by omega) (by omega) (by omega)).mono ?_
            rintro e w2 ⟨x, rfl, x0, x1, hr2, hg2⟩
            refine ⟨_, rfl, ?_⟩
            refine hK _ _ ?_ hg2 ⟨hg'.trans hg2, p' + 1, by omega, hr2⟩
            show (IntIn (0) (5)) w' _
            exact ⟨x, rfl, x0, by omega⟩
          · intro n vs aa w' haa hJ hd K hK
            refine ob_plain rfl ?_
            have d3 : (IntIn (0) (5)) w' (vs 3) := hd.1 rfl
            obtain ⟨x3, e3, l3, u3⟩ := d3
            refine ob_add _ _ (u := (1)) (v := x3) rfl (ev_of haa (by kernel_rfl)) (Eq.trans (b := vs 3) (ev_of haa (by kernel_rfl)) e3) (by omega) ?_
            refine hK _ _ ?_ (World.grownBy.refl _ _) ⟨hJ.1, by obtain ⟨p', h1, h2⟩ := hJ.2; exact ⟨p', by omega, h2⟩⟩
            show (IntIn (1) (6)) w' _
            exact ⟨_, rfl, by omega, by omega⟩
          · intro n vs aa w' haa hJ hd K hK
            refine ob_plain rfl ?_
            have d4 : (IntIn (1) (6)) w' (vs 4) := hd.1 rfl
            obtain ⟨x4, e4, l4, u4⟩ := d4
            refine ob_build4 _ _ _ _ (u0 := x4) (u1 := (0)) (u2 := (17)) (u3 := (16)) rfl (Eq.trans (b := vs 4) (ev_of haa (by kernel_rfl)) e4) (ev_of haa (by kernel_rfl)) (ev_of haa (by kernel_rfl)) (ev_of haa (by kernel_rfl)) ?_
            refine hK _ _ ⟨_, rfl, Nat.ne_of_gt hJ.2.choose_spec.2.lt, by simp, fun k hk => ?_⟩ (World.grownBy_alloc _ _ _) ⟨hJ.1.trans (World.grownBy_alloc _ _ _), by obtain ⟨p', h1, h2⟩ := hJ.2; exact ⟨p', by omega, h2.alloc _⟩⟩
            match k, hk with
            | 0, _ => exact ⟨x4, by simp [go_sem], by omega, by omega⟩
            | 1, _ => exact ⟨(0), by simp [go_sem], by omega, by omega⟩
            | 2, _ => exact ⟨(17), by simp [go_sem], by omega, by omega⟩
            | 3, _ => exact ⟨(16), by simp [go_sem], by omega, by omega⟩
          · intro n vs aa w' haa hJ hd K hK
            refine ob_plain rfl ?_
            refine ob_build7 _ _ _ _ _ _ _ (u0 := (0)) (u1 := (0)) (u2 := (0)) (u3 := (0)) (u4 := (1)) (u5 := (2)) (u6 := (3)) rfl (ev_of haa (by kernel_rfl)) (ev_of haa (by kernel_rfl)) (ev_of haa (by kernel_rfl)) (ev_of haa (by kernel_rfl)) (ev_of haa (by kernel_rfl)) (ev_of haa (by kernel_rfl)) (ev_of haa (by kernel_rfl)) ?_
            refine hK _ _ ⟨_, rfl, Nat.ne_of_gt hJ.2.choose_spec.2.lt, by simp, fun k hk => ?_⟩ (World.grownBy_alloc _ _ _) ⟨hJ.1.trans (World.grownBy_alloc _ _ _), by obtain ⟨p', h1, h2⟩ := hJ.2; exact ⟨p', by omega, h2.alloc _⟩⟩
            match k, hk with
            | 0, _ => exact ⟨(0), by simp [go_sem], by omega, by omega⟩
            | 1, _ => exact ⟨(0), by simp [go_sem], by omega, by omega⟩
            | 2, _ => exact ⟨(0), by simp [go_sem], by omega, by omega⟩
            | 3, _ => exact ⟨(0), by simp [go_sem], by omega, by omega⟩
            | 4, _ => exact ⟨(1), by simp [go_sem], by omega, by omega⟩
            | 5, _ => exact ⟨(2), by simp [go_sem], by omega, by omega⟩
            | 6, _ => exact ⟨(3), by simp [go_sem], by omega, by omega⟩
          · intro n vs aa w' haa hJ hd K hK
            refine ob_plain rfl ?_
            refine ob_move _ (v := .pointer (some ⟨g, 0, none⟩)) rfl (ev_of haa (by kernel_rfl)) ?_
            refine hK _ _ ?_ (World.grownBy.refl _ _) ⟨hJ.1, by obtain ⟨p', h1, h2⟩ := hJ.2; exact ⟨p', by omega, h2⟩⟩
            show (IsPtr g) w' _
            exact rfl
          · intro n vs aa w' haa hJ hd K hK
            refine ob_plain rfl ?_
            have d7 : (IsPtr g) w' (vs 7) := hd.1 rfl
            have e7 := d7
            obtain ⟨hg', p', hp', hr'⟩ := hJ
            refine ob_call 55 _ _ #[.pointer (some ⟨g, 0, none⟩), .int .i64 (7)] rfl (Eq.trans (b := #[vs 7, .int .i64 (7)]) (evs_of haa (by kernel_rfl)) (by rw [e7])) (fun _ _ => by kernel_rfl) ?_
            refine (pick_any g A len cap p' (7) _ hr' (by omega) (by omega) (by omega)).mono ?_
            rintro e w2 ⟨x, rfl, x0, x1, hr2, hg2⟩
            refine ⟨_, rfl, ?_⟩
            refine hK _ _ ?_ hg2 ⟨hg'.trans hg2, p' + 1, by omega, hr2⟩
            show (IntIn (0) (6)) w' _
            exact ⟨x, rfl, x0, by omega⟩
          · intro n vs aa w' haa hJ hd K hK
            refine ob_plain rfl ?_
            have d6 : (ArrIn g 7 (0) (3)) w' (vs 6) := hd.1 rfl
            obtain ⟨b6, e6, n6, z6, c6⟩ := d6
            have d8 : (IntIn (0) (6)) w' (vs 8) := hd.2.1 rfl
            obtain ⟨x8, e8, l8, u8⟩ := d8
            refine ob_index _ _ _ (by simp) (u := x8) rfl (Eq.trans (b := vs 6) (ev_of haa (by kernel_rfl)) e6) (Eq.trans (b := vs 8) (ev_of haa (by kernel_rfl)) e8) (by omega) (by omega) ?_
            obtain ⟨y, hy, y0, y1⟩ := c6 x8.toNat (by omega)
            refine hK _ _ ?_ (World.grownBy.refl _ _) ⟨hJ.1, by obtain ⟨p', h1, h2⟩ := hJ.2; exact ⟨p', by omega, h2⟩⟩
            show (ElAt g (0) (3)) w' _
            exact ⟨b6, _, rfl, n6, z6, y, by rw [Nat.zero_add]; exact hy, y0, y1⟩
          · intro n vs aa w' haa hJ hd K hK
            refine ob_plain rfl ?_
            have d9 : (ElAt g (0) (3)) w' (vs 9) := hd.1 rfl
            obtain ⟨b9, j9, e9, n9, z9, x9, c9, l9, u9⟩ := d9
            refine ob_load _ _ (by simp) rfl (Eq.trans (b := vs 9) (ev_of haa (by kernel_rfl)) e9) c9 ?_
            refine hK _ _ ?_ (World.grownBy.refl _ _) ⟨hJ.1, by obtain ⟨p', h1, h2⟩ := hJ.2; exact ⟨p', by omega, h2⟩⟩
            show (IntIn (0) (3)) w' _
            exact ⟨_, rfl, l9, u9⟩
          · intro n vs aa w' haa hJ hd K hK
            refine ob_plain rfl ?_
            have d5 : (ArrIn g 4 (0) (17)) w' (vs 5) := hd.1 rfl
            obtain ⟨b5, e5, n5, z5, c5⟩ := d5
            have d10 : (IntIn (0) (3)) w' (vs 10) := hd.2.1 rfl
            obtain ⟨x10, e10, l10, u10⟩ := d10
            refine ob_index _ _ _ (by simp) (u := x10) rfl (Eq.trans (b := vs 5) (ev_of haa (by kernel_rfl)) e5) (Eq.trans (b := vs 10) (ev_of haa (by kernel_rfl)) e10) (by omega) (by omega) ?_
            obtain ⟨y, hy, y0, y1⟩ := c5 x10.toNat (by omega)
            refine hK _ _ ?_ (World.grownBy.refl _ _) ⟨hJ.1, by obtain ⟨p', h1, h2⟩ := hJ.2; exact ⟨p', by omega, h2⟩⟩
            show (ElAt g (0) (17)) w' _
            exact ⟨b5, _, rfl, n5, z5, y, by rw [Nat.zero_add]; exact hy, y0, y1⟩
          · intro n vs aa w' haa hJ hd K hK
            refine ob_plain rfl ?_
            have d11 : (ElAt g (0) (17)) w' (vs 11) := hd.1 rfl
            obtain ⟨b11, j11, e11, n11, z11, x11, c11, l11, u11⟩ := d11
            refine ob_load _ _ (by simp) rfl (Eq.trans (b := vs 11) (ev_of haa (by kernel_rfl)) e11) c11 ?_
            refine hK _ _ ?_ (World.grownBy.refl _ _) ⟨hJ.1, by obtain ⟨p', h1, h2⟩ := hJ.2; exact ⟨p', by omega, h2⟩⟩
            show (IntIn (0) (17)) w' _
            exact ⟨_, rfl, l11, u11⟩
          · intro n vs aa w' haa hJ hd K hK
            refine ob_plain rfl ?_
            have d0 : (IsVal (.slice A' L c')) w' (vs 0) := hd.1 rfl
            refine ob_assign _ (v := vs 0) rfl (ev_of haa (by kernel_rfl)) ?_
            refine hK _ _ ?_ (World.grownBy.refl _ _) ⟨hJ.1, by obtain ⟨p', h1, h2⟩ := hJ.2; exact ⟨p', by omega, h2⟩⟩
            show (IsVal (.slice A' L c')) w' _
            exact d0
          · intro n vs aa w' haa hJ hd K hK
            refine ob_plain rfl ?_
            have d1 : (IsVal (.slice B st.length d)) w' (vs 1) := hd.1 rfl
            refine ob_assign _ (v := vs 1) rfl (ev_of haa (by kernel_rfl)) ?_
            refine hK _ _ ?_ (World.grownBy.refl _ _) ⟨hJ.1, by obtain ⟨p', h1, h2⟩ := hJ.2; exact ⟨p', by omega, h2⟩⟩
            show (IsVal (.slice B st.length d)) w' _
            exact d1
          · intro n vs aa w' haa hJ hd K hK
            refine ob_plain rfl ?_
            have d12 : (IntIn (0) (17)) w' (vs 12) := hd.1 rfl
            refine ob_assign _ (v := vs 12) rfl (ev_of haa (by kernel_rfl)) ?_
            refine hK _ _ ?_ (World.grownBy.refl _ _) ⟨hJ.1, by obtain ⟨p', h1, h2⟩ := hJ.2; exact ⟨p', by omega, h2⟩⟩
            show (IntIn (0) (17)) w' _
            exact d12
        intro vs3 w3 hJ hall
        obtain ⟨z, hz, z0, z1⟩ : IntIn 0 17 w3 (vs3 12) := hall 12 (by decide)
        have h13 : vs3 13 = .slice A' L c' := hall 13 (by decide)
        have h14 : vs3 14 = .slice B st.length d := hall 14 (by decide)
        obtain ⟨z', hz', z2, z3⟩ : IntIn 0 17 w3 (vs3 15) := hall 15 (by decide)
        clear hall
        obtain ⟨hg3, p', hp', hr'⟩ := hJ
        have HO3 := Lib.hid (HO.out.rdr hg3 hgl)
        have HS3 := Lib.hid (own_rd HS.out hg3 hgl9)
        have HD3 := Lib.hid (HD.out.step hg3 ⟨p', hp', hr'⟩)
        clear hr' hg3 hR
        simp only [fill, Act.put, List.toList_toArray, List.setIfInBounds_toArray, List.set_cons_zero, List.set_cons_succ, Nat.zero_add, Nat.reduceAdd, h13, h14, hz']
        go_wp2_with fail
        refine bodyPost_ret (res3K (by rfl) _ _ _) rfl ?_
        exact ⟨_, B, _, d, _, st, z', by rw [HL.out]; rfl, ⟨HO3.out.rd, by rw [HL.out]; omega, fun k hk => keep_eachK HOS.out k hk⟩, ⟨own_ints HS3.out, own_nilc HS3.out, hL⟩, below_rd hb1.out (by rw [← hg0.out]; exact HD3.out.hg)⟩
      · go_wp2_with fail
        refine (pick_d HD.out 2 (by omega) (by omega) (by omega)).mono ?_
        rintro e W' ⟨v, rfl, ⟨y, rfl, y0, y1⟩, hD, hgr⟩
        replace HD := Lib.hid hD
        clear hD
        clear hgr HO
        obtain ⟨Y, rfl⟩ := Int.eq_ofNat_of_zero_le y0
        have hs := HD.out.size.2
        have e1 := Lib.hid (show (16 : Int) + (Y : Int) = ((16 + Y : Nat) : Int) by omega)
        have y2 : (Y : Int) ≤ 1 := by omega
        obtain ⟨L2, hL2⟩ : ∃ L2, L2 = 16 + Y := ⟨_, rfl⟩
        rw [← hL2] at e1
        have hL3 : L2 ≤ 17 := by omega
        replace hL2 := Lib.hid hL2
        go_wp2_with (at_make; refine make_row _ rfl _ _ rfl L2 (by exact congrArg (Value.int .i64) e1.out) (by exact congrArg (Value.int .i64) e1.out) (by omega) w1.heap.size hs ?_; intro w8 ho8 hb8; have HO := Lib.hid (gown_nils ho8); replace HD := Lib.hid (HD.out.below hb8); clear ho8 hb8)
        obtain ⟨AA, hAA⟩ : ∃ AA, AA = (some ⟨W'.heap.size, 0, none⟩ : Option Addr) := ⟨_, rfl⟩
        rw [← hAA] at HO ⊢
        replace hAA := Lib.hid hAA
        have hgl9 := Nat.lt_of_lt_of_le hgl HD.out.size.2
        go_wp2_with fail
        refine (l20State_d HD.out 14 (by omega) (by omega) (by omega)).mono ?_
        rintro e W' ⟨v, rfl, hv, hD, hgr⟩
        replace HD := Lib.hid hD
        clear hD
        obtain ⟨B, d, st, rfl, ob, hL⟩ := hv
        unfold LenP at hL
        replace HO := Lib.hid (HO.out.rdr hgr hgl)
        have HS := Lib.hid ob
        have hgb := HD.out.size
        clear ob hgr
        go_upto_region 10 with (fail)
        obtain ⟨p, hp1, hR⟩ := HD.out.rd
        have hp : p ≤ 900000000 := by omega
        refine region_list (some g) (IsVal (.slice AA L2 L2) :: IsVal (.slice B st.length d) :: IsPtr g :: IntIn (0) (5) :: IntIn (1) (6) :: ArrIn g 4 (0) (17) :: ArrIn g 7 (0) (3) :: IsPtr g :: IntIn (0) (6) :: ElAt g (0) (3) :: IntIn (0) (3) :: ElAt g (0) (17) :: IntIn (0) (17) :: IsVal (.slice AA L2 L2) :: IsVal (.slice B st.length d) :: IntIn (0) (17) :: []) (fun n w' => World.grownBy W' w' (some g) ∧ ∃ p' : Nat, p' + 1 * n ≤ p + 16 ∧ Rd w' g A len cap p') ?_ ?_ ?_ ?_ ?_ ?_ ?_
        · kernel_rfl
        · exact ⟨st_val _ _, st_val _ _, st_ptr _ _, st_int _ _ _, st_int _ _ _, st_arr _ _ _ _, st_arr _ _ _ _, st_ptr _ _, st_int _ _ _, st_el _ _ _, st_int _ _ _, st_el _ _ _, st_int _ _ _, st_val _ _, st_val _ _, st_int _ _ _, trivial⟩
        · exact of_decide_eq_true (by kernel_rfl)
        · kernel_rfl
        · exact ⟨grown_drew _ _, p, by simp, hR⟩
        · refine each_cons ?_ (each_cons ?_ (each_cons ?_ (each_cons ?_ (each_cons ?_ (each_cons ?_ (each_cons ?_ (each_cons ?_ (each_cons ?_ (each_cons ?_ (each_cons ?_ (each_cons ?_ (each_cons ?_ (each_cons ?_ (each_cons ?_ (each_cons ?_ ( trivial))))))))))))))))
          · intro n vs aa w' haa hJ hd K hK
            refine ob_plain rfl ?_
            refine ob_move _ (v := .slice AA L2 L2) rfl (ev_of haa (by kernel_rfl)) ?_
            refine hK _ _ ?_ (World.grownBy.refl _ _) ⟨hJ.1, by obtain ⟨p', h1, h2⟩ := hJ.2; exact ⟨p', by omega, h2⟩⟩
            show (IsVal (.slice AA L2 L2)) w' _
            exact rfl
          · intro n vs aa w' haa hJ hd K hK
            refine ob_plain rfl ?_
            refine ob_move _ (v := .slice B st.length d) rfl (ev_of haa (by kernel_rfl)) ?_
            refine hK _ _ ?_ (World.grownBy.refl _ _) ⟨hJ.1, by obtain ⟨p', h1, h2⟩ := hJ.2; exact ⟨p', by omega, h2⟩⟩
            show (IsVal (.slice B st.length d)) w' _
            exact rfl
          · intro n vs aa w' haa hJ hd K hK
            refine ob_plain rfl ?_
            refine ob_move _ (v := .pointer (some ⟨g, 0, none⟩)) rfl (ev_of haa (by kernel_rfl)) ?_
            refine hK _ _ ?_ (World.grownBy.refl _ _) ⟨hJ.1, by obtain ⟨p', h1, h2⟩ := hJ.2; exact ⟨p', by omega, h2⟩⟩
            show (IsPtr g) w' _
            exact rfl
          · intro n vs aa w' haa hJ hd K hK
            refine ob_plain rfl ?_
            have d2 : (IsPtr g) w' (vs 2) := hd.1 rfl
            have e2 := d2
            obtain ⟨hg', p', hp', hr'⟩ := hJ
            refine ob_call 55 _ _ #[.pointer (some ⟨g, 0, none⟩), .int .i64 (6)] rfl (Eq.trans (b := #[vs 2, .int .i64 (6)]) (evs_of haa (by kernel_rfl)) (by rw [e2])) (fun _ _ => by kernel_rfl) ?_
            refine (pick_any g A len cap p' (6) _ hr' (by omega) (by omega) (by omega)).mono ?_
            rintro e w2 ⟨x, rfl, x0, x1, hr2, hg2⟩
            refine ⟨_, rfl, ?_⟩
            refine hK _ _ ?_ hg2 ⟨hg'.trans hg2, p' + 1, by omega, hr2⟩
            show (IntIn (0) (5)) w' _
            exact ⟨x, rfl, x0, by omega⟩
          · intro n vs aa w' haa hJ hd K hK
            refine ob_plain rfl ?_
            have d3 : (IntIn (0) (5)) w' (vs 3) := hd.1 rfl
            obtain ⟨x3, e3, l3, u3⟩ := d3
            refine ob_add _ _ (u := (1)) (v := x3) rfl (ev_of haa (by kernel_rfl)) (Eq.trans (b := vs 3) (ev_of haa (by kernel_rfl)) e3) (by omega) ?_
            refine hK _ _ ?_ (World.grownBy.refl _ _) ⟨hJ.1, by obtain ⟨p', h1, h2⟩ := hJ.2; exact ⟨p', by omega, h2⟩⟩
            show (IntIn (1) (6)) w' _
            exact ⟨_, rfl, by omega, by omega⟩
          · intro n vs aa w' haa hJ hd K hK
            refine ob_plain rfl ?_
            have d4 : (IntIn (1) (6)) w' (vs 4) := hd.1 rfl
            obtain ⟨x4, e4, l4, u4⟩ := d4
            refine ob_build4 _ _ _ _ (u0 := x4) (u1 := (0)) (u2 := (17)) (u3 := (16)) rfl (Eq.trans (b := vs 4) (ev_of haa (by kernel_rfl)) e4) (ev_of haa (by kernel_rfl)) (ev_of haa (by kernel_rfl)) (ev_of haa (by kernel_rfl)) ?_
            refine hK _ _ ⟨_, rfl, Nat.ne_of_gt hJ.2.choose_spec.2.lt, by simp, fun k hk => ?_⟩ (World.grownBy_alloc _ _ _) ⟨hJ.1.trans (World.grownBy_alloc _ _ _), by obtain ⟨p', h1, h2⟩ := hJ.2; exact ⟨p', by omega, h2.alloc _⟩⟩
            match k, hk with
            | 0, _ => exact ⟨x4, by simp [go_sem], by omega, by omega⟩
            | 1, _ => exact ⟨(0), by simp [go_sem], by omega, by omega⟩
            | 2, _ => exact ⟨(17), by simp [go_sem], by omega, by omega⟩
            | 3, _ => exact ⟨(16), by simp [go_sem], by omega, by omega⟩
          · intro n vs aa w' haa hJ hd K hK
            refine ob_plain rfl ?_
            refine ob_build7 _ _ _ _ _ _ _ (u0 := (0)) (u1 := (0)) (u2 := (0)) (u3 := (0)) (u4 := (1)) (u5 := (2)) (u6 := (3)) rfl (ev_of haa (by kernel_rfl)) (ev_of haa (by kernel_rfl)) (ev_of haa (by kernel_rfl)) (ev_of haa (by kernel_rfl)) (ev_of haa (by kernel_rfl)) (ev_of haa (by kernel_rfl)) (ev_of haa (by kernel_rfl)) ?_
            refine hK _ _ ⟨_, rfl, Nat.ne_of_gt hJ.2.choose_spec.2.lt, by simp, fun k hk => ?_⟩ (World.grownBy_alloc _ _ _) ⟨hJ.1.trans (World.grownBy_alloc _ _ _), by obtain ⟨p', h1, h2⟩ := hJ.2; exact ⟨p', by omega, h2.alloc _⟩⟩
            match k, hk with
            | 0, _ => exact ⟨(0), by simp [go_sem], by omega, by omega⟩
            | 1, _ => exact ⟨(0), by simp [go_sem], by omega, by omega⟩
            | 2, _ => exact ⟨(0), by simp [go_sem], by omega, by omega⟩
            | 3, _ => exact ⟨(0), by simp [go_sem], by omega, by omega⟩
            | 4, _ => exact ⟨(1), by simp [go_sem], by omega, by omega⟩
            | 5, _ => exact ⟨(2), by simp [go_sem], by omega, by omega⟩
            | 6, _ => exact ⟨(3), by simp [go_sem], by omega, by omega⟩
          · intro n vs aa w' haa hJ hd K hK
            refine ob_plain rfl ?_
            refine ob_move _ (v := .pointer (some ⟨g, 0, none⟩)) rfl (ev_of haa (by kernel_rfl)) ?_
            refine hK _ _ ?_ (World.grownBy.refl _ _) ⟨hJ.1, by obtain ⟨p', h1, h2⟩ := hJ.2; exact ⟨p', by omega, h2⟩⟩
            show (IsPtr g) w' _
            exact rfl
          · intro n vs aa w' haa hJ hd K hK
            refine ob_plain rfl ?_
            have d7 : (IsPtr g) w' (vs 7) := hd.1 rfl
            have e7 := d7
            obtain ⟨hg', p', hp', hr'⟩ := hJ
            refine ob_call 55 _ _ #[.pointer (some ⟨g, 0, none⟩), .int .i64 (7)] rfl (Eq.trans (b := #[vs 7, .int .i64 (7)]) (evs_of haa (by kernel_rfl)) (by rw [e7])) (fun _ _ => by kernel_rfl) ?_
            refine (pick_any g A len cap p' (7) _ hr' (by omega) (by omega) (by omega)).mono ?_
            rintro e w2 ⟨x, rfl, x0, x1, hr2, hg2⟩
            refine ⟨_, rfl, ?_⟩
            refine hK _ _ ?_ hg2 ⟨hg'.trans hg2, p' + 1, by omega, hr2⟩
            show (IntIn (0) (6)) w' _
            exact ⟨x, rfl, x0, by omega⟩
          · intro n vs aa w' haa hJ hd K hK
            refine ob_plain rfl ?_
            have d6 : (ArrIn g 7 (0) (3)) w' (vs 6) := hd.1 rfl
            obtain ⟨b6, e6, n6, z6, c6⟩ := d6
            have d8 : (IntIn (0) (6)) w' (vs 8) := hd.2.1 rfl
            obtain ⟨x8, e8, l8, u8⟩ := d8
            refine ob_index _ _ _ (by simp) (u := x8) rfl (Eq.trans (b := vs 6) (ev_of haa (by kernel_rfl)) e6) (Eq.trans (b := vs 8) (ev_of haa (by kernel_rfl)) e8) (by omega) (by omega) ?_
            obtain ⟨y, hy, y0, y1⟩ := c6 x8.toNat (by omega)
            refine hK _ _ ?_ (World.grownBy.refl _ _) ⟨hJ.1, by obtain ⟨p', h1, h2⟩ := hJ.2; exact ⟨p', by omega, h2⟩⟩
            show (ElAt g (0) (3)) w' _
            exact ⟨b6, _, rfl, n6, z6, y, by rw [Nat.zero_add]; exact hy, y0, y1⟩
          · intro n vs aa w' haa hJ hd K hK
            refine ob_plain rfl ?_
            have d9 : (ElAt g (0) (3)) w' (vs 9) := hd.1 rfl
            obtain ⟨b9, j9, e9, n9, z9, x9, c9, l9, u9⟩ := d9
            refine ob_load _ _ (by simp) rfl (Eq.trans (b := vs 9) (ev_of haa (by kernel_rfl)) e9) c9 ?_
            refine hK _ _ ?_ (World.grownBy.refl _ _) ⟨hJ.1, by obtain ⟨p', h1, h2⟩ := hJ.2; exact ⟨p', by omega, h2⟩⟩
            show (IntIn (0) (3)) w' _
            exact ⟨_, rfl, l9, u9⟩
          · intro n vs aa w' haa hJ hd K hK
            refine ob_plain rfl ?_
            have d5 : (ArrIn g 4 (0) (17)) w' (vs 5) := hd.1 rfl
            obtain ⟨b5, e5, n5, z5, c5⟩ := d5
            have d10 : (IntIn (0) (3)) w' (vs 10) := hd.2.1 rfl
            obtain ⟨x10, e10, l10, u10⟩ := d10
            refine ob_index _ _ _ (by simp) (u := x10) rfl (Eq.trans (b := vs 5) (ev_of haa (by kernel_rfl)) e5) (Eq.trans (b := vs 10) (ev_of haa (by kernel_rfl)) e10) (by omega) (by omega) ?_
            obtain ⟨y, hy, y0, y1⟩ := c5 x10.toNat (by omega)
            refine hK _ _ ?_ (World.grownBy.refl _ _) ⟨hJ.1, by obtain ⟨p', h1, h2⟩ := hJ.2; exact ⟨p', by omega, h2⟩⟩
            show (ElAt g (0) (17)) w' _
            exact ⟨b5, _, rfl, n5, z5, y, by rw [Nat.zero_add]; exact hy, y0, y1⟩
          · intro n vs aa w' haa hJ hd K hK
            refine ob_plain rfl ?_
            have d11 : (ElAt g (0) (17)) w' (vs 11) := hd.1 rfl
            obtain ⟨b11, j11, e11, n11, z11, x11, c11, l11, u11⟩ := d11
            refine ob_load _ _ (by simp) rfl (Eq.trans (b := vs 11) (ev_of haa (by kernel_rfl)) e11) c11 ?_
            refine hK _ _ ?_ (World.grownBy.refl _ _) ⟨hJ.1, by obtain ⟨p', h1, h2⟩ := hJ.2; exact ⟨p', by omega, h2⟩⟩
            show (IntIn (0) (17)) w' _
            exact ⟨_, rfl, l11, u11⟩
          · intro n vs aa w' haa hJ hd K hK
            refine ob_plain rfl ?_
            have d0 : (IsVal (.slice AA L2 L2)) w' (vs 0) := hd.1 rfl
            refine ob_assign _ (v := vs 0) rfl (ev_of haa (by kernel_rfl)) ?_
            refine hK _ _ ?_ (World.grownBy.refl _ _) ⟨hJ.1, by obtain ⟨p', h1, h2⟩ := hJ.2; exact ⟨p', by omega, h2⟩⟩
            show (IsVal (.slice AA L2 L2)) w' _
            exact d0
          · intro n vs aa w' haa hJ hd K hK
            refine ob_plain rfl ?_
            have d1 : (IsVal (.slice B st.length d)) w' (vs 1) := hd.1 rfl
            refine ob_assign _ (v := vs 1) rfl (ev_of haa (by kernel_rfl)) ?_
            refine hK _ _ ?_ (World.grownBy.refl _ _) ⟨hJ.1, by obtain ⟨p', h1, h2⟩ := hJ.2; exact ⟨p', by omega, h2⟩⟩
            show (IsVal (.slice B st.length d)) w' _
            exact d1
          · intro n vs aa w' haa hJ hd K hK
            refine ob_plain rfl ?_
            have d12 : (IntIn (0) (17)) w' (vs 12) := hd.1 rfl
            refine ob_assign _ (v := vs 12) rfl (ev_of haa (by kernel_rfl)) ?_
            refine hK _ _ ?_ (World.grownBy.refl _ _) ⟨hJ.1, by obtain ⟨p', h1, h2⟩ := hJ.2; exact ⟨p', by omega, h2⟩⟩
            show (IntIn (0) (17)) w' _
            exact d12
        intro vs3 w3 hJ hall
        obtain ⟨z, hz, z0, z1⟩ : IntIn 0 17 w3 (vs3 12) := hall 12 (by decide)
        have h13 : vs3 13 = .slice AA L2 L2 := hall 13 (by decide)
        have h14 : vs3 14 = .slice B st.length d := hall 14 (by decide)
        obtain ⟨z', hz', z2, z3⟩ : IntIn 0 17 w3 (vs3 15) := hall 15 (by decide)
        clear hall
        obtain ⟨hg3, p', hp', hr'⟩ := hJ
        have HO3 := Lib.hid (HO.out.rdr hg3 hgl)
        have HS3 := Lib.hid (own_rd HS.out hg3 hgl9)
        have HD3 := Lib.hid (HD.out.step hg3 ⟨p', hp', hr'⟩)
        clear hr' hg3 hR
        simp only [fill, Act.put, List.toList_toArray, List.setIfInBounds_toArray, List.set_cons_zero, List.set_cons_succ, Nat.zero_add, Nat.reduceAdd, h13, h14, hz']
        go_wp2_with fail
        refine bodyPost_ret (res3K (by rfl) _ _ _) rfl ?_
        exact ⟨_, B, _, d, _, st, z', by rw [List.length_replicate]; rfl, ⟨HO3.out.rd, by rw [List.length_replicate]; exact hL3, fun k hk => by rw [rep_getD]; exact Nat.zero_le _⟩, ⟨own_ints HS3.out, own_nilc HS3.out, hL⟩, below_rd hb1.out (by rw [← hg0.out]; exact HD3.out.hg)⟩
end Go.Proofs.Ytmdebahhlgfboaa
