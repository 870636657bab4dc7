/-
  Banks that the statements draw: the reference's l20Rom. No condition.
-/
import Derived.Test.YtgedfcccflobmaaDrb
import Derived.Test.YtgedfcccflobmaaKee
import Derived.Test.YtgedfcccflobmaaPush
import Derived.Test.YtgedfcccflobmaaEnv
namespace Go.Proofs.Ytgedfcccflobmaa
open Go.RowKit
set_option linter.unusedVariables false
set_option linter.unusedSimpArgs false
theorem Drs.belowB {w W W' : World} {g len cap p0 q B : Nat} {A : Option Addr} (h : Drs w W g A len cap p0 q) (hb : Below B W W') (hB : w.heap.size ≤ B) : Drs w W' g A len cap p0 q := by
  obtain ⟨p, hp, hR⟩ := h.rd
  have hG : w.grownBy W' (some g) := ⟨hb.os.trans h.hg.os, hb.tape.trans h.hg.tape, hb.output.trans h.hg.output, Nat.le_trans h.hg.size hb.size, fun k hk hne => (hb.block k (Nat.lt_of_lt_of_le hk hB)).trans (h.hg.block k hk hne)⟩
  exact ⟨h.r0, hG, p, hp, hR.1.below hb (Nat.lt_of_lt_of_le h.r0.lt hB), h.r0.2.1.grown hG, h.r0.2.2⟩
theorem GOwn.rdM {w w' : World} {base hi c g : Nat} {A : Option Addr} {os : List (List Int)} {vs : List Value} (h : GOwn w base hi A c os vs) (hg : w.grownBy w' (some g)) (hb : g < base) : GOwn w' base hi A c os vs :=
  ⟨own_rd h.outer hg hb, h.vlen, fun i hi => own_rd (h.inner i hi) hg hb, h.olt, h.ilt, h.inc⟩
theorem allB_app {xs ys : List Int} (h : allB xs = true) (k : allB ys = true) : allB (xs ++ ys) = true := by
  unfold allB at *
  rw [List.all_append, h, k]; rfl
theorem allB_snocM {xs : List Int} {x : Int} (h : allB xs = true) (h0 : 0 ≤ x) (h1 : x ≤ 255) : allB (xs ++ [x]) = true := allB_app h (by simp [allB, inB_iff.2 ⟨h0, h1⟩])
def slenM : Value → Nat
  | .slice _ n _ => n
  | _ => 0
/-- Banks drawn. -/
def RomV (base : Nat) (w : World) (v : Value) : Prop := ∃ A c os vs, v = .slice A os.length c ∧ 1 ≤ os.length ∧ os.length ≤ 3 ∧ os.all rowB = true ∧ GOwn w base w.heap.size A c os vs
theorem l20Order_d {w W : World} {g len cap p0 q : Nat} {A : Option Addr} (h : Drs w W g A len cap p0 q) (hq : q ≤ 800000000) :
    Calls Try.prog 102 #[.pointer (some ⟨g, 0, none⟩), .int .i64 0] W (Dr w W g A len cap p0 (q + 20) OrdV) :=
  dr_of h 800000000 hq fun p hp hR => l20Order0 g A len cap p W hR hp
set_option maxRecDepth 100000 in
set_option maxHeartbeats 4000000 in
theorem l20Rom_any (g : Nat) (A : Option Addr) (len cap p0 : Nat) (w : World) (h : Rd w g A len cap p0) (hp0 : p0 ≤ 700000000) :
    Calls Try.prog 93 #[.pointer (some ⟨g, 0, none⟩)] w (Draws g A len cap p0 1000 w (RomV w.heap.size)) := by
  have hgl := h.lt
  have HD := Lib.hid ((Drs.start h).alloc (.cells #[] 23))
  have HO := Lib.hid (gown_lit w)
  clear h
  go_enter Try.func93, Try.ntmps93
  go_wp2_with fail
  refine (pick_d HD.out 3 (by omega) (by omega) (by omega)).mono ?_
  rintro e W' ⟨v, rfl, ⟨x, rfl, x0, x1⟩, hD, hgr⟩
  replace HD := Lib.hid hD
  clear hD
  replace HO := Lib.hid ((HO.out.rdM hgr hgl).up hgr.size)
  clear hgr
  obtain ⟨X, rfl⟩ := Int.eq_ofNat_of_zero_le x0
  have hX : X ≤ 2 := by omega
  clear x0 x1
  go_wp2_with fail
  go_loopw [3, 4] (fun out k wr => ∃ (K : Nat) (A' : Option Addr) (c' : Nat) (os : List (List Int)) (vs : List Value), out = .slice A' os.length c' ∧ k = .int .i64 K ∧ 1 ≤ os.length + K ∧ os.length + K ≤ 3 ∧ os.all rowB = true ∧ GOwn wr w.heap.size wr.heap.size A' c' os vs ∧ Drs w wr g A len cap p0 (p0 + 1 + 300 * (3 - K))) (fun _ k _ => (intOf k).toNat)
  case atStart => exact ⟨X + 1, _, 0, [], [], rfl, by rw [show (1 : Int) + X = ((X + 1 : Nat) : Int) by omega], by simp, by simp; omega, rfl, HO.out, HD.out.more (by omega)⟩
  case round =>
    obtain ⟨K, A', c', os, vs, rfl, rfl, hl1, hl3, hos, hown, hD⟩ := hrel
    replace HD := Lib.hid hD
    replace HO := Lib.hid hown
    have HOS := Lib.hid hos
    have hs0 := HD.out.size
    clear hD hown hos
    by_cases hlt : 0 < K
    · have q1 : (K : Int) > 0 := by omega
      have hqb : p0 + 1 + 300 * (3 - K) ≤ 700001000 := by omega
      have LB := Lib.hid (own_base (World.ownsRow_lit (e := 3) (size := 1) wr #[] 0 (Nat.le_refl _) (by simp [maxLen]) rfl) (Nat.le_refl wr.heap.size))
      have hi0 : w.heap.size ≤ wr.heap.size := hs0.2
      have hgi : g < wr.heap.size := by omega
      replace HO := Lib.hid (HO.out.allocP (.cells #[] 3))
      replace HD := Lib.hid (HD.out.alloc (.cells #[] 3))
      obtain ⟨hi, hhi⟩ : ∃ hi, hi = wr.heap.size := ⟨_, rfl⟩
      rw [← hhi] at HO LB hi0 hgi
      go_wp2_with fail
      refine (pick_d HD.out 14 (by omega) (by omega) (by omega)).mono ?_
      rintro e W' ⟨v, rfl, ⟨y, rfl, y0, y1⟩, hD, hgr⟩
      replace HD := Lib.hid hD
      clear hD
      replace HO := Lib.hid (HO.out.rdM hgr hgl)
      replace LB := Lib.hid (own_rd LB.out hgr hgi)
      have hs1 : hi ≤ W'.heap.size := by have := hgr.size; have e : (wr.alloc (.cells #[] 3)).heap.size = wr.heap.size + 1 := by simp
                                         omega
      replace hhi := Lib.hid hhi
      clear hgr
      obtain ⟨Y, rfl⟩ := Int.eq_ofNat_of_zero_le y0
      have hY : Y ≤ 13 := by omega
      clear y0 y1
      go_wp2_with fail
      go_loopw [5, 6] (fun bank j wq => ∃ (J : Nat) (B : Option Addr) (d : Nat) (bs : List Int), bank = .slice B bs.length d ∧ j = .int .i64 J ∧ bs.length + 3 * J ≤ 39 ∧ allB bs = true ∧ wq.ownsRow hi 3 1 (.slice B bs.length d) bs.length (iv bs) ∧ GOwn wq w.heap.size hi A' c' os vs ∧ hi ≤ wq.heap.size ∧ Drs w wq g A len cap p0 (p0 + 2 + 300 * (3 - K) + 20 * (13 - J))) (fun _ j _ => (intOf j).toNat)
      case atStart => exact ⟨Y, some ⟨hi, 0, none⟩, 0, [], by rw [hhi.out]; rfl, rfl, by simp; omega, rfl, LB.out, HO.out, hs1, HD.out.more (by omega)⟩
      case round =>
        obtain ⟨J, B, d, bs, rfl, rfl, hbl, hba, hbo, hgo, hsz, hD⟩ := hrel
        replace HD := Lib.hid hD
        replace HO := Lib.hid hgo
        replace LB := Lib.hid hbo
        have HBA := Lib.hid hba
        clear hD hgo hbo hba
        by_cases hj : 0 < J
        · have q2 : (J : Int) > 0 := by omega
          go_wp2_with fail
          refine (l20Order_d HD.out (by omega)).mono ?_
          rintro e W' ⟨v, rfl, ⟨op, arg, rfl, ho⟩, hD, hgr⟩
          replace HD := Lib.hid hD
          clear hD
          replace HO := Lib.hid (HO.out.rdM hgr hgl)
          replace LB := Lib.hid (own_rd LB.out hgr hgi)
          have hs2 : hi ≤ W'.heap.size := Nat.le_trans hsz hgr.size
          clear hgr
          go_wp2_with (first
            | (go_at_call 101; refine (orderBytes_spec op arg _ ho).mono ?_; rintro e w5 ⟨Ax, cx, xs, rfl, hx, hxn, hxa, hxl, b5⟩; have LB5 := Lib.hid (own_below LB.out b5); have HO5 := Lib.hid (HO.out.below b5); have HD5 := Lib.hid (HD.out.below b5); have hs5 : hi ≤ w5.heap.size := Nat.le_trans hs2 b5.size; replace hx := Lib.hid hx; replace hxa := Lib.hid hxa; replace hxn := Lib.hid hxn; clear b5)
            | (at_builtin; refine push_list _ rfl _ _ rfl hi bs.length d xs.length cx _ B Ax bs xs rfl rfl LB5.out hx.out hxn.out (by omega) hs5 ?_; intro A6 c6 w6 o6 b6; have HO6 := Lib.hid (HO5.out.under b6 (Nat.le_refl _)); have HD6 := Lib.hid (HD5.out.belowB b6 hi0); have hs6 : hi ≤ w6.heap.size := Nat.le_trans hs5 b6.size; replace o6 := Lib.hid o6; clear b6))
          go_roundw
          case rel => exact ⟨J - 1, A6, c6, bs ++ xs, by rw [List.length_append], by rw [show (J : Int) - 1 = ((J - 1 : Nat) : Int) by omega], by rw [List.length_append]; omega, allB_app HBA.out hxa.out, by rw [List.length_append]; exact o6.out, HO6.out, hs6, HD6.out.more (by omega)⟩
          case measure => simp [intOf]; omega
        · obtain rfl : J = 0 := by omega
          have q2 : ¬ ((0 : Nat) : Int) > 0 := by omega
          have hqq : p0 + 2 + 300 * (3 - K) + 20 * 13 ≤ 700002000 := by omega
          go_wp2_with fail
          refine (pick_d HD.out 256 (by omega) (by omega) (by omega)).mono ?_
          rintro e W' ⟨v, rfl, ⟨f, rfl, f0, f1⟩, hD, hgr⟩
          replace HD := Lib.hid hD
          clear hD
          replace HO := Lib.hid (HO.out.rdM hgr hgl)
          replace LB := Lib.hid (own_rd LB.out hgr hgi)
          have hs2 : hi ≤ W'.heap.size := Nat.le_trans hsz hgr.size
          clear hgr
          have hs := HD.out.size
          replace HO := Lib.hid (HO.out.allocP (.cells #[.int .i64 0, .int .i64 f, .int .i64 15] 3))
          replace LB := Lib.hid (LB.out.alloc (.cells #[.int .i64 0, .int .i64 f, .int .i64 15] 3))
          replace HD := Lib.hid (HD.out.alloc (.cells #[.int .i64 0, .int .i64 f, .int .i64 15] 3))
          obtain ⟨lb, hlb⟩ : ∃ lb, lb = W'.heap.size := ⟨_, rfl⟩
          replace hlb := Lib.hid hlb
          go_wp2_with fail
          refine (pick_d HD.out 3 (by omega) (by omega) (by omega)).mono ?_
          rintro e W' ⟨v, rfl, ⟨z, rfl, z0, z1⟩, hD, hgr⟩
          replace HD := Lib.hid hD
          clear hD
          replace HO := Lib.hid (HO.out.rdM hgr hgl)
          replace LB := Lib.hid (own_rd LB.out hgr hgi)
          have l0 := grown_cell hgr (by simp) (by intro e; injection e with e; omega) (cell_new _ _ _ 0)
          have l1 := grown_cell hgr (by simp) (by intro e; injection e with e; omega) (cell_new _ _ _ 1)
          have l2 := grown_cell hgr (by simp) (by intro e; injection e with e; omega) (cell_new _ _ _ 2)
          have hs3 : hi ≤ W'.heap.size := Nat.le_trans hs2 (Nat.le_trans (size_alloc_le _ _) hgr.size)
          obtain ⟨Z, rfl⟩ := Int.eq_ofNat_of_zero_le z0
          have hZ : Z ≤ 2 := by omega
          obtain ⟨F, F0, F1, hF⟩ : ∃ F : Int, 0 ≤ F ∧ F ≤ 255 ∧ W'.cell? ⟨lb, Z, none⟩ = some (.int .i64 F) := by
            rw [hlb.out]
            obtain rfl | rfl | rfl : Z = 0 ∨ Z = 1 ∨ Z = 2 := by omega
            · exact ⟨0, by omega, by omega, l0⟩
            · exact ⟨f, by omega, by omega, l1⟩
            · exact ⟨15, by omega, by omega, l2⟩
          rw [hlb.out] at hF
          have Z1 : (Z : Int) < 3 := by omega
          clear l0 l1 l2 hgr z1
          go_wp2_with fail
          go_loopw [5] (fun bank wq => ∃ (B : Option Addr) (d : Nat) (bs : List Int), bank = .slice B bs.length d ∧ bs.length ≤ 256 ∧ allB bs = true ∧ wq.ownsRow hi 3 1 (.slice B bs.length d) bs.length (iv bs) ∧ GOwn wq w.heap.size hi A' c' os vs ∧ hi ≤ wq.heap.size ∧ Drs w wq g A len cap p0 (p0 + 2 + 300 * (3 - K) + 20 * 13 + 2)) (fun bank _ => 256 - slenM bank)
          case atStart => exact ⟨B, d, bs, rfl, by omega, HBA.out, LB.out, HO.out, hs3, HD.out.more (by omega)⟩
          case round =>
            obtain ⟨B, d, bs, rfl, hbl, hba, hbo, hgo, hsz, hD⟩ := hrel
            replace HD := Lib.hid hD
            replace HO := Lib.hid hgo
            replace LB := Lib.hid hbo
            replace HBA := Lib.hid hba
            clear hD hgo hbo hba
            by_cases hb6 : bs.length < 256
            · have q3 : (bs.length : Int) < 256 := by omega
              have LB5 := Lib.hid (LB.out.alloc (.cells #[.int .i64 F] 3))
              have hs5 : hi ≤ (wr.alloc (.cells #[.int .i64 F] 3)).heap.size := Nat.le_trans hsz (size_alloc_le _ _)
              go_wp2_with (at_builtin; refine push_own _ rfl _ _ rfl hi bs.length d wr.heap.size 1 B bs F rfl rfl LB5.out (cell_new _ _ _ 0) (by omega) hs5 ?_; intro A6 c6 w6 o6 b6; have HO6 := Lib.hid ((HO.out.allocP (.cells #[.int .i64 F] 3)).under b6 (Nat.le_refl _)); have HD6 := Lib.hid ((HD.out.alloc (.cells #[.int .i64 F] 3)).belowB b6 hi0); have hs6 : hi ≤ w6.heap.size := Nat.le_trans hs5 b6.size; replace o6 := Lib.hid o6; clear b6)
              go_roundw
              case rel => exact ⟨A6, c6, bs ++ [F], by rw [List.length_append]; rfl, by rw [List.length_append]; exact hb6, allB_snocM HBA.out F0 F1, by rw [List.length_append]; exact o6.out, HO6.out, hs6, HD6.out⟩
              case measure => simp [slenM]; omega
            · have q3 : ¬ (bs.length : Int) < 256 := by omega
              have hbe : bs.length = 256 := by omega
              have HBE := Lib.hid hbe
              clear hbe
              go_wp2_with (at_builtin; refine push_row _ rfl _ _ rfl w.heap.size os.length c' wr.heap.size 1 A' B bs.length d vs rfl rfl (HO.out.outer.alloc (.cells #[.slice B bs.length d] 23)) (cell_new _ _ _ 0) (by omega) (by simp; omega) ?_; intro A6 c6 w6 o6 g6; have hsn := Lib.hid (GOwn.snoc (HO.out.allocP (.cells #[.slice B bs.length d] 23)) bs (.slice B bs.length d) o6 g6 (own_base (LB.out.alloc _) hi0) (fun g hg => (LB.out.lt g hg).1) (Nat.le_trans hsz (size_alloc_le _ _))); have HD6 := Lib.hid ((HD.out.alloc (.cells #[.slice B bs.length d] 23)).push g6 (fun k hk => (HO.out.outer.lt k hk).1)); clear o6 g6)
              go_roundw
              case rel => exact ⟨K - 1, A6, c6, os ++ [bs], vs ++ [.slice B bs.length d], by rw [List.length_append]; rfl, by rw [show (K : Int) - 1 = ((K - 1 : Nat) : Int) by omega], by rw [List.length_append, List.length_singleton]; omega, by rw [List.length_append, List.length_singleton]; omega, by rw [List.all_append, HOS.out]; simp [rowB, HBE.out, HBA.out], hsn.out, HD6.out.more (by omega)⟩
              case measure => simp [intOf]; omega
    · obtain rfl : K = 0 := by omega
      have q2 : ¬ ((0 : Nat) : Int) > 0 := by omega
      go_wp2_with fail
      go_ret
      exact draws_of HD.out (by omega) ⟨A', c', os, vs, rfl, by omega, by omega, HOS.out, HO.out⟩
theorem l20Rom_d {w W : World} {g len cap p0 q : Nat} {A : Option Addr} (h : Drs w W g A len cap p0 q) (hq : q ≤ 700000000) :
    Calls Try.prog 93 #[.pointer (some ⟨g, 0, none⟩)] W (Dr w W g A len cap p0 (q + 1000) (RomV W.heap.size)) :=
  dr_of h 700000000 hq fun p hp hR => l20Rom_any g A len cap p W hR hp
end Go.Proofs.Ytgedfcccflobmaa
