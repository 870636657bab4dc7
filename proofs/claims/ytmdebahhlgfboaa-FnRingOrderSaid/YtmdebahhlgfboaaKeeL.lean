/-
  The laws on kept states: their walks. No condition.
-/
import Derived.Test.YtmdebahhlgfboaaDrwK
import Derived.Test.YtmdebahhlgfboaaKeeS
namespace Go.Proofs.Ytmdebahhlgfboaa
open Go.RowKit
set_option linter.unusedVariables false
set_option linter.unusedSimpArgs false
attribute [local go_sem ↓] Go.wp_at_zero Go.wp_at_succ
set_option maxHeartbeats 400000 in
theorem alive_any (w : World) : Calls Try.prog 30 #[] w fun e w' => e = .returned (.bool true) ∧ w = w' := by
  have e8 : wrap64 (IntKind.i8.wrap 255) = -1 := by
    rw [show IntKind.i8.wrap 255 = -1 by decide]
    exact IntWalk.wrap64_in _ (by omega)
  go_enter Try.func30, Try.ntmps30
  go_wp2_with (first | (go_at_call 47; refine (within_any _ _ _ _).mono ?_; rintro e w' ⟨rfl, rfl⟩; rw [show inB 255 0 255 = true from rfl]) | go_in)
  go_ret
  exact ⟨rfl, rfl⟩
theorem keep_good {os : List (List Int)} {st : List Int} {sz : Int} (h : keepR os st sz ≠ []) : ∃ q z : Nat, sz = (z : Int) ∧ 1 ≤ z ∧ z ≤ 16 ∧ q = os.length + 1 - z ∧ os.length ≤ 16 ∧ keepR os st sz = (os ++ [st]).drop q := by
  unfold keepR at h ⊢
  split at h
  · rename_i hc
    have hc2 := hc
    simp only [Bool.and_eq_true, decide_eq_true_eq] at hc
    obtain ⟨h1, h2, h3, h4⟩ := hc
    have h3 := inB_iff.1 h3
    obtain ⟨z, rfl⟩ := Int.eq_ofNat_of_zero_le (show 0 ≤ sz by omega)
    exact ⟨os.length + 1 - z, z, rfl, by omega, by omega, rfl, h1, by rw [if_pos hc2, Int.toNat_natCast]⟩
  · exact absurd rfl h
theorem drop_last {os : List (List Int)} {st : List Int} {q k : Nat} (hq : q ≤ os.length) : ((os ++ [st]).drop q).getD k [] = if q + k < os.length then os.getD (q + k) [] else if q + k = os.length then st else [] := by
  simp only [List.getD_eq_getElem?_getD, List.getElem?_drop]
  split
  · rename_i h; rw [List.getElem?_append_left h]
  · rw [List.getElem?_append_right (by omega)]
    split
    · rename_i h; rw [show q + k - os.length = 0 by omega]; rfl
    · rw [List.getElem?_eq_none (by simp; omega)]; rfl
theorem wrap64_small (k : Nat) (h : k ≤ 1000) : wrap64 (k : Int) = (k : Int) := IntWalk.wrap64_in _ (by omega)
theorem i64_small (k : Nat) (h : k ≤ 1000) : IntKind.i64.wrap (k : Int) = (k : Int) := IntWalk.i64_in _ (by omega)
set_option maxHeartbeats 1000000 in
theorem fnKeepState_walk (w : World) (A : Option Addr) (n c : Nat) (zs : List Int) (h : IsRow .u8 w A n c zs) :
    Calls Try.prog 10 #[.slice A n c] w fun e w' => e = .returned (.bool true) ∧ Below w.heap.size w w' := by
  by_cases hlong : 1048576 < n
  · go_enter Try.func10, Try.ntmps10
    go_wp2_with fail
    go_ret
    exact ⟨rfl, Below.refl _ _⟩
  have HI := Lib.hid h
  clear h
  go_enter Try.func10, Try.ntmps10
  go_wp2_with fail
  refine (drawKeepState_any A n c zs _ HI.out).mono ?_
  rintro e w1 ⟨A1, B1, c1, d1, os, st, sz, rfl, ⟨hx, hos, hod⟩, ⟨hst, hnl, hsl⟩, hb⟩
  have HX := Lib.hid hx
  have HS := Lib.hid hst
  have HBW := Lib.hid hb
  have hw1 := hb.size
  have hZ := Lib.hid (Zones.start w1)
  have heb := Lib.hid (fun k (hk : k < os.length) => show (os.getD k []).length ≤ 2000000 by have := hod k hk; omega)
  have hodh := Lib.hid hod
  obtain ⟨hr1, hr2⟩ := keepR_bd os st sz
  have hre := Lib.hid (fun k (hk : k < (keepR os st sz).length) => show ((keepR os st sz).getD k []).length ≤ 1000000000 by have := keepR_each hr2 k hk; omega)
  clear hx hst hb hod hr2
  go_wp2_with fail
  refine (keepState_impl _ _ _ _ _ _ os st sz _ (HX.out.below hZ.out.bel) (hZ.out.arg HS.out) hnl (by omega) (by omega) heb.out).mono ?_
  rintro e w' ⟨A', c', vs, rfl, o, b⟩
  replace hZ := Lib.hid (hZ.out.pushG o b)
  clear o b
  go_wp2_with fail
  refine (keepState_spec _ _ _ _ _ _ os st sz _ (HX.out.below hZ.out.bel) (hZ.out.arg HS.out) hnl (by omega) (by omega) heb.out).mono ?_
  rintro e w' ⟨A', c', vs, rfl, o, b⟩
  replace hZ := Lib.hid (hZ.out.pushG o b)
  clear o b
  go_wp2_with fail
  refine (sameRows_same _ _ _ _ _ _ _ (hZ.out.grd 1 rfl) (hZ.out.grd 0 rfl) (by omega) hre.out).mono ?_
  rintro e w' ⟨rfl, b⟩
  replace hZ := Lib.hid (hZ.out.below b)
  clear b
  by_cases hemp : keepR os st sz = []
  · have p2 : (((keepR os st sz).length : Int) == 0) = true := by rw [hemp]; rfl
    replace hemp := Lib.hid hemp
    go_wp2_with (go_at_call 30; refine (alive_any _).mono ?_; rintro e w' ⟨rfl, rfl⟩)
    go_ret
    exact ⟨rfl, HBW.out.trans (hZ.out.bel.mono hw1)⟩
  obtain ⟨q, z, rfl, hz1, hz2, hq, hol, hkr⟩ := keep_good hemp
  have p2 : (((keepR os st (z : Int)).length : Int) == 0) = false := by simp; exact hemp
  have hml : (keepR os st (z : Int)).length = os.length + 1 - q := by rw [hkr]; simp
  have hget := fun k => (congrArg (fun l => List.getD l k []) hkr).trans (drop_last (st := st) (k := k) (show q ≤ os.length by omega))
  have HR := Lib.hid (hZ.out.grd 1 rfl)
  have HO := Lib.hid (HX.out.below hZ.out.bel)
  clear hkr hemp
  generalize keepR os st (z : Int) = R at hZ HR p2 hml hget hre hr1
  obtain ⟨m, hm⟩ : ∃ m, m = R.length := ⟨_, rfl⟩
  have HGET := Lib.hid hget
  have HML := Lib.hid hm
  have hm1 : m = os.length + 1 - q := by omega
  have hmq : 1 ≤ m := by omega
  rw [← hm] at HR p2 ⊢
  clear hget hml hm hre hr1
  obtain ⟨W, hW⟩ : ∃ W, W = w' := ⟨_, rfl⟩
  subst hW
  replace hm1 := Lib.hid hm1
  replace hq := Lib.hid hq
  go_wp2_with fail
  go_loopw [8] (fun i wr => ∃ k : Nat, k + 1 ≤ m ∧ i = .int .i64 k ∧ Below W.heap.size W wr) (fun i _ => m - (intOf i).toNat)
  case atStart => exact ⟨0, hmq, rfl, Below.refl _ _⟩
  case round =>
    obtain ⟨k, hk, rfl, hbel⟩ := hrel
    have hz := hbel.size
    have hgk := HGET.out k
    obtain ⟨b, off, X1, x1, e1, hb1, c1, -, -, i1⟩ := (HR.out.below hbel).spot (show k < m by omega)
    rw [hgk] at c1 i1
    have HBEL := Lib.hid hbel
    by_cases hlt : k + 1 < m
    · have hql : q + k < os.length := by have := hm1.out; omega
      obtain ⟨b2, off2, X2, x2, e2, hb2, c2, -, -, i2⟩ := (HO.out.below hbel).spot hql
      rw [if_pos hql] at c1 i1
      have hdk := hodh.out (q + k) hql
      generalize os.getD (q + k) [] = row at c1 i1 c2 i2 hdk
      have q0 : (0 : Int) ≤ (k : Int) := by omega
      have q1 : (k : Int) < (m : Int) := by omega
      have q2 : (k : Int) < (m : Int) - 1 := by omega
      have r3 : (0 : Int) ≤ (os.length : Int) - (m : Int) + 1 + (k : Int) := by have := hm1.out; omega
      have r4 : (os.length : Int) - (m : Int) + 1 + (k : Int) < (os.length : Int) := by omega
      have hm17 : m ≤ 18 := by have := hm1.out; omega
      have w1 := IntWalk.i64_in ((os.length : Int) - (m : Int)) (by omega)
      have w2 := IntWalk.i64_in ((os.length : Int) - (m : Int) + 1) (by omega)
      have w3 := IntWalk.i64_in ((os.length : Int) - (m : Int) + 1 + (k : Int)) (by omega)
      have r5 : ((os.length : Int) - (m : Int) + 1 + (k : Int)).toNat = q + k := by have := hm1.out; have := hq.out; omega
      have hto := Lib.hid (sameInts_same X1 X2 row.length x1 x2 row wr.drew i1 i2 (by omega))
      have E1 := Lib.hid e1
      have E2 := Lib.hid e2
      clear hbel e1 e2 i1 i2 hgk
      rw [E1.out, E2.out]
      go_wp2_with fail
      go_region_held3 (fun w' => w'.cell? ⟨b, off + k, none⟩ = some (.slice X1 row.length x1) ∧ w'.cell? ⟨b2, off2 + (q + k), none⟩ = some (.slice X2 row.length x2)) (first | exact ⟨c1, c2⟩ | exact ⟨(b5.cell hb1).trans c1, (b5.cell hb2).trans c2⟩) ((go_at_call 32; refine (hto.out).mono ?_; rintro e w5 ⟨rfl, b5⟩))
      go_wp2_with fail
      go_roundw
      case rel => exact ⟨k + 1, by omega, by go_num, below_step HBEL.out.drew b5 hz⟩
      case measure => simp [intOf]; omega
    · have hmk : m = k + 1 := by omega
      have hql : ¬ (q + k < os.length) := by have := hm1.out; omega
      have hqe : q + k = os.length := by have := hm1.out; have := hq.out; omega
      rw [if_neg hql, if_pos hqe] at c1 i1
      have q0 : (0 : Int) ≤ (k : Int) := by omega
      have q2 : ¬ ((k : Int) < (m : Int) - 1) := by omega
      have hm17 : m ≤ 18 := by have := hm1.out; omega
      have hk1000 : k ≤ 1000 := by omega
      have hsz : (os.length : Int) ≤ 1000 := by omega
      have s0 : (0 : Int) ≤ (m : Int) - 1 := by omega
      have s1 : (m : Int) - 1 < (m : Int) := by omega
      have s2 : ((m : Int) - 1).toNat = k := by omega
      have hs := Lib.hid (sameInts_same X1 B1 st.length x1 d1 st wr i1 ((((HS.out.below (hZ.out.bel)).more hZ.out.bel.size).below hbel).more hz) (by omega))
      replace hZ := Lib.hid (hZ.out.below hbel)
      have E1 := Lib.hid e1
      have HMK := Lib.hid hmk
      clear hbel e1 i1 hgk hqe hql hmk
      by_cases hzl : (z : Int) ≤ (os.length : Int) + 1
      · have r6 : ((m : Int) == (z : Int)) = true := by have := hm1.out; have := hq.out; simp; omega
        rw [E1.out]
        go_wp2_with fail
        refine (hs.out).mono ?_
        rintro e w' ⟨rfl, b⟩
        replace hZ := Lib.hid (hZ.out.below b)
        clear b
        go_wp2_with fail
        go_ret
        exact ⟨rfl, HBW.out.trans (hZ.out.bel.mono hw1)⟩
      · have r6 : ((m : Int) == (os.length : Int) + 1) = true := by have := hm1.out; have := hq.out; simp; omega
        rw [E1.out]
        go_wp2_with fail
        refine (hs.out).mono ?_
        rintro e w' ⟨rfl, b⟩
        replace hZ := Lib.hid (hZ.out.below b)
        clear b
        go_wp2_with fail
        go_ret
        exact ⟨rfl, HBW.out.trans (hZ.out.bel.mono hw1)⟩
theorem ints1 (w : World) (y : Int) : Ints (w.alloc (.cells #[.int .i64 y] 3)) (w.alloc (.cells #[.int .i64 y] 3)).heap.size (some ⟨w.heap.size, 0, none⟩) 1 [y] := by
  refine ⟨by simp [iv], fun _ => ⟨_, rfl, by simp, fun j u hu => ?_⟩⟩
  match j, hu with
  | 0, hu => simp [iv] at hu; subst hu; simp [Addr.add, cell_new]
theorem gown_two {w : World} {base hi c : Nat} {A : Option Addr} {x y : List Int} {vs : List Value} (h : GOwn w base hi A c [x, y] vs) : ∃ g X0 c0 X1 c1, A = some ⟨g, 0, none⟩ ∧ g < w.heap.size ∧
    w.cell? ⟨g, 0, none⟩ = some (.slice X0 x.length c0) ∧ w.cell? ⟨g, 1, none⟩ = some (.slice X1 y.length c1) ∧ Ints w w.heap.size X0 x.length x ∧ Ints w w.heap.size X1 y.length y := by
  obtain ⟨g, cap, e, _, hgl⟩ := h.outer.form (by simp)
  injection e with e _ _
  subst e
  obtain ⟨b, off, X0, c0, e0, -, h0, -, -, i0⟩ := h.rd.spot (k := 0) (by simp)
  obtain ⟨b1, off1, X1, c1, e1, -, h1, -, -, i1⟩ := h.rd.spot (k := 1) (by simp)
  injection e0 with e0
  injection e0 with e0 e2
  injection e1 with e1
  injection e1 with e1 e3
  subst e0 e2 e1 e3
  exact ⟨g, X0, c0, X1, c1, rfl, hgl, h0, h1, i0, i1⟩
theorem keep_a : keepR [] [1] 2 = [[1]] := by decide
theorem keep_b : keepR [[1]] [2] 2 = [[1], [2]] := by decide
theorem keep_c {st : List Int} (h : stB st = true) : keepR [[1], [2]] st 2 = [[2], st] := by
  unfold keepR
  rw [if_pos (by rw [h]; decide)]
  rfl
theorem keep_d {st : List Int} (h : stB st = false) : keepR [[1], [2]] st 2 = [] := by
  unfold keepR
  rw [if_neg (by rw [h]; simp)]
set_option maxHeartbeats 1000000 in
theorem fnRingOrder_walk (w : World) (A : Option Addr) (n c : Nat) (zs : List Int) (h : IsRow .u8 w A n c zs) :
    Calls Try.prog 11 #[.slice A n c] w fun e w' => e = .returned (.bool true) ∧ Below w.heap.size w w' := by
  by_cases hlong : 1048576 < n
  · go_enter Try.func11, Try.ntmps11
    go_wp2_with fail
    go_ret
    exact ⟨rfl, Below.refl _ _⟩
  have HI := Lib.hid h
  clear h
  go_enter Try.func11, Try.ntmps11
  go_wp2_with fail
  refine (drawKeepState_any A n c zs _ HI.out).mono ?_
  rintro e w1 ⟨A1, B1, c1, d1, os, st, sz, rfl, -, ⟨hst, hnl, hsl⟩, hb⟩
  have HS := Lib.hid hst
  have HBW := Lib.hid hb
  have hw1 := hb.size
  have hZ := Lib.hid ((Zones.start w1).below ((Below.refl _ _).alloc (Nat.le_refl _) (.cells #[.int .i64 1] 3)))
  have hd2 : ∀ k, k < 2 → (([[1], [2]] : List (List Int)).getD k []).length ≤ 2000000 := fun k hk => by
    match k, hk with
    | 0, _ => simp
    | 1, _ => simp
  have hd1 : ∀ k, k < 1 → (([[1]] : List (List Int)).getD k []).length ≤ 2000000 := fun k hk => by
    match k, hk with
    | 0, _ => simp
  have hd3 : ∀ k, k < 2 → (([[2], st] : List (List Int)).getD k []).length ≤ 1000000000 := fun k hk => by
    match k, hk with
    | 0, _ => simp
    | 1, _ => simp; omega
  replace hd3 := Lib.hid hd3
  replace hd1 := Lib.hid hd1
  replace hd2 := Lib.hid hd2
  clear hst hb
  go_wp2_with fail
  refine ((keep_a) ▸ keepState_impl none _ 0 0 1 1 [] [1] 2 _ (grd_nil _) (ints1 _ 1) (by intro h; cases h) (by omega) (by omega) (fun k hk => by omega)).mono ?_
  rintro e w' ⟨A', c', vs, rfl, o, b⟩
  replace hZ := Lib.hid (hZ.out.pushG o b)
  clear o b
  replace hZ := Lib.hid (hZ.out.below ((Below.refl _ _).alloc (Nat.le_refl _) (.cells #[.int .i64 2] 3)))
  go_wp2_with fail
  refine ((keep_b) ▸ keepState_impl _ _ 1 _ 1 1 [[1]] [2] 2 _ (hZ.out.grd 0 rfl) (ints1 _ 2) (by intro h; cases h) (by omega) (by omega) hd1.out).mono ?_
  rintro e w' ⟨A', c', vs, rfl, o, b⟩
  replace hZ := Lib.hid (hZ.out.pushG o b)
  clear o b
  cases hsb : stB st
  · go_wp2_with fail
    refine ((keep_d hsb) ▸ keepState_impl _ _ 2 _ _ _ [[1], [2]] st 2 _ (hZ.out.grd 0 rfl) (hZ.out.arg HS.out) hnl (by omega) (by omega) hd2.out).mono ?_
    rintro e w' ⟨A', c', vs, rfl, o, b⟩
    replace hZ := Lib.hid (hZ.out.pushG o b)
    clear o b
    go_wp2_with fail
    refine ((keep_d hsb) ▸ keepState_spec _ _ 2 _ _ _ [[1], [2]] st 2 _ (hZ.out.grd 1 rfl) (hZ.out.arg HS.out) hnl (by omega) (by omega) hd2.out).mono ?_
    rintro e w' ⟨A', c', vs, rfl, o, b⟩
    replace hZ := Lib.hid (hZ.out.pushG o b)
    clear o b
    go_wp2_with fail
    refine (sameRows_same _ _ _ _ _ _ _ (hZ.out.grd 1 rfl) (hZ.out.grd 0 rfl) (by simp) (fun k hk => by simp at hk)).mono ?_
    rintro e w' ⟨rfl, b⟩
    replace hZ := Lib.hid (hZ.out.below b)
    clear b
    go_wp2_with (go_at_call 30; refine (alive_any _).mono ?_; rintro e w' ⟨rfl, rfl⟩)
    go_ret
    exact ⟨rfl, HBW.out.trans (hZ.out.bel.mono hw1)⟩
  · go_wp2_with fail
    refine ((keep_c hsb) ▸ keepState_impl _ _ 2 _ _ _ [[1], [2]] st 2 _ (hZ.out.grd 0 rfl) (hZ.out.arg HS.out) hnl (by omega) (by omega) hd2.out).mono ?_
    rintro e w' ⟨A', c', vs, rfl, o, b⟩
    replace hZ := Lib.hid (hZ.out.pushG o b)
    clear o b
    go_wp2_with fail
    refine ((keep_c hsb) ▸ keepState_spec _ _ 2 _ _ _ [[1], [2]] st 2 _ (hZ.out.grd 1 rfl) (hZ.out.arg HS.out) hnl (by omega) (by omega) hd2.out).mono ?_
    rintro e w' ⟨A', c', vs, rfl, o, b⟩
    replace hZ := Lib.hid (hZ.out.pushG o b)
    clear o b
    go_wp2_with fail
    refine (sameRows_same _ _ _ _ _ _ _ (hZ.out.grd 1 rfl) (hZ.out.grd 0 rfl) (by simp) hd3.out).mono ?_
    rintro e w' ⟨rfl, b⟩
    replace hZ := Lib.hid (hZ.out.below b)
    clear b
    obtain ⟨g, X0, x0, X1, x1, e, hgl, u0, u1, i0, i1⟩ := gown_two (hZ.out.gown 1 rfl)
    subst e
    obtain ⟨W, hW⟩ : ∃ W, W = w' := ⟨_, rfl⟩
    subst hW
    have hba : Below W.heap.size W (W.alloc (.cells #[.int .i64 2] 3)) := (Below.refl _ _).alloc (Nat.le_refl _) _
    have I0 := Lib.hid (i0.step (Nat.le_refl _) hba)
    have I1 := Lib.hid (i1.step (Nat.le_refl _) hba)
    have HBA := Lib.hid hba
    have HCA := Lib.hid ((hba.cell (p := ⟨g, 1, none⟩) hgl).trans u1)
    clear i0 i1 hba
    go_wp2_with fail
    refine (sameInts_same X0 _ 1 x0 1 [2] _ I0.out (ints1 _ 2) (by omega)).mono ?_
    rintro e w9 ⟨rfl, b⟩
    have u2 : w9.cell? ⟨g, 1, none⟩ = some (.slice X1 st.length x1) := (b.cell (p := ⟨g, 1, none⟩) (Nat.lt_of_lt_of_le hgl HBA.out.size)).trans HCA.out
    have I2 := Lib.hid (I1.out.step (Nat.le_refl _) b)
    replace hZ := Lib.hid ((hZ.out.below HBA.out).below b)
    clear b
    go_wp2_with fail
    refine (sameInts_same X1 B1 st.length x1 d1 st _ I2.out (hZ.out.arg HS.out) (by omega)).mono ?_
    rintro e w10 ⟨rfl, b⟩
    replace hZ := Lib.hid (hZ.out.below b)
    clear b
    go_wp2_with fail
    go_ret
    exact ⟨rfl, HBW.out.trans (hZ.out.bel.mono hw1)⟩
end Go.Proofs.Ytmdebahhlgfboaa
