/-
  FnBeamLine: the law.
-/
import Derived.Test.YtkcabllnlbcgdaaBeaL
import Derived.Test.YtkcabllnlbcgdaaBeaQ
import Derived.Test.YtkcabllnlbcgdaaBeamP
import Derived.Deep.RegionHeld3
namespace Go.Proofs.Ytkcabllnlbcgdaa
open Go.RowKit
set_option linter.unusedVariables false
set_option linter.unusedSimpArgs false
theorem iv_oneL (xs : List Int) : ∀ u ∈ iv xs, u.oneCell' = true := fun u hu => by
  simp only [iv, List.mem_map] at hu
  obtain ⟨z, _, rfl⟩ := hu
  rfl
theorem ints_cut {w : World} {B n b o c m : Nat} {xs : List Int} (h : Ints w B (some ⟨b, o, none⟩) n xs) (hm : c + m ≤ n) : Ints w B (some ⟨b, o + c, none⟩) m ((xs.drop c).take m) := by
  have hl : xs.length = n := by have := h.1; simpa [iv_len] using this
  refine ⟨by rw [iv_len, List.length_take, List.length_drop]; omega, fun hm0 => ?_⟩
  obtain ⟨ad, e, hb, hc⟩ := h.2 (by omega)
  injection e with e
  subst e
  refine ⟨_, rfl, hb, fun j u hj => ?_⟩
  have hjm : j < m := by
    rcases Nat.lt_or_ge j m with h1 | h1
    · exact h1
    · rw [List.getElem?_eq_none (by rw [iv_len, List.length_take]; omega)] at hj; cases hj
  have := hc (c + j) u (by simpa [iv, List.getElem?_take, hjm] using hj)
  rw [Addr.add_mid] at this ⊢
  rwa [Nat.add_assoc]
theorem beam_nil (f : Fld) (y : Int) : beamR f y [] = flR f y := by
  unfold beamR flR
  have : chgB [] = true := rfl
  rw [this, Bool.and_true]
  rfl
set_option maxRecDepth 20000 in
set_option maxHeartbeats 4000000 in
theorem fnBeamLine_walk (w : World) (A : Option Addr) (n c : Nat) (zs : List Int) (h : IsRow .u8 w A n c zs) :
    Calls Try.prog 4 #[.slice A n c] w fun e w' => e = .returned (.bool true) ∧ Below w.heap.size w w' := by
  by_cases hlong : 1048576 < n
  · go_enter Try.func4, Try.ntmps4
    go_wp2_with fail
    go_ret
    exact ⟨rfl, Below.refl _ _⟩
  have HI := Lib.hid h
  clear h
  go_enter Try.func4, Try.ntmps4
  go_wp2_with fail
  refine (drawBeamLine_any A n c zs _ HI.out).mono ?_
  rintro e w1 ⟨x, Y, A7, C7, ts, g, rfl, ⟨hs, hok⟩, ⟨hy0, hy1⟩, ⟨hcap, hcn⟩, ht, htl, hb⟩
  have hb2 : Below w1.heap.size w1 (w1.alloc (.cells x.cs 26)) := (Below.refl _ _).alloc (Nat.le_refl _) _
  have HF := Lib.hid (hs _ (Keep.of_below hb2))
  have BX := Lib.hid (fbox_new w1 x 26)
  have HT := Lib.hid ((ht.below hb2).more hb2.size)
  have HB := Lib.hid (below_step hb hb2 hb.size)
  clear hs hb hb2 ht hcap hcn
  obtain ⟨-, c0, c1, c2, c3, c4⟩ := BX.out
  unfold Fld.cs at *
  unfold Fld.val Fld.cs
  obtain ⟨L, hL⟩ : ∃ L, beamR x Y ts = L := ⟨_, rfl⟩
  have HLE := Lib.hid (show L.length ≤ 32 by rw [← hL]; exact beamR_len x Y ts)
  go_wp2_with fail
  refine (beamLine_impl x Y A7 _ C7 ts _ HF.out HT.out (by omega)).mono ?_
  rintro e w3 ⟨A8, c8, rfl, o3, b3⟩
  rw [hL] at o3 ⊢
  replace BX := Lib.hid (BX.out.below b3)
  replace HF := Lib.hid (HF.out.below b3)
  replace HT := Lib.hid ((HT.out.below b3).more (b3).size)
  replace HB := Lib.hid (below_step HB.out b3 HB.out.size)
  clear c0 c1 c2 c3 c4
  obtain ⟨-, c0, c1, c2, c3, c4⟩ := BX.out
  have HO := Lib.hid o3
  clear b3 o3
  go_wp2_with fail
  refine (beamLine_spec x Y A7 _ C7 ts _ HF.out HT.out (by omega)).mono ?_
  rintro e w4 ⟨A9, c9, rfl, o4, b4⟩
  rw [hL] at o4 ⊢
  replace BX := Lib.hid (BX.out.below b4)
  replace HF := Lib.hid (HF.out.below b4)
  replace HT := Lib.hid ((HT.out.below b4).more (b4).size)
  replace HB := Lib.hid (below_step HB.out b4 HB.out.size)
  clear c0 c1 c2 c3 c4
  obtain ⟨-, c0, c1, c2, c3, c4⟩ := BX.out
  replace HO := Lib.hid (own_below HO.out b4)
  replace o4 := Lib.hid o4
  clear b4
  go_wp2_with fail
  refine (sameInts_same _ _ _ _ _ L _ (own_ints HO.out) (own_ints o4.out) (by have := HLE.out; omega)).mono ?_
  rintro e w5 ⟨rfl, b5⟩
  replace BX := Lib.hid (BX.out.below b5)
  replace HF := Lib.hid (HF.out.below b5)
  replace HT := Lib.hid ((HT.out.below b5).more (b5).size)
  replace HB := Lib.hid (below_step HB.out b5 HB.out.size)
  clear c0 c1 c2 c3 c4
  obtain ⟨-, c0, c1, c2, c3, c4⟩ := BX.out
  replace HO := Lib.hid (own_below HO.out b5)
  clear b5 o4
  cases hv : (fieldB x && (inB Y 0 15 && chgB ts))
  · have hz : L = [] := by rw [← hL]; exact beamR_bad hv
    subst hz
    go_wp2_with (go_at_call 14; refine (aliveB _).mono ?_; rintro e w' ⟨rfl, rfl⟩)
    go_ret
    exact ⟨rfl, HB.out⟩
  simp only [Bool.and_eq_true] at hv
  obtain ⟨hf, hy, hc⟩ := hv
  have hcf := chgB_from hc
  have HLF := Lib.hid (show L = beamF x Y (x.sx, x.sy) 0 ts by rw [← hL]; exact beamR_good hf hy hc)
  have hL32 : L.length = 32 := by rw [HLF.out, beamF_len x Y ts (x.sx, x.sy) 0 hcf (by omega)]; rfl
  rw [hL32] at HO ⊢
  have HSX := (field_facts hf).2.2.2.2.1
  have HSY := (field_facts hf).2.2.2.2.2.1
  obtain ⟨P, hP⟩ : ∃ P, partsB x.sx x.sy ts = P := ⟨_, rfl⟩
  have HRU := Lib.hid (show Runs (lastS (x.sx, x.sy) ts) 0 P by rw [← hP]; exact parts_runs ts (x.sx, x.sy) 0 hcf (by omega))
  have hPl : P.length ≤ 9 := by rw [← hP]; exact Nat.le_trans (partsB_len ts x.sx x.sy) htl
  have HPR := Lib.hid (show partsR x.sx x.sy ts = P by unfold partsR; rw [inB_iff.2 HSX, inB_iff.2 HSY, hc, hP]; rfl)
  have HCF := Lib.hid hcf
  have HFV := Lib.hid hf
  have HYV := Lib.hid hy
  have HLL := Lib.hid hL32
  have HSS := Lib.hid (And.intro HSX HSY)
  clear hL hcf hf hy hc hL32 hP HLE HSX HSY
  have bxl := BX.out.lt
  have HFb := Lib.hid (HF.out).at
  have BXb := BX
  have HTb := HT
  have HOb := HO
  have HBb := HB
  go_wp2_with fail
  obtain ⟨W9, hW9⟩ : ∃ W9, W9 = w5.alloc (.cells #[.int .i64 0] 3) := ⟨_, rfl⟩
  rw [← hW9]
  have b9 : Below w5.heap.size w5 W9 := by rw [hW9]; exact (Below.refl _ _).alloc (Nat.le_refl _) _
  have HC := Lib.hid (show W9.ownsRow w5.heap.size 3 1 (.slice (some ⟨w5.heap.size, 0, none⟩) 1 1) 1 (iv [0]) by rw [hW9]; exact World.ownsRow_lit w5 #[.int .i64 0] 1 (Nat.le_refl _) (by simp only [maxLen]; omega) rfl)
  replace hW9 := Lib.hid hW9
  refine (beamParts_impl x.sx x.sy A7 _ C7 ts W9 ((HTb.out.below b9).more b9.size) (by omega)).mono ?_
  rintro e wP ⟨A9, c9, rfl, oP, bP⟩
  rw [HPR.out] at oP ⊢
  have D := Lib.hid (below_step b9 bP b9.size)
  replace HC := Lib.hid (own_below HC.out bP)
  have HP := Lib.hid oP
  clear b9 bP oP c0 c1 c2 c3 c4 BX HF HT HO HB
  have hsP := D.out.size
  go_upto_region 10 with (first | (at_builtin; refine push_cells _ rfl _ _ 23 3 (.int .i64 0) 1 8 rfl int_info Try.underlying23 rfl (by decide) (by decide) w5.heap.size 1 1 P.length c9 _ (some ⟨w5.heap.size, 0, none⟩) A9 (iv [0]) (iv P) rfl rfl HC.out (own_ints HP.out) (iv_oneL P) (own_nilc HP.out) (by omega) hsP ?_; intro A10 c10 w10 o10 g10; rw [← iv_append] at o10; have D10 := Lib.hid (D.out.trans (below_of_grown (B := w5.heap.size) g10 hsP (fun k hk => (HC.out.lt k hk).1))); replace o10 := Lib.hid o10; have hs10 := D10.out.size; clear g10) | (at_builtin; refine push_cells _ rfl _ _ 23 3 (.int .i64 0) 1 8 rfl int_info Try.underlying23 rfl (by decide) (by decide) w5.heap.size (1 + P.length) c10 1 1 _ A10 (some ⟨w10.heap.size, 0, none⟩) (iv ([0] ++ P)) (iv [32]) rfl rfl (o10.out.alloc _) (own_ints (World.ownsRow_lit w10 #[.int .i64 32] 1 (Nat.le_refl _) (by simp only [maxLen]; omega) rfl)) (iv_oneL [32]) (by intro e; cases e) (by omega) (Nat.le_trans hs10 (size_alloc_le _ _)) ?_; intro A11 c11 wc o11 g11; rw [← iv_append] at o11; have D11 := Lib.hid ((D10.out.alloc hs10 _).trans (below_of_grown (B := w5.heap.size) g11 (Nat.le_trans hs10 (size_alloc_le _ _)) (fun k hk => (o10.out.lt k hk).1))); replace o11 := Lib.hid o11; clear g11))
  obtain ⟨C, hC⟩ : ∃ C : List Int, C = 0 :: (P ++ [32]) := ⟨_, rfl⟩
  have HAT := Lib.hid (show ∀ k, k + 1 < 1 + P.length + 1 → ((0 : Int) ≤ C.getD k 0 ∧ C.getD k 0 ≤ 31) ∧ (C.getD k 0 ≤ C.getD (k + 1) 0 ∧ C.getD (k + 1) 0 ≤ 32) ∧ ∀ z : Int, C.getD k 0 ≤ z → z < C.getD (k + 1) 0 → lastS (x.sx, x.sy) ts z = lastS (x.sx, x.sy) ts (C.getD k 0) from fun k hk => by rw [hC]; exact Runs.at P 0 k HRU.out (by omega))
  have eC : ([0] ++ P ++ [32] : List Int) = C := by rw [hC]; rfl
  obtain ⟨N, hN⟩ : ∃ N, 1 + P.length + 1 = N := ⟨_, rfl⟩
  rw [eC] at o11
  rw [hN] at HAT o11 ⊢
  clear eC
  have hN2 : 2 ≤ N ∧ N ≤ 11 := by omega
  have HCi := Lib.hid (own_ints o11.out)
  have hc8 := own_cap HOb.out
  have HIc := Lib.hid ((own_ints HOb.out).below D11.out)
  have HTc := Lib.hid (HTb.out.below D11.out)
  have HFc := Lib.hid (HFb.out.below D11.out)
  have BXc := Lib.hid (BXb.out.at_ bxl (Nat.le_refl _) D11.out)
  have HBc := Lib.hid (below_step HBb.out D11.out HBb.out.size)
  have hsc := D11.out.size
  clear hN hC o11 D11 o10 D10 hs10 HC HP D hsP HTb HFb BXb HOb HBb HRU HPR
  go_wp2_with fail
  go_loopw [8] (fun i wr => ∃ k : Nat, i = .int .i64 k ∧ k + 1 ≤ N ∧ Below wc.heap.size wc wr) (fun i _ => N - (intOf i).toNat)
  case atStart => exact ⟨0, rfl, by omega, Below.refl _ _⟩
  case round =>
    obtain ⟨k, rfl, hk, hbel⟩ := hrel
    obtain ⟨wo, hwo⟩ : ∃ wo, wo = wr := ⟨_, rfl⟩
    subst hwo
    have hzr := hbel.size
    have bxr : w1.heap.size < wo.heap.size := by omega
    obtain ⟨-, c0, c1, c2, c3, c4⟩ := BXc.out.below hbel
    have HBEL := Lib.hid hbel
    clear hbel
    have s1 : IntKind.i64.wrap ((k : Int) + 1) = (k : Int) + 1 := IntWalk.i64_in _ (by omega)
    by_cases hlt : k + 1 < N
    · have q1 : (k : Int) + 1 < (N : Int) := by omega
      obtain ⟨⟨a0, a1⟩, ⟨a2, a3⟩, hrun⟩ := HAT.out k hlt
      obtain ⟨b, off, e1, hbb, hck⟩ := HCi.out.spot (show k < N by omega)
      obtain ⟨b', off', e2, -, hck1⟩ := HCi.out.spot hlt
      rw [e1] at e2
      injection e2 with e2
      injection e2 with e2 e3
      subst e1 e2 e3
      obtain ⟨cN, hcN⟩ := Int.eq_ofNat_of_zero_le a0
      obtain ⟨dN, hdN⟩ := Int.eq_ofNat_of_zero_le (show 0 ≤ C.getD (k + 1) 0 by omega)
      rw [hcN] at a1 a2 hck hrun
      rw [hdN] at a2 a3 hck1 hrun
      have HRUN := Lib.hid hrun
      clear hcN hdN a0 hrun
      go_upto_region 14 with (fail)
      obtain ⟨W13, hW13⟩ : ∃ W13, W13 = wo.alloc (.cells x.cs 26) := ⟨_, rfl⟩
      change Code.wp _ _ _ _ (wo.alloc (.cells x.cs 26))
      rw [← hW13]
      have HG := Lib.hid (show Blk W13 wo.heap.size 26 (x.sh (lastS (x.sx, x.sy) (ts.take 0) cN).1 (lastS (x.sx, x.sy) (ts.take 0) cN).2).cs by rw [hW13]; exact Blk.new _ _ _)
      have b13 := Lib.hid (show Below wo.heap.size wo W13 by rw [hW13]; exact (Below.refl _ _).alloc (Nat.le_refl _) _)
      clear hW13 c0 c1 c2 c3 c4
      go_wp2_with fail
      go_loopw [10] (fun j wr => ∃ m : Nat, j = .int .i64 m ∧ m ≤ ts.length ∧ Blk wr wo.heap.size 26 (x.sh (lastS (x.sx, x.sy) (ts.take m) cN).1 (lastS (x.sx, x.sy) (ts.take m) cN).2).cs ∧ Below wo.heap.size wo wr) (fun j _ => ts.length - (intOf j).toNat)
      case atStart => exact ⟨0, rfl, Nat.zero_le _, HG.out, b13.out⟩
      case round =>
        obtain ⟨m, rfl, hm, hgb, hbq⟩ := hrel
        have HBQ := Lib.hid (show Below wc.heap.size wc wr from HBEL.out.trans (hbq.mono hzr))
        have hzq := hbq.size
        obtain ⟨⟨p1, p2⟩, hS⟩ : ∃ S, lastS (x.sx, x.sy) (ts.take m) cN = S := ⟨_, rfl⟩
        rw [hS] at hgb
        have HGB := Lib.hid hgb
        have hgl := hgb.lt
        have HBW := Lib.hid hbq
        clear hgb hbq HG b13
        by_cases hmt : m < ts.length
        · obtain ⟨tb, to_, e5, htb, t0, t1, t2⟩ := Tri.spot (HTc.out.below (HBQ.out.mono hsc)) hmt
          subst e5
          have hcq := (HBQ.out.cell (p := ⟨b, off + k, none⟩) hbb).trans hck
          have hst := Lib.hid (lastS_snoc (s := (x.sx, x.sy)) (c := (cN : Int)) hmt)
          obtain ⟨⟨u0, u1, u2⟩, hT⟩ : ∃ t, ts.getD m (0, 0, 0) = t := ⟨_, rfl⟩
          rw [hT] at t0 t1 t2 hst
          rw [hS] at hst
          simp only at t0 t1 t2
          have q2 : (0 : Int) ≤ (m : Int) := by omega
          have q3 : (m : Int) < (ts.length : Int) := by omega
          have q4 : (0 : Int) ≤ (k : Int) := by omega
          have q5 : (k : Int) < (N : Int) := by omega
          have hne : ¬ tb = wo.heap.size := by omega
          have hne2 : ¬ wo.heap.size = tb := by omega
          replace hT := Lib.hid hT
          replace hS := Lib.hid hS
          go_wp2_with fail
          go_region_held3 (fun w' => w'.cell? ⟨tb, to_ + m * 3, none⟩ = some (.int .i64 u0) ∧ w'.cell? ⟨b, off + k, none⟩ = some (.int .i64 (cN : Int))) (exact ⟨t0, hcq⟩) (fail)
          obtain ⟨wv, hwv⟩ : ∃ wv, wv = wr.drew := ⟨_, rfl⟩
          rw [← hwv]
          have HGV := Lib.hid (show Blk wv wo.heap.size 26 (x.sh p1 p2).cs by rw [hwv]; exact HGB.out.drew)
          have HBV := Lib.hid (show Below wo.heap.size wo wv by rw [hwv]; exact HBW.out.drew)
          have t1 : wv.cell? ⟨tb, to_ + m * 3 + 1, none⟩ = some (.int .i64 u1) := by rw [hwv]; exact t1
          have t2 : wv.cell? ⟨tb, to_ + m * 3 + 2, none⟩ = some (.int .i64 u2) := by rw [hwv]; exact t2
          have g3 : wv.cell? ⟨wo.heap.size, 3, none⟩ = some (.int .i64 p1) := HGV.out.cell 3
          have g4 : wv.cell? ⟨wo.heap.size, 4, none⟩ = some (.int .i64 p2) := HGV.out.cell 4
          have f3 := HGV.out.frozen 3
          have f4 := HGV.out.frozen 4
          clear hwv t0 hcq HGB HBW
          by_cases hle : u0 ≤ (cN : Int)
          · have hst2 := Lib.hid (hst.out.trans (if_pos hle))
            go_wp2_with fail
            go_roundw
            case rel => exact ⟨m + 1, by go_num, by omega, by rw [hst2.out]; exact (HGV.out.set_ 3 _).set_ 4 _, (HBV.out.setCell (p := ⟨wo.heap.size, 3, none⟩) (Nat.le_refl _) _).setCell (p := ⟨wo.heap.size, 4, none⟩) (Nat.le_refl _) _⟩
            case measure => simp [intOf]; omega
          · have hst2 := Lib.hid (hst.out.trans (if_neg hle))
            go_wp2_with fail
            go_roundw
            case rel => exact ⟨m + 1, by go_num, by omega, by rw [hst2.out]; exact HGV.out, HBV.out⟩
            case measure => simp [intOf]; omega
        · obtain rfl : m = ts.length := by omega
          rw [List.take_length] at hS
          have q3 : ¬ ((ts.length : Int) < (ts.length : Int)) := by omega
          have hin := lastS_in (s := (x.sx, x.sy)) (c := (cN : Int)) HCF.out HSS.out
          rw [hS] at hin
          have g0 : wr.cell? ⟨wo.heap.size, 0, none⟩ = some (.int .i64 x.W) := HGB.out.cell 0
          have g1 : wr.cell? ⟨wo.heap.size, 1, none⟩ = some (.slice x.A x.n x.c) := HGB.out.cell 1
          have g2 : wr.cell? ⟨wo.heap.size, 2, none⟩ = some (.slice x.T x.tn x.tc) := HGB.out.cell 2
          have g3 : wr.cell? ⟨wo.heap.size, 3, none⟩ = some (.int .i64 p1) := HGB.out.cell 3
          have g4 : wr.cell? ⟨wo.heap.size, 4, none⟩ = some (.int .i64 p2) := HGB.out.cell 4
          obtain ⟨V, hV⟩ : ∃ V, V = lineP x p1 p2 Y 0 32 := ⟨_, rfl⟩
          have hV32 := Lib.hid (show V.length = 32 by rw [hV, lineP_len])
          have hfl := Lib.hid (show flR (x.sh p1 p2) Y = V by unfold flR; rw [fieldB_sh HFV.out hin.1 hin.2, HYV.out, hV]; rfl)
          have HPE := Lib.hid (show (L.drop cN).take (dN - cN) = (V.drop cN).take (dN - cN) by
            have h1 := part_eq (f := x) (y := Y) (ts := ts) (s := (x.sx, x.sy)) HCF.out (c := cN) (d := dN) (by omega) (by omega) HRUN.out
            rw [hS] at h1
            rw [HLF.out, hV]
            exact h1)
          replace hV := Lib.hid hV
          clear hin
          go_wp2_with fail
          refine (fieldLine_impl (x.sh p1 p2) Y _ ((((HFc.out.below (HBQ.out.mono hsc)).rd (by omega))).sh p1 p2)).mono ?_
          rintro e w20 ⟨A20, c20, rfl, o20, b20⟩
          rw [hfl.out, hV32.out] at o20
          rw [hfl.out, hV32.out]
          have HB20 := Lib.hid (HBQ.out.trans (b20.mono (by omega)))
          have hc20 := own_cap o20
          have HI20 := Lib.hid (own_ints o20)
          obtain ⟨vb, vo, ev, hvb, -⟩ := HI20.out.spot (show 0 < 32 by omega)
          obtain ⟨lb, lo, el, hlb, -⟩ := (HIc.out.below (HB20.out.mono hsc)).spot (show 0 < 32 by omega)
          subst ev el
          have hck2 := (HB20.out.cell (p := ⟨b, off + k, none⟩) hbb).trans hck
          have hck3 := (HB20.out.cell (p := ⟨b, off + (k + 1), none⟩) hbb).trans hck1
          clear g0 g1 g2 g3 g4 o20 b20
          have q2 : (0 : Int) ≤ (k : Int) := by omega
          have q4 : (0 : Int) ≤ (k : Int) + 1 := by omega
          have q5 : (k : Int) < (N : Int) := by omega
          have q6 : ((k : Int) + 1).toNat = k + 1 := by omega
          have q7 : ¬ (dN : Int) < (cN : Int) := by omega
          have q8 : ¬ (32 : Int) < (dN : Int) := by omega
          have q9 : (0 : Int) ≤ (cN : Int) := by omega
          have q10 : (dN : Int) ≤ (c8 : Int) := by omega
          have q11 : (dN : Int) ≤ (c20 : Int) := by omega
          have q12 : (0 : Int) ≤ (dN : Int) := by omega
          have q13 : ¬ c8 = cN := by omega
          have q14 : ¬ c20 = cN := by omega
          have g7 : decide ((dN : Int) < (cN : Int)) = false := decide_eq_false q7
          have g8 : decide ((32 : Int) < (dN : Int)) = false := decide_eq_false q8
          have g9 : decide (dN < cN) = false := decide_eq_false (by omega)
          have g10 : decide (32 < dN) = false := decide_eq_false (by omega)
          have q15 : ¬ dN < cN := by omega
          have q16 : ¬ 32 < dN := by omega
          have hbq : b < w20.heap.size := Nat.lt_of_lt_of_le hbb HB20.out.size
          have HI1 := (HIc.out.below (HB20.out.mono hsc)).more (show w5.heap.size ≤ w20.heap.size from Nat.le_trans hsc HB20.out.size)
          have HSI := Lib.hid (sameInts_same (some ⟨lb, lo + cN, none⟩) (some ⟨vb, vo + cN, none⟩) (dN - cN) (c8 - cN) (c20 - cN) ((L.drop cN).take (dN - cN)) w20.drew (ints_cut HI1 (by omega)) (by rw [HPE.out]; exact ints_cut HI20.out (by omega)) (by omega))
          clear HI1
          go_wp2_with fail
          go_region_held3 (fun w' => w'.cell? ⟨b, off + k, none⟩ = some (.int .i64 (cN : Int)) ∧ w'.cell? ⟨b, off + (k + 1), none⟩ = some (.int .i64 (dN : Int))) (first | exact ⟨hck2, hck3⟩ | exact ⟨(b21.cell hbq).trans hck2, (b21.cell hbq).trans hck3⟩) (((try go_simp); (try simp only [if_neg q13, if_neg q14]); go_at_call 16; refine HSI.out.mono ?_; rintro e w21 ⟨rfl, b21'⟩; have b21 : Below w20.heap.size w20 w21 := (Below.refl _ _).drew.trans b21'; clear b21'))
          have HB21 := Lib.hid (HB20.out.trans (b21.mono (HB20.out.size)))
          clear b21
          go_wp2_with fail
          go_roundw
          case rel => exact ⟨k + 1, by go_num, by omega, HB21.out⟩
          case measure => simp [intOf]; omega
    · obtain rfl : k + 1 = N := by omega
      have q1 : ¬ ((k : Int) + 1 < ((k + 1 : Nat) : Int)) := by omega
      have HFo := Lib.hid ((HFc.out.below (HBEL.out.mono hsc)).rd (show w5.heap.size ≤ wo.heap.size from Nat.le_trans hsc hzr))
      obtain ⟨V, hV⟩ : ∃ V, flR x Y = V := ⟨_, rfl⟩
      have hbn := Lib.hid (show beamR x Y [] = V by rw [beam_nil]; exact hV)
      have hVl := Lib.hid (show V.length ≤ 32 by rw [← hV]; exact flR_len x Y)
      replace hV := Lib.hid hV
      have HZ := Lib.hid (show Reads wo.drew wo.drew.heap.size 3 none 0 (iv (fl3 [])) from ⟨rfl, fun h => absurd h (Nat.lt_irrefl 0)⟩)
      go_wp2_with fail
      go_region_held3 (fun w' => w'.cell? ⟨w1.heap.size, 0, none⟩ = some (.int .i64 x.W) ∧ w'.cell? ⟨w1.heap.size, 1, none⟩ = some (.slice x.A x.n x.c) ∧ w'.cell? ⟨w1.heap.size, 2, none⟩ = some (.slice x.T x.tn x.tc) ∧ w'.cell? ⟨w1.heap.size, 3, none⟩ = some (.int .i64 x.sx) ∧ w'.cell? ⟨w1.heap.size, 4, none⟩ = some (.int .i64 x.sy)) (first | exact ⟨c0, c1, c2, c3, c4⟩ | exact ⟨(bq.cell bxr).trans c0, (bq.cell bxr).trans c1, (bq.cell bxr).trans c2, (bq.cell bxr).trans c3, (bq.cell bxr).trans c4⟩) ((first | (go_at_call 15; refine (beamLine_impl x Y none 0 0 [] wo.drew (HFo.out.below (Below.refl _ _).drew) HZ.out (by omega)).mono ?_; rintro e w31 ⟨A31, c31, rfl, o31, b31⟩; rw [hbn.out] at o31 ⊢; have bq : Below wo.heap.size wo w31 := (Below.refl _ _).drew.trans b31; replace o31 := Lib.hid o31; clear b31) | (go_at_call 17; refine (fieldLine_impl x Y w31 (HFo.out.below bq)).mono ?_; rintro e w32 ⟨A32, c32, rfl, o32, b32⟩; rw [hV.out] at o32 ⊢; have o33 := Lib.hid (own_below o31.out b32); have bq2 := below_step bq b32 bq.size; clear bq; have bq := bq2; clear bq2; replace o32 := Lib.hid o32; clear b32) | (go_at_call 16; refine (sameInts_same _ _ _ _ _ V w32 (own_ints o33.out) (own_ints o32.out) (by have := hVl.out; omega)).mono ?_; rintro e w33 ⟨rfl, b33⟩; have bq2 := below_step bq b33 bq.size; clear bq; have bq := bq2; clear bq2; clear b33)))
      have BQ := Lib.hid bq
      clear bq
      go_wp2_with fail
      go_ret
      exact ⟨rfl, below_step HBc.out (HBEL.out.trans (BQ.out.mono hzr)) HBc.out.size⟩
end Go.Proofs.Ytkcabllnlbcgdaa
