/-
  The law FnMetStop: a drawn machine, drawn stops; each stop by itself.
-/
import Derived.Test.YtgedfcccflobmaaDryS
import Derived.Test.YtgedfcccflobmaaMet
namespace Go.Proofs.Ytgedfcccflobmaa
open Go.RowKit
set_option linter.unusedVariables false
set_option linter.unusedSimpArgs false
set_option maxHeartbeats 400000 in
theorem aliveM (w : World) : Calls Try.prog 12 #[] w fun e w' => e = .returned (.bool true) ∧ w = w' := by
  have e8 : wrap64 (IntKind.i8.wrap 255) = -1 := by
    rw [show IntKind.i8.wrap 255 = -1 by decide]
    exact IntWalk.wrap64_in _ (by omega)
  go_enter Try.func12, Try.ntmps12
  go_wp2_with (first | (go_at_call 30; refine (within_any _ _ _ _).mono ?_; rintro e w' ⟨rfl, rfl⟩; rw [show inB 255 0 255 = true from rfl]) | go_in)
  go_ret
  exact ⟨rfl, rfl⟩
theorem metI_two (x : Mch) (ts : List Tri) : (metI x ts = -1 ∧ ∀ j, j < ts.length → metP x (ts.getD j (0, 0, 0)) = false) ∨ ∃ j, j < ts.length ∧ metI x ts = (j : Int) ∧ metP x (ts.getD j (0, 0, 0)) = true ∧ ∀ i, i < j → metP x (ts.getD i (0, 0, 0)) = false := by
  by_cases h : ts.findIdx (metP x) < ts.length
  · refine .inr ⟨ts.findIdx (metP x), h, by unfold metI; rw [if_pos h], ?_, fun i hi => ?_⟩
    · rw [List.getD_eq_getElem?_getD, List.getElem?_eq_getElem h, Option.getD_some]
      exact List.findIdx_getElem
    · rw [List.getD_eq_getElem?_getD, List.getElem?_eq_getElem (by omega), Option.getD_some]
      simpa using List.not_of_lt_findIdx hi
  · refine .inl ⟨by unfold metI; rw [if_neg h], fun j hj => ?_⟩
    rw [List.getD_eq_getElem?_getD, List.getElem?_eq_getElem hj, Option.getD_some]
    have := List.not_of_lt_findIdx (p := metP x) (xs := ts) (show j < ts.findIdx (metP x) by omega)
    simpa using this
theorem stops_one {ts : List Tri} {k : Nat} (h : stopsB ts = true) (hk : k < ts.length) : stopsB [ts.getD k (0, 0, 0)] = true := by
  unfold stopsB at h ⊢
  simp only [Bool.and_eq_true, decide_eq_true_eq, List.all_eq_true] at h ⊢
  refine ⟨by simp, fun t ht => ?_⟩
  rw [List.mem_singleton] at ht
  rw [ht, List.getD_eq_getElem?_getD, List.getElem?_eq_getElem hk, Option.getD_some]
  exact h.2 _ (List.getElem_mem hk)
theorem metR_one {x : Mch} {ts : List Tri} {k : Nat} (hm : machB x = true) (h : stopsB ts = true) (hk : k < ts.length) : metR x [ts.getD k (0, 0, 0)] = if metP x (ts.getD k (0, 0, 0)) then 0 else -1 := by
  unfold metR
  rw [hm, stops_one h hk, Bool.and_true, if_pos rfl]
  cases hp : metP x (ts.getD k (0, 0, 0))
  · have := metI_none (x := x) (ts := [ts.getD k (0, 0, 0)]) (by
      intro j hj
      have : j = 0 := by simp at hj; omega
      subst this
      exact hp)
    rw [this]; rfl
  · have := metI_at (x := x) (ts := [ts.getD k (0, 0, 0)]) (k := 0) (by simp) hp (fun j hj => absurd hj (Nat.not_lt_zero j))
    rw [this]; rfl
/-- One struct of a list. -/
theorem Tri.one {w : World} {B n k b off : Nat} {ts : List Tri} (h : Reads w B 3 (some ⟨b, off, none⟩) n (iv (fl3 ts))) (hk : k < n) : Reads w B 3 (some ⟨b, off + k * 3, none⟩) 1 (iv (fl3 [ts.getD k (0, 0, 0)])) := by
  obtain ⟨b', off', e, hb, c0, c1, c2⟩ := Tri.spot h hk
  injection e with e
  injection e with e1 e2
  subst e1 e2
  refine ⟨by simp [fl3, iv], fun _ => ⟨_, rfl, hb, fun j u hj => ?_⟩⟩
  match j, hj with
  | 0, hj => simp [fl3, iv] at hj; subst hj; simpa [Addr.add] using c0
  | 1, hj => simp [fl3, iv] at hj; subst hj; simpa [Addr.add] using c1
  | 2, hj => simp [fl3, iv] at hj; subst hj; simpa [Addr.add] using c2
  | j + 3, hj => simp [fl3, iv] at hj
set_option maxRecDepth 20000 in
set_option maxHeartbeats 4000000 in
theorem fnMetStop_walk (w : World) (A : Option Addr) (n c : Nat) (zs : List Int) (h : IsRow .u8 w A n c zs) :
    Calls Try.prog 5 #[.slice A n c] w fun e w' => e = .returned (.bool true) ∧ Below w.heap.size w w' := by
  by_cases hlong : 1048576 < n
  · go_enter Try.func5, Try.ntmps5
    go_wp2_with fail
    go_ret
    exact ⟨rfl, Below.refl _ _⟩
  have HI := Lib.hid h
  clear h
  go_enter Try.func5, Try.ntmps5
  go_wp2_with fail
  refine (drawMetStop_any A n c zs _ HI.out).mono ?_
  rintro e w1 ⟨x, A7, C7, ts, g, rfl, hs, hnil, ⟨hcap, hcn⟩, ht, htl, hb⟩
  have hb2 : Below w1.heap.size w1 (w1.alloc (.cells x.cs 28)) := (Below.refl _ _).alloc (Nat.le_refl _) _
  have HM := Lib.hid (hs _ (Keep.of_below hb2))
  have BX := Lib.hid (MBox.new w1 x 28)
  have HT := Lib.hid ((ht.below hb2).more hb2.size)
  have HB := Lib.hid (below_step hb hb2 hb.size)
  clear hs hb hb2 ht
  obtain ⟨⟨c0, c1, c2⟩, c3, c4, c5, c6, c7, c8⟩ := BX.out.all
  unfold Mch.cs at *
  unfold Mch.val Mch.cs
  obtain ⟨q, hq⟩ : ∃ q, metR x ts = q := ⟨_, rfl⟩
  have hqn : (q != q) = false := by simp
  go_wp2_with fail
  refine (metStop_impl x A7 _ C7 ts _ HM.out HT.out (by omega)).mono ?_
  rw [hq]
  rintro e w3 ⟨rfl, b3⟩
  replace BX := Lib.hid (BX.out.below b3)
  replace HM := Lib.hid (HM.out.below b3)
  replace HT := Lib.hid ((HT.out.below b3).more (b3).size)
  replace HB := Lib.hid (below_step HB.out b3 HB.out.size)
  clear c0 c1 c2 c3 c4 c5 c6 c7 c8
  obtain ⟨⟨c0, c1, c2⟩, c3, c4, c5, c6, c7, c8⟩ := BX.out.all
  clear b3
  go_wp2_with fail
  refine (metStop_spec x A7 _ C7 ts _ HM.out HT.out (by omega)).mono ?_
  rw [hq]
  rintro e w4 ⟨rfl, b4⟩
  replace BX := Lib.hid (BX.out.below b4)
  replace HM := Lib.hid (HM.out.below b4)
  replace HT := Lib.hid ((HT.out.below b4).more (b4).size)
  replace HB := Lib.hid (below_step HB.out b4 HB.out.size)
  clear c0 c1 c2 c3 c4 c5 c6 c7 c8
  obtain ⟨⟨c0, c1, c2⟩, c3, c4, c5, c6, c7, c8⟩ := BX.out.all
  clear b4
  go_wp2_with fail
  refine (machineValid_spec x _ HM.out).mono ?_
  rintro e w5 ⟨rfl, b5⟩
  replace BX := Lib.hid (BX.out.below b5)
  replace HM := Lib.hid (HM.out.below b5)
  replace HT := Lib.hid ((HT.out.below b5).more (b5).size)
  replace HB := Lib.hid (below_step HB.out b5 HB.out.size)
  clear c0 c1 c2 c3 c4 c5 c6 c7 c8
  obtain ⟨⟨c0, c1, c2⟩, c3, c4, c5, c6, c7, c8⟩ := BX.out.all
  clear b5
  cases hm : machB x
  · have hq1 : q = -1 := by rw [← hq]; unfold metR; rw [hm]; rfl
    subst hq1
    go_wp2_with (first | (go_at_call 12; refine (aliveM _).mono ?_; rintro e w' ⟨rfl, rfl⟩) | (go_at_call 24; refine (stopsValid_spec A7 _ C7 ts _ HT.out (by omega)).mono ?_; rintro e w7 ⟨rfl, b7⟩; rw [hsv]; replace HB := Lib.hid (below_step HB.out b7 HB.out.size); clear b7))
    go_ret
    exact ⟨rfl, HB.out⟩
  cases hsv : stopsB ts
  · have hq1 : q = -1 := by rw [← hq]; unfold metR; rw [hsv, Bool.and_false]; rfl
    subst hq1
    go_wp2_with (first | (go_at_call 12; refine (aliveM _).mono ?_; rintro e w' ⟨rfl, rfl⟩) | (go_at_call 24; refine (stopsValid_spec A7 _ C7 ts _ HT.out (by omega)).mono ?_; rintro e w7 ⟨rfl, b7⟩; rw [hsv]; replace HB := Lib.hid (below_step HB.out b7 HB.out.size); clear b7))
    go_ret
    exact ⟨rfl, HB.out⟩
  have hq2 : metI x ts = q := by rw [← hq]; unfold metR; rw [hm, hsv]; rfl
  have H2 := Lib.hid (metI_two x ts)
  rw [hq2] at H2
  replace hm := Lib.hid hm
  have HSV := Lib.hid hsv
  clear hq hq2
  go_wp2_with fail
  refine (stopsValid_spec A7 _ C7 ts _ HT.out (by omega)).mono ?_
  rintro e w7 ⟨rfl, b7⟩
  rw [hsv]
  clear hsv
  replace BX := Lib.hid (BX.out.below b7)
  replace HM := Lib.hid (HM.out.below b7)
  replace HT := Lib.hid ((HT.out.below b7).more (b7).size)
  replace HB := Lib.hid (below_step HB.out b7 HB.out.size)
  clear c0 c1 c2 c3 c4 c5 c6 c7 c8
  obtain ⟨⟨c0, c1, c2⟩, c3, c4, c5, c6, c7, c8⟩ := BX.out.all
  clear b7
  go_wp2_with fail
  go_loopw [6] (fun i wr => ∃ k : Nat, i = .int .i64 k ∧ k ≤ ts.length ∧ Below w7.heap.size w7 wr) (fun i _ => ts.length - (intOf i).toNat)
  case atStart => exact ⟨0, rfl, Nat.zero_le _, Below.refl _ _⟩
  case round =>
    obtain ⟨k, rfl, hk, hbel⟩ := hrel
    have BXr := Lib.hid (BX.out.below hbel)
    have HMr := Lib.hid (HM.out.below hbel)
    have HTr := Lib.hid ((HT.out.below hbel).more hbel.size)
    have HBL := Lib.hid hbel
    clear hbel c0 c1 c2 c3 c4 c5 c6 c7 c8
    have BXl := BXr.out.lt
    obtain ⟨⟨c0, c1, c2⟩, c3, c4, c5, c6, c7, c8⟩ := BXr.out.all
    by_cases hlt : k < ts.length
    · have q1 : (k : Int) < (ts.length : Int) := by omega
      obtain ⟨b, off, e1, hbl, -⟩ := Tri.spot HTr.out hlt
      subst e1
      have HO := Lib.hid (Tri.one HTr.out hlt)
      have hone := Lib.hid (metR_one hm.out HSV.out hlt)
      obtain ⟨o, ho⟩ : ∃ o, (if metP x (ts.getD k (0, 0, 0)) then (0 : Int) else -1) = o := ⟨_, rfl⟩
      rw [ho] at hone
      replace ho := Lib.hid ho
      have s1 : IntKind.i64.wrap ((k : Int) + 1) = (k : Int) + 1 := IntWalk.i64_in _ (by omega)
      have s0 : (0 : Int) ≤ (k : Int) := by omega
      have s2 : (k : Int) ≤ (k : Int) + 1 := by omega
      have s3 : (k : Int) + 1 ≤ (C7 : Int) := by omega
      have s4 : (0 : Int) ≤ (k : Int) + 1 := by omega
      have s5 : ¬ C7 = k := by omega
      have HC := Lib.hid (metStop_impl x (some ⟨b, off + k * 3, none⟩) 1 (C7 - k) [ts.getD k (0, 0, 0)] wr.drew (HMr.out.below (Below.refl _ _).drew) (HO.out.below (Below.refl _ _).drew) (by omega))
      rw [hone.out] at HC
      unfold Mch.val Mch.cs at HC
      go_wp2_with fail
      go_region_held3 (fun w' => (w'.cell? ⟨w1.heap.size, 0, none⟩ = some (.slice x.A x.n x.c) ∧ w'.cell? ⟨w1.heap.size, 1, none⟩ = some (.slice x.R x.rn x.rc) ∧ w'.cell? ⟨w1.heap.size, 2, none⟩ = some (.int .i64 x.bank)) ∧ w'.cell? ⟨w1.heap.size, 3, none⟩ = some (.int .i64 x.a) ∧ w'.cell? ⟨w1.heap.size, 4, none⟩ = some (.int .i64 x.pc) ∧ w'.cell? ⟨w1.heap.size, 5, none⟩ = some (.bool x.cy) ∧ w'.cell? ⟨w1.heap.size, 6, none⟩ = some (.slice x.B x.bn x.bc) ∧ w'.cell? ⟨w1.heap.size, 7, none⟩ = some (.bool x.st) ∧ w'.cell? ⟨w1.heap.size, 8, none⟩ = some (.int .i64 x.cyc)) (first | (with_reducible exact (BXr.out.below b9).all) | (with_reducible exact (BXr.out.below (Below.refl _ _).drew).all)) (((try go_simp); (try simp only [if_neg s5]); go_at_call 22; refine HC.out.mono ?_; rintro e w9 ⟨rfl, b9'⟩; have b9 : Below wr.heap.size wr w9 := (Below.refl _ _).drew.trans b9'; clear b9'))
      rcases H2.out with ⟨e, hf⟩ | ⟨j, hj, e, hp, hf⟩
      · obtain rfl : o = -1 := by rw [← ho.out, hf k hlt]; rfl
        subst e
        have r1 : ¬ ((k : Int) = -1) := by omega
        go_wp2_with fail
        go_roundw
        case rel => exact ⟨k + 1, by go_num, by omega, below_step HBL.out b9 HBL.out.size⟩
        case measure => simp [intOf]; omega
      · subst e
        by_cases hkj : k < j
        · obtain rfl : o = -1 := by rw [← ho.out, hf k hkj]; rfl
          have r1 : ¬ ((k : Int) = (j : Int)) := by omega
          have r2 : ¬ ((j : Int) < 0) := by omega
          have r3 : (k : Int) < (j : Int) := by omega
          go_wp2_with fail
          go_roundw
          case rel => exact ⟨k + 1, by go_num, by omega, below_step HBL.out b9 HBL.out.size⟩
          case measure => simp [intOf]; omega
        · by_cases hkj2 : k = j
          · subst hkj2
            obtain rfl : o = 0 := by rw [← ho.out, hp]; rfl
            have r2 : ¬ ((k : Int) < 0) := by omega
            go_wp2_with fail
            go_roundw
            case rel => exact ⟨k + 1, by go_num, by omega, below_step HBL.out b9 HBL.out.size⟩
            case measure => simp [intOf]; omega
          · have r1 : ¬ ((k : Int) = (j : Int)) := by omega
            have r2 : ¬ ((j : Int) < 0) := by omega
            have r3 : ¬ ((k : Int) < (j : Int)) := by omega
            go_wp2_with fail
            go_roundw
            case rel => exact ⟨k + 1, by go_num, by omega, below_step HBL.out b9 HBL.out.size⟩
            case measure => simp [intOf]; omega
    · have q1 : ¬ ((k : Int) < (ts.length : Int)) := by omega
      have q2 : q ≥ -1 := by rcases H2.out with ⟨e, _⟩ | ⟨j, _, e, _⟩ <;> omega
      have q3 : q < (ts.length : Int) := by rcases H2.out with ⟨e, _⟩ | ⟨j, _, e, _⟩ <;> omega
      go_wp2_with fail
      go_ret
      exact ⟨rfl, below_step HB.out HBL.out HB.out.size⟩
end Go.Proofs.Ytgedfcccflobmaa
