/-
  PatchState in plain words, and of the program and of the reference. No condition but that lengths stay in range.
-/
import Derived.Test.YtlbalepcjamhcaaDif
import Derived.Laws.CopyOwn
import Derived.Deep.RegionHeld3
namespace Go.Proofs.Ytlbalepcjamhcaa
open Go.RowKit
set_option linter.unusedVariables false
set_option linter.unusedSimpArgs false
attribute [local go_sem ↓] Go.wp_at_zero Go.wp_at_succ
def over (xs : List Int) (p : Nat) (ds : List Int) : List Int := xs.take p ++ (ds ++ xs.drop (p + ds.length))
theorem over_len {xs ds : List Int} {p : Nat} (h : p + ds.length ≤ xs.length) : (over xs p ds).length = xs.length := by simp [over]; omega
theorem over_nil (xs : List Int) (p : Nat) : over xs p [] = xs := by simp [over]
theorem over_set {xs ds : List Int} {p j : Nat} (h : p + ds.length ≤ xs.length) (hj : j < ds.length) : (over xs p (ds.take j)).set (p + j) (ds.getD j 0) = over xs p (ds.take (j + 1)) := by
  have hl : (ds.take j).length = j := by rw [List.length_take]; omega
  have hl1 : (ds.take (j + 1)).length = j + 1 := by rw [List.length_take]; omega
  have ht : (xs.take p).length = p := by rw [List.length_take]; omega
  have hd : ds.take (j + 1) = ds.take j ++ [ds.getD j 0] := by
    rw [List.take_add_one, List.getD_eq_getElem?_getD, List.getElem?_eq_getElem hj]; rfl
  unfold over
  rw [hl, hl1, List.set_append_right _ _ (by omega), ht, show p + j - p = j by omega, List.set_append_right _ _ (by omega), hl, Nat.sub_self, hd, List.drop_eq_getElem_cons (show p + j < xs.length by omega), List.set_cons_zero, List.append_assoc]
  rfl
def patOk (n p : Nat) (t : TP) : Bool := decide (0 ≤ t.1) && decide (t.1 ≤ (n : Int) - (p : Int)) && decide ((t.2.length : Int) ≤ (n : Int) - (p : Int) - t.1) && allB t.2
def patL (n : Nat) : List Int → Nat → List TP → Option (List Int)
  | out, p, [] => some out
  | out, p, t :: ts => if patOk n p t then patL n (over out (p + t.1.toNat) t.2) (p + t.1.toNat + t.2.length) ts else none
def patR (a : List Int) (ts : List TP) : Option (List Int) := if stB a then patL a.length a 0 ts else none
theorem patL_good {n p k : Nat} {out : List Int} {ts : List TP} (hk : k < ts.length) (h : patOk n p (ts.getD k (0, [])) = true) :
    patL n out p (ts.drop k) = patL n (over out (p + (ts.getD k (0, [])).1.toNat) (ts.getD k (0, [])).2) (p + (ts.getD k (0, [])).1.toNat + (ts.getD k (0, [])).2.length) (ts.drop (k + 1)) := by
  rw [List.drop_eq_getElem_cons hk]
  rw [List.getD_eq_getElem?_getD, List.getElem?_eq_getElem hk, Option.getD_some] at h ⊢
  simp only [patL]
  rw [if_pos h]
theorem patL_bad {n p k : Nat} {out : List Int} {ts : List TP} (hk : k < ts.length) (h : patOk n p (ts.getD k (0, [])) = false) : patL n out p (ts.drop k) = none := by
  rw [List.drop_eq_getElem_cons hk]
  rw [List.getD_eq_getElem?_getD, List.getElem?_eq_getElem hk, Option.getD_some] at h
  simp only [patL]
  rw [if_neg (by rw [h]; simp)]
theorem patL_done {n p k : Nat} {out : List Int} {ts : List TP} (hk : ts.length ≤ k) : patL n out p (ts.drop k) = some out := by rw [List.drop_eq_nil_of_le hk]; rfl
/-- What a call that returns a list of numbers and whether it could gives. -/
def GivesO (w : World) (r : Option (List Int)) (e : Ending) (w' : World) : Prop := ∃ A c, e = .returned (.tuple #[.slice A (r.getD []).length c, .bool r.isSome]) ∧ w'.ownsRow w.heap.size 3 1 (.slice A (r.getD []).length c) (r.getD []).length (iv (r.getD [])) ∧ Below w.heap.size w w'
theorem step_copy_own {ops : Array Oper} {o : Oper} {a : Act} {w : World} {K : Act → World → Prop} {Q : Exit → Act → World → Prop} {E : Prop} (hgd : o.guard = none) (d s : Operand)
    (ho : o.op = .call { callee := .builtin .copy, args := #[d, s], argTypes := #[33, 33] })
    (base n c p c2 dcap B : Nat) (A dp X : Option Addr) (xs ds : List Int) (hd : a.eval d = .slice dp (n - p) dcap) (hs : a.eval s = .slice X ds.length c2)
    (hown : w.ownsRow base 3 1 (.slice A n c) n (iv xs)) (hfit : p + ds.length ≤ n) (hdp : 0 < ds.length → dp = A.map (·.add p)) (hi : Ints w B X ds.length ds)
    (h : ∀ w', w'.ownsRow base 3 1 (.slice A n c) n (iv (over xs p ds)) → w.grownBy w' (Value.slice A n c).ownBlock → K (a.put o.dst (.int .i64 ds.length)) w') :
    if Region.wanted o (yielded ops a.tmps) = true then Oper.wp Try.prog o a w K Q else E := by
  have hw : Region.wanted o (yielded ops a.tmps) = true := by simp [Region.wanted, hgd]
  rw [if_pos hw]
  have hu := Try.underlying33
  have hsz : (Try.prog.info? 3).map (·.size) = some 1 := by kernel_rfl
  by_cases h0 : ds.length = 0
  · obtain rfl : ds = [] := List.eq_nil_of_length_eq_zero h0
    have hrun := run_copy_none (P := Try.prog) w 33 33 o.type 3 dp X (n - p) dcap 0 c2 hu hsz (by simp)
    unfold Oper.wp
    simp [execOp, ho, resolve, invoke, builtin, hd, hs, hrun, Result.andThen]
    exact h w (by rw [over_nil]; exact hown) (World.grownBy.refl _ _)
  · obtain ⟨h1, h2⟩ := hown
    rcases h2 with ⟨_, h2⟩ | ⟨g, cap, cur, e1, hbg, hg, hnc, hcap, hcs, htk⟩
    · omega
    injection e1 with e1 _ e3
    subst e1 e3
    obtain ⟨ad, rfl, _, hc⟩ := hi.2 (by omega)
    have hdp := hdp (by omega)
    simp only [Option.map_some, Addr.add] at hdp
    have hdp2 : dp = some ⟨g, p, none⟩ := by
      rw [hdp]; split
      · rename_i hp0; subst hp0; rfl
      · simp
    subst hdp2
    have hl : (iv ds).length = ds.length := iv_len ds
    have hrun := run_copy_row (P := Try.prog) w 33 33 o.type 3 g p (n - p) dcap ad ds.length c2 cur 3 (iv ds) hu hsz hg (by rw [hl]; simp only [Nat.min_def]; split <;> omega) hc (by rw [hl]; omega)
      (by intro u hu; simp only [iv, List.mem_map] at hu; obtain ⟨z, _, rfl⟩ := hu; rfl)
    unfold Oper.wp
    simp [execOp, ho, resolve, invoke, builtin, hd, hs, hrun, Result.andThen]
    rw [hl]
    have hlc : cur.toList.length = c := by simpa using hcs
    simp only [Nat.mul_one] at htk
    have hlx : xs.length = n := by have := h1; simp [iv_len] at this; omega
    refine h _ ⟨by rw [iv_len, over_len (by omega)]; omega, .inr ⟨g, c, _, rfl, hbg, setRow_heap w g cur _ _ _ hg, hnc, hcap, by simp; omega, ?_⟩⟩ ?_
    · simp only [List.toList_toArray, Nat.mul_one]
      have e1 : iv (over xs p ds) = (cur.toList.take n).take p ++ (iv ds ++ (cur.toList.take n).drop (p + ds.length)) := by
        rw [htk]; simp only [over, iv, List.map_append, List.map_take, List.map_drop]
      rw [e1, List.take_take, Nat.min_eq_left (by omega), List.drop_take, List.take_append, List.take_append, List.length_take, hlc, hl, Nat.min_eq_left (show p ≤ c by omega), List.take_of_length_le (show (cur.toList.take p).length ≤ n by rw [List.length_take]; omega), List.take_of_length_le (show (iv ds).length ≤ n - p by omega), show n - p - ds.length = n - (p + ds.length) by omega]
    · exact ⟨rfl, rfl, rfl, by simp [World.setRow], fun k hk hne => setRow_other w g k _ (by intro e; subst e; exact hne rfl)⟩
set_option maxHeartbeats 4000000 in
theorem patchState_impl (A B : Option Addr) (n c m d : Nat) (a : List Int) (ts : List TP) (w : World) (ha : Ints w w.heap.size A n a) (hA : A = none → c = 0) (hp : PRd w B m ts) (hn : n ≤ 1000000000) (hm : m ≤ 1000000000) (hd : ∀ k, k < m → (ts.getD k (0, [])).2.length ≤ 1000000000) :
    Calls Try.prog 26 #[.slice A n c, .slice B m d] w (GivesO w (patR a ts)) := by
  have hl := ha.len
  have HA := Lib.hid ha
  have HP := Lib.hid hp
  have HD := Lib.hid hd
  clear ha hp hd
  cases sa : stB a
  · rw [show patR a ts = none by simp [patR, sa]]
    go_enter Try.func26, Try.ntmps26
    go_wp2_with (go_at_call 39; refine (isState_any _ _ _ a _ HA.out hn).mono ?_; rintro e w' ⟨rfl, rfl⟩; rw [sa])
    refine bodyPost_ret (results_tmp2 (by rfl) _ _ _) rfl ?_
    exact ⟨none, 0, rfl, World.ownsRow_nil _ _ _ _, Below.refl _ _⟩
  have hr : patR a ts = patL n a 0 ts := by unfold patR; rw [if_pos sa, hl]
  rw [hr]
  replace hr := Lib.hid hr
  have hts := HP.out.1
  go_enter Try.func26, Try.ntmps26
  go_wp2_with (go_at_call 39; refine (isState_any _ _ _ a _ HA.out hn).mono ?_; rintro e w' ⟨rfl, rfl⟩; rw [sa])
  refine (clone_any _ _ _ a _ HA.out hn hA).mono ?_
  rintro e w1 ⟨A1, c1, rfl, o1, b1⟩
  have hc1 := own_cap o1
  rw [hl] at o1 hc1 ⊢
  have HO1 := Lib.hid o1
  have HB1 := Lib.hid b1
  clear o1 b1
  go_wp2_with fail
  go_loopw [7, 17] (fun at_ i wr => ∃ (k p : Nat) (xs : List Int), k ≤ m ∧ p ≤ n ∧ i = .int .i64 k ∧ at_ = .int .i64 p ∧ wr.ownsRow w.heap.size 3 1 (.slice A1 n c1) n (iv xs) ∧ patL n a 0 ts = patL n xs p (ts.drop k) ∧ Below w.heap.size w wr) (fun _ i _ => m - (intOf i).toNat)
  case atStart => exact ⟨0, 0, a, Nat.zero_le _, Nat.zero_le _, rfl, rfl, HO1.out, by simp, HB1.out⟩
  case round =>
    obtain ⟨k, p, xs, hk, hp, rfl, rfl, hown, hall, hbw⟩ := hrel
    by_cases hlt : k < m
    · obtain ⟨b, off, X, cx, e1, hb1, y0, y1, -, hXn, i1⟩ := (HP.out.below hbw).spot hlt
      have hko : k < ts.length := by omega
      have hdk := HD.out k hlt
      obtain ⟨t, ht⟩ : ∃ t, t = ts.getD k (0, []) := ⟨_, rfl⟩
      rw [← ht] at y0 y1 i1 hdk
      obtain ⟨s, ds⟩ := t
      simp only at y0 y1 i1 hdk
      have q0 : (0 : Int) ≤ (k : Int) := by omega
      have q1 : (k : Int) < (m : Int) := by omega
      have hsz := hbw.size
      have HO := Lib.hid hown
      have HBW := Lib.hid hbw
      have HI := Lib.hid i1
      have HT := Lib.hid ht
      have E1 := Lib.hid e1
      clear hown hbw i1 ht e1 hXn
      rw [E1.out]
      have HV := Lib.hid (show ∃ V, V = wr.alloc (.cells #[.int .i64 s, .slice X ds.length cx] 45) from ⟨_, rfl⟩)
      obtain ⟨V, hV⟩ := HV.out
      have HIV := Lib.hid (show Ints V V.heap.size X ds.length ds by rw [hV]; exact HI.out.step (Nat.le_refl _) (by go_grown))
      have HBV := Lib.hid (show Below w.heap.size w V by rw [hV]; exact HBW.out.alloc HBW.out.size _)
      have HOV := Lib.hid (show V.drew.ownsRow w.heap.size 3 1 (.slice A1 n c1) n (iv xs) by rw [hV]; exact HO.out.alloc _)
      have pl1 : V.cell? ⟨wr.heap.size, 1, none⟩ = some (.slice X ds.length cx) := by rw [hV]; exact cell_new _ _ _ 1
      have pl0 : V.cell? ⟨wr.heap.size, 0, none⟩ = some (.int .i64 s) := by rw [hV]; exact cell_new _ _ _ 0
      have hvl : wr.heap.size < V.heap.size := by rw [hV]; simp
      have hneb : some wr.heap.size ≠ (Value.slice A1 n c1).ownBlock := fun e => by have := (HO.out.lt _ e.symm).2; omega
      replace hV := Lib.hid hV
      by_cases k1 : s < 0
      · have hno := patL_bad (n := n) (p := p) (out := xs) hko (by rw [← HT.out]; simp [patOk]; omega)
        rw [hno] at hall
        have HALL := Lib.hid hall
        clear hall hno
        go_wp2_with (go_at_call 43; rw [← hV.out]; refine (allBytes_any _ _ _ ds _ HIV.out hdk).mono ?_; rintro e w' ⟨rfl, rfl⟩; rw [hab])
        refine bodyPost_ret (results_tmp2 (by rfl) _ _ _) rfl ?_
        rw [HALL.out]
        exact ⟨none, 0, rfl, World.ownsRow_nil _ _ _ _, by first | exact HBV.out | exact HBW.out.alloc HBW.out.size _⟩
      by_cases k2 : s > (n : Int) - (p : Int)
      · have hno := patL_bad (n := n) (p := p) (out := xs) hko (by rw [← HT.out]; simp [patOk]; omega)
        rw [hno] at hall
        have HALL := Lib.hid hall
        clear hall hno
        go_wp2_with (go_at_call 43; rw [← hV.out]; refine (allBytes_any _ _ _ ds _ HIV.out hdk).mono ?_; rintro e w' ⟨rfl, rfl⟩; rw [hab])
        refine bodyPost_ret (results_tmp2 (by rfl) _ _ _) rfl ?_
        rw [HALL.out]
        exact ⟨none, 0, rfl, World.ownsRow_nil _ _ _ _, by first | exact HBV.out | exact HBW.out.alloc HBW.out.size _⟩
      by_cases k3 : (ds.length : Int) > (n : Int) - (p : Int) - s
      · have hno := patL_bad (n := n) (p := p) (out := xs) hko (by rw [← HT.out]; simp [patOk]; omega)
        rw [hno] at hall
        have HALL := Lib.hid hall
        clear hall hno
        go_wp2_with (go_at_call 43; rw [← hV.out]; refine (allBytes_any _ _ _ ds _ HIV.out hdk).mono ?_; rintro e w' ⟨rfl, rfl⟩; rw [hab])
        refine bodyPost_ret (results_tmp2 (by rfl) _ _ _) rfl ?_
        rw [HALL.out]
        exact ⟨none, 0, rfl, World.ownsRow_nil _ _ _ _, by first | exact HBV.out | exact HBW.out.alloc HBW.out.size _⟩
      cases hab : allB ds
      · have hno := patL_bad (n := n) (p := p) (out := xs) hko (by rw [← HT.out]; simp [patOk, hab])
        rw [hno] at hall
        have HALL := Lib.hid hall
        clear hall hno
        go_wp2_with (go_at_call 43; rw [← hV.out]; refine (allBytes_any _ _ _ ds _ HIV.out hdk).mono ?_; rintro e w' ⟨rfl, rfl⟩; rw [hab])
        refine bodyPost_ret (results_tmp2 (by rfl) _ _ _) rfl ?_
        rw [HALL.out]
        exact ⟨none, 0, rfl, World.ownsRow_nil _ _ _ _, by first | exact HBV.out | exact HBW.out.alloc HBW.out.size _⟩
      have hgo := patL_good (n := n) (p := p) (out := xs) hko (by rw [← HT.out]; simp [patOk, hab]; omega)
      rw [← HT.out] at hgo
      simp only at hgo
      rw [hgo] at hall
      obtain ⟨sn, rfl⟩ := Int.eq_ofNat_of_zero_le (show 0 ≤ s by omega)
      rw [Int.toNat_natCast] at hall
      have HALL := Lib.hid hall
      clear hgo hall
      have hfit : p + sn + ds.length ≤ n := by omega
      have r1 : (p : Int) + (sn : Int) ≤ (c1 : Int) := by omega
      have r0 : (0 : Int) ≤ (p : Int) + (sn : Int) := by omega
      have r4 : IntKind.i64.wrap ((p : Int) + (sn : Int) + (ds.length : Int)) = (p : Int) + (sn : Int) + (ds.length : Int) := IntWalk.i64_in _ (by omega)
      have r3 : ((p : Int) + (sn : Int)).toNat = p + sn := by omega
      have r2 : (p : Int) + (sn : Int) ≤ (n : Int) := by omega
      by_cases hcc : c1 = p + sn
      · have hds : ds.length = 0 := by omega
        have HDS := Lib.hid hds
        clear hds
        subst hcc
        go_wp2_with (go_at_call 43; rw [← hV.out]; refine (allBytes_any _ _ _ ds _ HIV.out hdk).mono ?_; rintro e w' ⟨rfl, rfl⟩; rw [hab])
        go_region_held3 (fun w' => w'.cell? ⟨wr.heap.size, 1, none⟩ = some (.slice X ds.length cx)) (first | exact pl1 | exact grown_cell g5 hvl hneb pl1) ((refine step_copy_own (by rfl) _ _ (by rfl) w.heap.size n (p + sn) (p + sn) cx _ V.heap.size A1 _ X xs ds (by rw [show n - (p + sn) = 0 by omega]; rfl) (by rfl) HOV.out hfit (fun h => absurd h (by have := HDS.out; omega)) HIV.out ?_; intro w5 o5 g5))
        replace o5 := Lib.hid o5
        have hb5 := Lib.hid (HBV.out.drew.grown g5 HBV.out.size (fun q hq => (HO.out.lt q hq).1))
        clear g5
        go_wp2_with fail
        go_roundw
        case rel => exact ⟨k + 1, p + sn + ds.length, over xs (p + sn) ds, by omega, hfit, by go_num, by go_num, o5.out, HALL.out, hb5.out⟩
        case measure => simp [intOf]; omega
      · go_wp2_with (go_at_call 43; rw [← hV.out]; refine (allBytes_any _ _ _ ds _ HIV.out hdk).mono ?_; rintro e w' ⟨rfl, rfl⟩; rw [hab])
        go_region_held3 (fun w' => w'.cell? ⟨wr.heap.size, 1, none⟩ = some (.slice X ds.length cx)) (first | exact pl1 | exact grown_cell g5 hvl hneb pl1) ((refine step_copy_own (by rfl) _ _ (by rfl) w.heap.size n c1 (p + sn) cx _ V.heap.size A1 _ X xs ds (by rfl) (by rfl) HOV.out hfit (fun _ => rfl) HIV.out ?_; intro w5 o5 g5))
        replace o5 := Lib.hid o5
        have hb5 := Lib.hid (HBV.out.drew.grown g5 HBV.out.size (fun q hq => (HO.out.lt q hq).1))
        clear g5
        go_wp2_with fail
        go_roundw
        case rel => exact ⟨k + 1, p + sn + ds.length, over xs (p + sn) ds, by omega, hfit, by go_num, by go_num, o5.out, HALL.out, hb5.out⟩
        case measure => simp [intOf]; omega
    · obtain rfl : k = m := by omega
      rw [patL_done (by omega)] at hall
      go_wp2
      refine bodyPost_ret (results_tmp2 (by rfl) _ _ _) rfl ?_
      rw [hall]
      have hlx := own_len hown
      rw [hlx] at hown ⊢
      exact ⟨A1, c1, rfl, hown, hbw⟩
set_option maxHeartbeats 4000000 in
theorem patchState_spec (A B : Option Addr) (n c m d : Nat) (a : List Int) (ts : List TP) (w : World) (ha : Ints w w.heap.size A n a) (hA : A = none → c = 0) (hp : PRd w B m ts) (hn : n ≤ 1000000000) (hm : m ≤ 1000000000) (hd : ∀ k, k < m → (ts.getD k (0, [])).2.length ≤ 1000000000) :
    Calls Try.prog 25 #[.slice A n c, .slice B m d] w (GivesO w (patR a ts)) := by
  have hl := ha.len
  have HA := Lib.hid ha
  have HP := Lib.hid hp
  have HD := Lib.hid hd
  clear ha hp hd
  cases sa : stB a
  · rw [show patR a ts = none by simp [patR, sa]]
    go_enter Try.func25, Try.ntmps25
    go_wp2_with (go_at_call 38; refine (l16Bytes_any _ _ _ a _ HA.out hn).mono ?_; rintro e w' ⟨rfl, rfl⟩; rw [sa])
    refine bodyPost_ret (results_tmp2 (by rfl) _ _ _) rfl ?_
    exact ⟨_, 0, rfl, World.ownsRow_lit w #[] 0 (Nat.le_refl _) (by simp [maxLen]) rfl, by go_grown⟩
  have hr : patR a ts = patL n a 0 ts := by unfold patR; rw [if_pos sa, hl]
  rw [hr]
  replace hr := Lib.hid hr
  have hts := HP.out.1
  have hba : Below w.heap.size w (w.alloc (.cells #[] 3)) := by go_grown
  have HO0 := Lib.hid (show (w.alloc (.cells #[] 3)).ownsRow w.heap.size 3 1 (.slice (some ⟨w.heap.size, 0, none⟩) 0 0) 0 (iv []) from World.ownsRow_lit w #[] 0 (Nat.le_refl _) (by simp [maxLen]) rfl)
  go_enter Try.func25, Try.ntmps25
  go_wp2_with (first | (go_at_call 38; refine (l16Bytes_any _ _ _ a _ HA.out hn).mono ?_; rintro e w' ⟨rfl, rfl⟩; rw [sa]) | (at_builtin; refine push_list _ rfl _ _ rfl w.heap.size 0 0 n c w.heap.size _ A [] a rfl rfl HO0.out (HA.out.below hba) hA (by omega) (by simp) ?_; intro A1 c1 w1 o1 b1; rw [List.nil_append, Nat.zero_add] at o1; rw [Nat.zero_add]; have HO1 := Lib.hid o1; have HB1 := Lib.hid (hba.trans b1); clear o1 b1))
  have hc1 := own_cap HO1.out
  go_loopw [7, 8] (fun at_ i wr => ∃ (k p : Nat) (xs : List Int), k ≤ m ∧ p ≤ n ∧ i = .int .i64 k ∧ at_ = .int .i64 p ∧ wr.ownsRow w.heap.size 3 1 (.slice A1 n c1) n (iv xs) ∧ patL n a 0 ts = patL n xs p (ts.drop k) ∧ Below w.heap.size w wr) (fun _ i _ => m - (intOf i).toNat)
  case atStart => exact ⟨0, 0, a, Nat.zero_le _, Nat.zero_le _, rfl, rfl, HO1.out, by simp, HB1.out⟩
  case round =>
    obtain ⟨k, p, xs, hk, hp, rfl, rfl, hown, hall, hbw⟩ := hrel
    by_cases hlt : k < m
    · obtain ⟨b, off, X, cx, e1, hb1, z0, z1, -, hXn, i1⟩ := HP.out.spot hlt
      have y0 := (hbw.cell hb1).trans z0
      have y1 := (hbw.cell hb1).trans z1
      have hko : k < ts.length := by omega
      have hdk := HD.out k hlt
      obtain ⟨t, ht⟩ : ∃ t, t = ts.getD k (0, []) := ⟨_, rfl⟩
      rw [← ht] at y0 y1 i1 hdk
      obtain ⟨s, ds⟩ := t
      simp only at y0 y1 i1 hdk
      have q0 : (0 : Int) ≤ (k : Int) := by omega
      have q1 : (k : Int) < (m : Int) := by omega
      have hsz := hbw.size
      have HO := Lib.hid hown
      have HBW := Lib.hid hbw
      have HI0 := Lib.hid i1
      have HT := Lib.hid ht
      have E1 := Lib.hid e1
      clear hown hbw i1 ht e1 hXn z0 z1
      rw [E1.out]
      have HV := Lib.hid (show ∃ V, V = wr.alloc (.cells #[.int .i64 s, .slice X ds.length cx] 45) from ⟨_, rfl⟩)
      obtain ⟨V, hV⟩ := HV.out
      have HBV := Lib.hid (show Below w.heap.size w V by rw [hV]; exact HBW.out.alloc HBW.out.size _)
      have HIV := Lib.hid ((HI0.out.below HBV.out).more HBV.out.size)
      have HOV := Lib.hid (show V.ownsRow w.heap.size 3 1 (.slice A1 n c1) n (iv xs) by rw [hV]; exact HO.out.alloc _)
      have pl1 : V.cell? ⟨wr.heap.size, 1, none⟩ = some (.slice X ds.length cx) := by rw [hV]; exact cell_new _ _ _ 1
      have pl0 : V.cell? ⟨wr.heap.size, 0, none⟩ = some (.int .i64 s) := by rw [hV]; exact cell_new _ _ _ 0
      have hvl : wr.heap.size < V.heap.size := by rw [hV]; simp
      have hneb : some wr.heap.size ≠ (Value.slice A1 n c1).ownBlock := fun e => by have := (HO.out.lt _ e.symm).2; omega
      replace hV := Lib.hid hV
      cases hin : inB s 0 ((n : Int) - (p : Int))
      · have hno := patL_bad (n := n) (p := p) (out := xs) hko (by rw [← HT.out]; rw [inB_not] at hin; simp [patOk]; omega)
        rw [hno] at hall
        have HALL := Lib.hid hall
        clear hall hno
        go_wp2_with (first | (go_at_call 41; rw [← hV.out]; refine (l1In_any _ _ _ _).mono ?_; rintro e w' ⟨rfl, rfl⟩; rw [hin]) | (go_at_call 42; refine (l2Bytes_any _ _ _ ds _ HIV.out hdk).mono ?_; rintro e w' ⟨rfl, rfl⟩; rw [hab]))
        refine bodyPost_ret (results_tmp2 (by rfl) _ _ _) rfl ?_
        rw [HALL.out]
        exact ⟨_, 0, rfl, own_base (World.ownsRow_lit V #[] 0 (Nat.le_refl _) (by simp [maxLen]) rfl) HBV.out.size, HBV.out.alloc HBV.out.size _⟩
      have hin2 := inB_iff.1 hin
      by_cases k3 : (ds.length : Int) > (n : Int) - (p : Int) - s
      · have hno := patL_bad (n := n) (p := p) (out := xs) hko (by rw [← HT.out]; simp [patOk]; omega)
        rw [hno] at hall
        have HALL := Lib.hid hall
        clear hall hno
        go_wp2_with (first | (go_at_call 41; rw [← hV.out]; refine (l1In_any _ _ _ _).mono ?_; rintro e w' ⟨rfl, rfl⟩; rw [hin]) | (go_at_call 42; refine (l2Bytes_any _ _ _ ds _ HIV.out hdk).mono ?_; rintro e w' ⟨rfl, rfl⟩; rw [hab]))
        refine bodyPost_ret (results_tmp2 (by rfl) _ _ _) rfl ?_
        rw [HALL.out]
        exact ⟨_, 0, rfl, own_base (World.ownsRow_lit V #[] 0 (Nat.le_refl _) (by simp [maxLen]) rfl) HBV.out.size, HBV.out.alloc HBV.out.size _⟩
      cases hab : allB ds
      · have hno := patL_bad (n := n) (p := p) (out := xs) hko (by rw [← HT.out]; simp [patOk, hab])
        rw [hno] at hall
        have HALL := Lib.hid hall
        clear hall hno
        go_wp2_with (first | (go_at_call 41; rw [← hV.out]; refine (l1In_any _ _ _ _).mono ?_; rintro e w' ⟨rfl, rfl⟩; rw [hin]) | (go_at_call 42; refine (l2Bytes_any _ _ _ ds _ HIV.out hdk).mono ?_; rintro e w' ⟨rfl, rfl⟩; rw [hab]))
        refine bodyPost_ret (results_tmp2 (by rfl) _ _ _) rfl ?_
        rw [HALL.out]
        exact ⟨_, 0, rfl, own_base (World.ownsRow_lit V #[] 0 (Nat.le_refl _) (by simp [maxLen]) rfl) HBV.out.size, HBV.out.alloc HBV.out.size _⟩
      have hgo := patL_good (n := n) (p := p) (out := xs) hko (by rw [← HT.out]; simp [patOk, hab]; omega)
      rw [← HT.out] at hgo
      simp only at hgo
      rw [hgo] at hall
      obtain ⟨sn, rfl⟩ := Int.eq_ofNat_of_zero_le hin2.1
      rw [Int.toNat_natCast] at hall
      have HALL := Lib.hid hall
      clear hgo hall
      have hfit : p + sn + ds.length ≤ n := by omega
      have r0 : (0 : Int) ≤ (p : Int) + (sn : Int) := by omega
      have r4 : IntKind.i64.wrap ((p : Int) + (sn : Int) + (ds.length : Int)) = (p : Int) + (sn : Int) + (ds.length : Int) := IntWalk.i64_in _ (by omega)
      go_wp2_with (first | (go_at_call 41; rw [← hV.out]; refine (l1In_any _ _ _ _).mono ?_; rintro e w' ⟨rfl, rfl⟩; rw [hin]) | (go_at_call 42; refine (l2Bytes_any _ _ _ ds _ HIV.out hdk).mono ?_; rintro e w' ⟨rfl, rfl⟩; rw [hab]))
      obtain ⟨U, hU⟩ : ∃ U : World, U = wr := ⟨_, rfl⟩
      subst hU
      clear y0 y1
      go_loopw [10] (fun s wr' => ∃ j : Nat, j ≤ ds.length ∧ s = .int .i64 j ∧ wr'.ownsRow w.heap.size 3 1 (.slice A1 n c1) n (iv (over xs (p + sn) (ds.take j))) ∧ V.grownBy wr' (Value.slice A1 n c1).ownBlock) (fun s _ => ds.length - (intOf s).toNat)
      case atStart => exact ⟨0, Nat.zero_le _, rfl, by rw [List.take_zero, over_nil]; exact HOV.out, World.grownBy.refl _ _⟩
      case round =>
        obtain ⟨j, hj, rfl, hown, hg⟩ := hrel
        have u0 := grown_cell hg hvl hneb pl0
        have u1 := grown_cell hg hvl hneb pl1
        have hbw := HBV.out.grown hg HBV.out.size (fun q hq => (HO.out.lt q hq).1)
        by_cases hlj : j < ds.length
        · obtain ⟨b2, o2, e2, hb2, x1⟩ := (HI0.out.below hbw).spot hlj
          obtain ⟨g, cap, e3, hg1, hgl⟩ := hown.form (by omega)
          injection e3 with e3 _ e4
          subst e2 e3 e4
          have hox := own_len HO.out
          have hfr := hown.frozenAt (p + sn + j)
          have hcl := hown.cellAt (p + sn + j) (by omega)
          have hst := hown.stored (p + sn + j) (.int .i64 (ds.getD j 0))
          rw [iv_set, over_set (by omega) hlj] at hst
          rw [iv_getD (by rw [over_len (by rw [List.length_take]; omega)]; omega)] at hcl
          have hg2 := hg.trans hst.2
          have o3 := Lib.hid hst.1
          have G3 := Lib.hid hg2
          generalize ds.getD j 0 = y at x1 o3 G3
          have r1 : (j : Int) < (ds.length : Int) := by omega
          have r2 : (p : Int) + (sn : Int) + (j : Int) < (n : Int) := by omega
          have r3 : (0 : Int) ≤ (p : Int) + (sn : Int) + (j : Int) := by omega
          have r5 : IntKind.i64.wrap ((p : Int) + (sn : Int) + (j : Int)) = (p : Int) + (sn : Int) + (j : Int) := IntWalk.i64_in _ (by omega)
          have r6 : ((p : Int) + (sn : Int) + (j : Int)).toNat = p + sn + j := by omega
          clear hst hg2 hown hg hbw
          go_wp2_with fail
          go_roundw
          case rel => exact ⟨j + 1, by omega, by go_num, o3.out, G3.out⟩
          case measure => simp [intOf]; omega
        · obtain rfl : j = ds.length := by omega
          rw [List.take_of_length_le (Nat.le_refl _)] at hown
          have O3 := Lib.hid hown
          have HB3 := Lib.hid hbw
          clear hown hg hbw
          go_wp2_with fail
          go_roundw
          case rel => exact ⟨k + 1, p + sn + ds.length, over xs (p + sn) ds, by omega, hfit, by go_num, by go_num, O3.out, HALL.out, HB3.out⟩
          case measure => simp [intOf]; omega
    · obtain rfl : k = m := by omega
      rw [patL_done (by omega)] at hall
      go_wp2
      refine bodyPost_ret (results_tmp2 (by rfl) _ _ _) rfl ?_
      rw [hall]
      have hlx := own_len hown
      rw [hlx] at hown ⊢
      exact ⟨A1, c1, rfl, hown, hbw⟩
end Go.Proofs.Ytlbalepcjamhcaa
