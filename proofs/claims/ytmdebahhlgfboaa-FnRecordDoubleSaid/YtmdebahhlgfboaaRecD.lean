/-
  The drawn law on doubled recordings: its walk. No condition.
-/
import Derived.Test.YtmdebahhlgfboaaRecW
import Derived.Deep.RegionHeld3
import Derived.Deep.DrawnRows
namespace Go.Proofs.Ytmdebahhlgfboaa
open Go.RowKit
set_option linter.unusedVariables false
set_option linter.unusedSimpArgs false
attribute [local go_sem ↓] Go.wp_at_zero Go.wp_at_succ
/-- append of a list that only is read, at a step of a region that draws. -/
theorem step_push_list {ops : Array Oper} {o : Oper} {a : Act} {K : Act → World → Prop} {Q : Exit → Act → World → Prop} {E : Prop} {w : World} (hgd : o.guard = none) (s x : Operand)
    (ho : o.op = .call { callee := .builtin .append, args := #[s, x], argTypes := #[29, 29] })
    (base n c m d B : Nat) (A : Option Addr) (ad : Addr) (xs ys : List Int) (hs : a.eval s = .slice A n c) (hx : a.eval x = .slice (some ad) m d)
    (hown : w.ownsRow base 3 1 (.slice A n c) n (iv xs)) (hy : Ints w B (some ad) m ys) (hn : n + m ≤ 1000000000) (hb : base ≤ w.heap.size)
    (h : ∀ A' c' w', w'.ownsRow base 3 1 (.slice A' (n + m) c') (n + m) (iv (xs ++ ys)) → Below base w w' → K (a.put o.dst (.slice A' (n + m) c')) w') :
    if Region.wanted o (yielded ops a.tmps) = true then Oper.wp Try.prog o a w K Q else E := by
  have hw : Region.wanted o (yielded ops a.tmps) = true := by simp [Region.wanted, hgd]
  rw [if_pos hw]
  obtain ⟨i0, hi0, hz0, hz1, hz2⟩ := info_parts int_info
  have hnews : ∀ j u, (iv ys)[j]? = some u → w.cell? (ad.add j) = some u := by
    intro j u hj
    have hm : 0 < m := by
      obtain ⟨hk, _⟩ := iv_get hj
      have := hy.len; omega
    obtain ⟨ad', e, _, hc⟩ := hy.2 hm
    injection e with e
    subst e
    exact hc j u hj
  have h1 : ∀ u ∈ iv ys, u.oneCell' = true := by
    intro u hu
    simp only [iv, List.mem_map] at hu
    obtain ⟨z, _, rfl⟩ := hu
    rfl
  obtain ⟨v', w', hr, h2, h3, h4, h5⟩ := run_append_own_at (P := Try.prog) w base 29 o.type 3 i0 (.int .i64 0) 1 8 Try.underlying29 hi0 hz0 hz1 hz2 rfl (by omega) _ n (iv xs) hown ad m d (iv ys) hy.1 hnews h1 (by simp only [maxLen]; omega) (by omega) hb
  unfold Oper.wp execOp
  simp only [ho, resolve, invoke, builtin, Sem.run_bind, Sem.run_pure, Result.andThen_ok, List.map_toArray, List.map_cons, List.map_nil, hs, hx, hr]
  obtain ⟨A', c', rfl⟩ := own_form h2
  rw [← iv_append] at h2
  exact h A' c' w' h2 (below_of_grown h3 hb fun k hk => (hown.lt k hk).1)
theorem ints_lit {w : World} (xs : List Int) (cs : Array Value) (hcs : cs.toList = iv xs) (hm : xs.length ≤ 1000) : Ints (w.alloc (.cells cs 3)) (w.heap.size + 1) (some ⟨w.heap.size, 0, none⟩) xs.length xs := by
  have hs : cs.size = xs.length * 1 := by rw [← Array.length_toList, hcs, iv_len, Nat.mul_one]
  have o : (w.alloc (.cells cs 3)).ownsRow w.heap.size 3 1 (.slice (some ⟨w.heap.size, 0, none⟩) xs.length xs.length) xs.length cs.toList := World.ownsRow_lit w cs xs.length (Nat.le_refl _) (by simp only [maxLen]; omega) hs
  rw [hcs] at o
  have := own_ints o
  simpa using this
theorem twice_succ {xs : List Int} {k : Nat} (hk : k < xs.length) : twice (xs.take (k + 1)) = twice (xs.take k) ++ [xs.getD k 0, xs.getD k 0] := by
  rw [List.take_add_one, List.getElem?_eq_getElem hk, List.getD_eq_getElem?_getD, List.getElem?_eq_getElem hk]
  simp only [twice, List.flatMap_append, Option.toList_some, List.flatMap_cons, List.flatMap_nil, List.append_nil, Option.getD_some]
theorem slow_get {o : List THold} {k : Nat} (hk : k < o.length) : (slow o).getD k (0, 0) = ((o.getD k (0, 0)).1, 2 * (o.getD k (0, 0)).2) := by
  unfold slow
  rw [List.getD_eq_getElem?_getD, List.getD_eq_getElem?_getD, List.getElem?_map, List.getElem?_eq_getElem hk]
  rfl
set_option maxHeartbeats 4000000 in
theorem fnRecordDouble_walk (w : World) (A : Option Addr) (n c : Nat) (zs : List Int) (h : IsRow .u8 w A n c zs) :
    Calls Try.prog 6 #[.slice A n c] w fun e w' => e = .returned (.bool true) ∧ Below w.heap.size w w' := by
  by_cases hlong : 1048576 < n
  · go_enter Try.func6, Try.ntmps6
    go_wp2_with fail
    go_ret
    exact ⟨rfl, Below.refl _ _⟩
  have HI := Lib.hid h
  clear h
  go_enter Try.func6, Try.ntmps6
  go_wp2_with fail
  refine (drawRecordFrames_any A n c zs _ HI.out).mono ?_
  rintro e w1 ⟨B, cB, xs, rfl, -, hx, hl, hb⟩
  have HX := Lib.hid hx
  have HB := Lib.hid hb
  have hw1 := hb.size
  have hE := Lib.hid (Env.start w1)
  clear hx hb
  have hrl := recR_len xs
  go_wp2_with fail
  refine (recordFrames_impl B xs.length cB xs _ (hE.out.arg HX.out) (by omega)).mono ?_
  rintro e w' ⟨A', c', rfl, o, b⟩
  replace hE := Lib.hid (hE.out.push o b)
  clear o b
  go_wp2_with fail
  refine (recordFrames_spec B xs.length cB xs _ (hE.out.arg HX.out) (by omega)).mono ?_
  rintro e w' ⟨A', c', rfl, o, b⟩
  replace hE := Lib.hid (hE.out.push o b)
  clear o b
  go_wp2_with fail
  refine (sameHolds_same _ _ _ _ _ _ _ (hE.out.reads 1 rfl) (hE.out.reads 0 rfl) (by omega)).mono ?_
  rintro e w' ⟨rfl, b⟩
  replace hE := Lib.hid (hE.out.below b)
  clear b
  rcases recR_cases xs with h0 | ⟨hall, h3, hrec⟩
  · rw [h0] at hE ⊢
    go_wp2_with (go_at_call 30; refine (alive_any _).mono ?_; rintro e w' ⟨rfl, rfl⟩)
    go_ret
    exact ⟨rfl, HB.out.trans (hE.out.bel.mono hw1)⟩
  obtain ⟨o, ho⟩ : ∃ o, o = recR xs := ⟨_, rfl⟩
  rw [← ho] at hE hrl ⊢
  rw [← ho] at hrec
  by_cases hz : o.length = 0
  · clear hrec ho
    obtain rfl : o = [] := List.length_eq_zero_iff.1 hz
    clear hz
    go_wp2_with (go_at_call 30; refine (alive_any _).mono ?_; rintro e w' ⟨rfl, rfl⟩)
    go_ret
    exact ⟨rfl, HB.out.trans (hE.out.bel.mono hw1)⟩
  have hz1 : ((o.length : Int) == 0) = false := by simp; exact fun h => hz (by simp [h])
  by_cases h6 : 2 * (xs.length : Int) > 300
  · replace hrec := Lib.hid hrec
    replace ho := Lib.hid ho
    go_wp2_with (go_at_call 30; refine (alive_any _).mono ?_; rintro e w' ⟨rfl, rfl⟩)
    go_ret
    exact ⟨rfl, HB.out.trans (hE.out.bel.mono hw1)⟩
  have hsl : recR (twice xs) = slow o := by
    have : recR (twice xs) = recF (twice xs) := by unfold recR; rw [if_pos (by rw [twice_len, twice_allB hall]; simp; omega)]
    rw [this, rec_twice, hrec]
  have hob : ∀ t ∈ o, 1 ≤ t.2 ∧ t.2 ≤ 300 := by
    have := (rec_inv (xs := xs) xs.length (Nat.le_refl _)).2.1
    rw [List.take_length, ← hrec] at this
    intro t ht
    have := this t ht
    omega
  have HSL := Lib.hid hsl
  have HOB := Lib.hid hob
  have hol : o.length ≤ 300 := hrl
  clear hsl hob hrec ho hall hz hrl
  go_wp2_with fail
  obtain ⟨W4, hW4⟩ : ∃ W4, W4 = w' := ⟨_, rfl⟩
  rw [← hW4] at hE ⊢
  clear hW4
  have hwb : Hid (∀ b off, B = some ⟨b, off, none⟩ → 0 < xs.length → b < W4.heap.size) := Lib.hid (by
    intro b off e h0
    obtain ⟨b', off', e', hb', _⟩ := (hE.out.arg HX.out).spot (k := 0) h0
    rw [e] at e'
    injection e' with e'
    injection e' with e2 e3
    subst e2
    exact hb')
  have hown0 : (W4.alloc (.cells #[] 3)).ownsRow W4.heap.size 3 1 (.slice (some ⟨W4.heap.size, 0, none⟩) 0 0) 0 (iv []) := World.ownsRow_lit W4 #[] 0 (Nat.le_refl _) (by simp [maxLen]) rfl
  have HO0 := Lib.hid hown0
  have HB0 := Lib.hid ((Below.refl W4.heap.size W4).alloc (Nat.le_refl _) (.cells #[] 3))
  clear hown0
  go_loopw [5, 6] (fun out i wr => ∃ (k : Nat) (A' : Option Addr) (c' : Nat), k ≤ xs.length ∧ i = .int .i64 k ∧ out = .slice A' (2 * k) c' ∧ wr.ownsRow W4.heap.size 3 1 (.slice A' (2 * k) c') (2 * k) (iv (twice (xs.take k))) ∧ Below W4.heap.size W4 wr) (fun _ i _ => xs.length - (intOf i).toNat)
  case atStart => exact ⟨0, _, _, Nat.zero_le _, rfl, rfl, HO0.out, HB0.out⟩
  case round =>
    obtain ⟨k, A', c', hk, rfl, rfl, hown, hbw⟩ := hrel
    by_cases hlt : k < xs.length
    · obtain ⟨b, off, e1, _, c0⟩ := (((hE.out.arg HX.out).below hbw).spot hlt)
      have hb := hwb.out b off e1 (by omega)
      have htw := Lib.hid (twice_succ hlt)
      obtain ⟨x, hxe⟩ : ∃ x, x = xs.getD k 0 := ⟨_, rfl⟩
      rw [← hxe] at c0 htw
      have hsz := hbw.size
      have hb2 : b < wr.heap.size := by omega
      have q0 : (0 : Int) ≤ (k : Int) := by omega
      have q1 : (k : Int) < (xs.length : Int) := by omega
      have HO := Lib.hid (show wr.drew.ownsRow W4.heap.size 3 1 (.slice A' (2 * k) c') (2 * k) (iv (twice (xs.take k))) from hown)
      have HBW := Lib.hid hbw
      replace e1 := Lib.hid e1
      clear hown hbw hxe
      rw [e1.out]
      go_wp2_with fail
      go_region_held3 (fun w' => w'.cell? ⟨b, off + k, none⟩ = some (.int .i64 x)) (first | exact c0 | exact (World.cell?_alloc_lt _ _ _ hb2).trans c0 | exact (b5.cell hb).trans ((World.cell?_alloc_lt _ _ _ hb2).trans c0)) ((refine step_push_list (by rfl) _ _ (by rfl) W4.heap.size (2 * k) c' 2 2 (wr.heap.size + 1) A' ⟨wr.heap.size, 0, none⟩ (twice (xs.take k)) [x, x] (by rfl) (by rfl) (HO.out.alloc _) (ints_lit [x, x] _ rfl (by simp)) (by omega) (Nat.le_trans hsz (size_alloc_le _ _)) ?_; intro A5 c5 w5 o5 b5; rw [← htw.out] at o5))
      go_wp2_with fail
      go_roundw
      case rel => exact ⟨k + 1, A5, c5, by omega, by go_num, rfl, o5, (HBW.out.drew.alloc hsz _).trans b5⟩
      case measure => simp [intOf]; omega
    · obtain rfl : k = xs.length := by omega
      rw [List.take_of_length_le (Nat.le_refl _)] at hown
      have htl : (twice xs).length = 2 * xs.length := twice_len xs
      replace hE := Lib.hid (hE.out.push hown hbw)
      clear hown hbw
      go_wp2_with fail
      refine (recordFrames_impl _ _ _ (twice xs) _ (hE.out.ints 0 rfl) (by omega)).mono ?_
      rintro e w6 ⟨A6, c6, rfl, o6, b6⟩
      rw [HSL.out] at o6 ⊢
      have hsll : (slow o).length = o.length := by simp [slow]
      rw [hsll] at o6 ⊢
      replace hE := Lib.hid (hE.out.push o6 b6)
      clear o6 b6
      go_wp2_with fail
      go_loopw [8] (fun i wr => ∃ k : Nat, k ≤ o.length ∧ i = .int .i64 k ∧ ∃ q, wr = w6.drewN q) (fun i _ => o.length - (intOf i).toNat)
      case atStart => exact ⟨0, Nat.zero_le _, rfl, 0, rfl⟩
      case round =>
        obtain ⟨k, hk, rfl, q, rfl⟩ := hrel
        by_cases hlt : k < o.length
        · obtain ⟨b, off, e1, _, s0, s1⟩ := hold_spot (hE.out.reads 0 rfl) hlt
          obtain ⟨b2, off2, e2, _, t0, t1⟩ := hold_spot (hE.out.reads 3 rfl) hlt
          rw [slow_get hlt] at s0 s1
          have hm := HOB.out (o.getD k (0, 0)) (by rw [List.getD_eq_getElem?_getD, List.getElem?_eq_getElem hlt]; exact List.getElem_mem hlt)
          generalize o.getD k (0, 0) = t at s0 s1 t0 t1 hm
          obtain ⟨x0, x1⟩ := t
          simp only at s0 s1 hm
          obtain ⟨hm0, hm1⟩ := hm
          have q0 : (0 : Int) ≤ (k : Int) := by omega
          have q1 : (k : Int) < (o.length : Int) := by omega
          have g1 : decide ((k : Int) ≥ (o.length : Int)) = false := decide_eq_false (by omega)
          obtain ⟨y1, hy1⟩ : ∃ y1, y1 = 2 * x1 := ⟨_, rfl⟩
          have w1' : IntKind.i64.wrap (2 * x1) = y1 := by rw [IntWalk.i64_in _ (by omega), hy1]
          have w2' : 2 * x1 = y1 := hy1.symm
          have w3' : IntKind.i64.wrap y1 = y1 := IntWalk.i64_in _ (by omega)
          rw [← hy1] at s1
          have hx0 : (x0 != x0) = false := by simp
          have hx1 : (y1 != y1) = false := by simp
          clear hy1
          have e1 := Lib.hid e1
          have e2 := Lib.hid e2
          rw [e1.out, e2.out]
          go_wp2_with fail
          go_quiet (fail)
          go_wp2_with fail
          go_roundw
          case rel => exact ⟨k + 1, by omega, by go_num, _, by first | rfl | simp⟩
          case measure => simp [intOf]; omega
        · obtain rfl : k = o.length := by omega
          replace hE := Lib.hid (hE.out.below (below_drewN (Below.refl _ _) q))
          go_wp2_with fail
          go_ret
          exact ⟨rfl, HB.out.trans (hE.out.bel.mono hw1)⟩
end Go.Proofs.Ytmdebahhlgfboaa
