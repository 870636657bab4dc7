/-
  Lists of sprites in the laws: copies, comparisons of equal lists, sizes. No condition but that lengths stay in range.
-/
import Derived.Test.YtkcabllnlbcgdaaRws
import Derived.Test.YtkcabllnlbcgdaaFam
namespace Go.Proofs.Ytkcabllnlbcgdaa
open Go.RowKit
set_option linter.unusedVariables false
set_option linter.unusedSimpArgs false
theorem fl6_all (ss : List Spr) : ∀ t ∈ ss.map Spr.cs, t.length = 6 := fun t ht => by
  obtain ⟨s, _, rfl⟩ := List.mem_map.1 ht
  rfl
theorem setL_fl6 {ss : List Spr} {k : Nat} (hk : k < ss.length) (s : Spr) : setL (fl6 ss) (k * 6) s.cs = fl6 (ss.set k s) := by
  unfold fl6
  rw [setL_flat (fl6_all ss) (by simpa using hk) rfl, List.map_set]
theorem fl6_zeros (n : Nat) : (List.replicate n Spr.z.cs).flatten = fl6 (List.replicate n Spr.z) := by unfold fl6; rw [List.map_replicate]
theorem spr_info : (Try.prog.info? 70).map (fun i => (i.zero, i.size, i.bytes)) = some (some (.agg Spr.z.cs.toArray), Spr.z.cs.length, 32) := by kernel_rfl
theorem spr_size (s : Spr) : (Try.prog.info? 70).map (·.size) = some s.cs.length := by show _ = some 6; kernel_rfl
theorem sprOne (s : Spr) : s.cs.toArray.all (·.oneCell') = true := all_oneCell_toArray fun v hv => by
  simp only [Spr.cs, List.mem_cons, List.not_mem_nil, or_false] at hv
  rcases hv with rfl | rfl | rfl | rfl | rfl | rfl <;> rfl
theorem spr_sizeA (s : Spr) : (Try.prog.info? 70).map (·.size) = some s.cs.toArray.size := by show _ = some 6; kernel_rfl
theorem sp_of_own {w : World} {base e n c : Nat} {A : Option Addr} {ss : List Spr} (h : w.ownsRow base e 6 (.slice A n c) n (fl6 ss)) : SpRd w w.heap.size A n ss := ⟨by have := h.1; rw [fl6_len] at this; omega, Reads.of_own h⟩
set_option maxHeartbeats 1000000 in
theorem toSprite_any (s : Spr) (w : World) :
    Calls Try.prog 89 #[s.val] w fun e w' => e = .returned s.val ∧ Below w.heap.size w w' := by
  obtain ⟨X, Y, N, ac, dn, be⟩ := s
  unfold Spr.val
  go_enter Try.func89, Try.ntmps89
  go_wp2
  refine bodyPost_ret (v := .agg #[.int .i64 X, .int .i64 Y, .int .i64 N, .bool ac, .bool dn, .bool be]) (by simp [results, Try.results89, go_sem]) rfl ⟨rfl, ?_⟩
  exact ((((Below.refl _ _).alloc (Nat.le_refl _) _).alloc (by simp) _).alloc (by simp; omega) _)
theorem lspr_size (s : Spr) : (Try.prog.info? 122).map (·.size) = some s.cs.length := by show _ = some 6; kernel_rfl
set_option maxRecDepth 20000 in
set_option maxHeartbeats 2000000 in
theorem toSpriteS_any (A : Option Addr) (n c : Nat) (ss : List Spr) (w : World) (h : SpRd w w.heap.size A n ss) (hn : n ≤ 1000000000) :
    Calls Try.prog 70 #[.slice A n c] w fun e w' => ∃ A' c', e = .returned (.slice A' n c') ∧ w'.ownsRow w.heap.size 70 6 (.slice A' n c') n (fl6 ss) ∧ Below w.heap.size w w' := by
  have hl := h.1
  have H := Lib.hid h
  clear h
  go_enter Try.func70, Try.ntmps70
  go_wp2_with (at_make; refine make_rows _ rfl _ _ 59 70 Spr.z.cs 32 rfl Try.underlying59 spr_info (by decide) (by omega) n rfl rfl hn ?_; intro w1 ho1 hb1; replace ho1 := Lib.hid ho1; replace hb1 := Lib.hid hb1)
  go_loopw [4] (fun i wr => ∃ k : Nat, k ≤ n ∧ i = .int .i64 k ∧ wr.ownsRow w.heap.size 70 6 (.slice (some ⟨w.heap.size, 0, none⟩) n n) n (fl6 (ss.take k ++ List.replicate (n - k) Spr.z)) ∧ Below w.heap.size w wr) (fun i _ => n - (intOf i).toNat)
  case atStart => exact ⟨0, Nat.zero_le _, rfl, by have h6 : w1.ownsRow w.heap.size 70 6 (.slice (some ⟨w.heap.size, 0, none⟩) n n) n (List.replicate n Spr.z.cs).flatten := ho1.out; rw [fl6_zeros] at h6; simpa using h6, hb1.out⟩
  case round =>
    obtain ⟨k, hk, rfl, hown, hb⟩ := hrel
    by_cases hlt : k < n
    · obtain ⟨b, off, rfl, hb1', hc⟩ := (H.out.below hb).spot hlt
      obtain ⟨s, hs⟩ : ∃ s, ss.getD k Spr.z = s := ⟨_, rfl⟩
      rw [hs] at hc
      have HC := Lib.hid hc
      have hgrow := Lib.hid (rows_grow Spr.z n k ss hl hlt)
      have HO := Lib.hid hown
      have HB := Lib.hid hb
      have q0 : (0 : Int) ≤ (k : Int) := by omega
      have q1 : (k : Int) < (n : Int) := by omega
      clear hc hown hb ho1 hb1
      go_wp2_with (first | (refine at_load (ty := 122) rfl ?_; refine wpList_load_mid rfl 122 _ rfl b (off + k * 6) rfl s.cs _ HC.out Try.underlying122 rfl (lspr_size s) ?_) | (go_at_call 89; refine (toSprite_any s _).mono ?_; rintro e w5 ⟨rfl, b5⟩; have o5 := Lib.hid (own_below HO.out b5); have t5 := Lib.hid (own_there o5.out (o := k * 6) (m := s.cs.toArray.size) (by show k * 6 + 6 ≤ n * 6; omega)); replace b5 := Lib.hid b5) | (refine at_store (ty := 70) rfl ?_; refine wpList_store_mid rfl 70 _ _ rfl w.heap.size (k * 6) s.cs.toArray rfl rfl t5.out (spr_sizeA s) (sprOne s) ?_))
      have hst := own_setCells s.cs (k * 6) _ _ o5.out
      rw [setL_fl6 (by simp; omega), ← hs, hgrow.out, hs] at hst
      have HST := Lib.hid hst
      clear hst
      go_wp2_with fail
      go_roundw
      case rel => exact ⟨k + 1, by omega, by go_num, HST.out.1, (below_step HB.out b5.out HB.out.size).grown HST.out.2 (below_step HB.out b5.out HB.out.size).size (by intro k hk; injection hk with hk; omega)⟩
      case measure => simp [intOf]; omega
    · obtain rfl : k = n := by omega
      have hg : ss.take k ++ List.replicate (k - k) Spr.z = ss := by rw [Nat.sub_self, List.replicate_zero, List.append_nil, List.take_of_length_le (by omega)]
      rw [hg] at hown
      replace hown := Lib.hid hown
      replace hb := Lib.hid hb
      clear ho1 hb1
      go_wp2_with fail
      go_ret
      exact ⟨_, _, rfl, hown.out, hb.out⟩
set_option maxHeartbeats 1000000 in
theorem eqSprite_same (s : Spr) (w : World) :
    Calls Try.prog 93 #[s.val, s.val] w fun e w' => e = .returned (.bool true) ∧ Below w.heap.size w w' := by
  obtain ⟨X, Y, N, ac, dn, be⟩ := s
  unfold Spr.val
  go_enter Try.func93, Try.ntmps93
  go_wp2
  go_ret
  exact ⟨rfl, (((Below.refl _ _).alloc (Nat.le_refl _) _).alloc (by simp) _)⟩
set_option maxRecDepth 20000 in
set_option maxHeartbeats 2000000 in
theorem eqSpriteS_same (A A' : Option Addr) (n c c' : Nat) (ss : List Spr) (w : World) (h : SpRd w w.heap.size A n ss) (h' : SpRd w w.heap.size A' n ss) (hn : n ≤ 1000000000) :
    Calls Try.prog 73 #[.slice A n c, .slice A' n c'] w fun e w' => e = .returned (.bool true) ∧ Below w.heap.size w w' := by
  have H := Lib.hid h
  have H' := Lib.hid h'
  clear h h'
  go_enter Try.func73, Try.ntmps73
  go_wp2_with fail
  go_loopw [5] (fun i wr => ∃ k : Nat, k ≤ n ∧ i = .int .i64 k ∧ Below w.heap.size w wr) (fun i _ => n - (intOf i).toNat)
  case atStart => exact ⟨0, Nat.zero_le _, rfl, Below.refl _ _⟩
  case round =>
    obtain ⟨k, hk, rfl, hb⟩ := hrel
    by_cases hlt : k < n
    · obtain ⟨b1, o1, rfl, l1, r1⟩ := (H.out.below hb).spot hlt
      obtain ⟨b2, o2, rfl, l2, r2⟩ := (H'.out.below hb).spot hlt
      generalize ss.getD k Spr.z = s at r1 r2
      obtain ⟨ι, hne, G, hall2, hsur⟩ := fam_of wr
      have S1 := fun i => spc_of (w := G i) (fun j v hj => ((hall2 i).cell (Nat.lt_of_lt_of_le l1 hb.size)).trans (r1 j v hj))
      have S2 := fun i => spc_of (w := G i) (fun j v hj => ((hall2 i).cell (Nat.lt_of_lt_of_le l2 hb.size)).trans (r2 j v hj))
      have g0 := fun i => (S1 i).c0
      have g1 := fun i => (S1 i).c1
      have g2 := fun i => (S1 i).c2
      have g3 := fun i => (S1 i).c3
      have g4 := fun i => (S1 i).c4
      have g5 := fun i => (S1 i).c5
      have k0 := fun i => (S2 i).c0
      have k1 := fun i => (S2 i).c1
      have k2 := fun i => (S2 i).c2
      have k3 := fun i => (S2 i).c3
      have k4 := fun i => (S2 i).c4
      have k5 := fun i => (S2 i).c5
      clear S1 S2
      have q0 : (0 : Int) ≤ (k : Int) := by omega
      have q1 : (k : Int) < (n : Int) := by omega
      have HBL := Lib.hid hb
      have H2 := Lib.hid hall2
      clear hb r1 r2
      go_wp2_with fail
      refine wp_region_fam G (by kernel_rfl) (by kernel_rfl) (hsur _ (Below.refl _ _).drew) ?_
      repeat (go_big_quiet_step ((go_at_call 93; exact fam_call hall2 hsur _ (eqSprite_same s _) rfl)))
      refine wpQuiet_nil ?_
      rintro _ ⟨nq, rfl⟩
      go_wp2_with fail
      go_roundw
      case rel => exact ⟨k + 1, by omega, by go_num, below_step HBL.out (H2.out nq) HBL.out.size⟩
      case measure => simp [intOf]; omega
    · obtain rfl : k = n := by omega
      replace hb := Lib.hid hb
      go_wp2_with fail
      go_ret
      exact ⟨rfl, hb.out⟩
theorem szSpriteS_any (A : Option Addr) (n c : Nat) (left : Int) (w : World) (h0 : 0 ≤ left) (h1 : left ≤ 1048576) (hn : n ≤ 9223372036854775807) :
    Calls Try.prog 66 #[.slice A n c, .int .i64 left] w fun e w' => e = .returned (.int .i64 (if left - n < 0 then -1 else left - n)) ∧ w = w' := by
  have hw : IntKind.i64.wrap (left - n) = left - n := IntWalk.i64_in _ (by omega)
  by_cases hlt : left - (n : Int) < 0
  · rw [if_pos hlt]
    go_enter Try.func66, Try.ntmps66
    go_wp2
    go_ret
    exact ⟨rfl, rfl⟩
  · rw [if_neg hlt]
    go_enter Try.func66, Try.ntmps66
    go_wp2
    go_ret
    exact ⟨rfl, rfl⟩
end Go.Proofs.Ytkcabllnlbcgdaa
